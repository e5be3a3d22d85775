-- Made by wip/pr.py out of the translation (a turned copy of the kit's print; contracts by hand where said).
import Derived.Test.YtibalpbkmgegnaaGreatDoorPLx0
import Derived.Test.YtibalpbkmgegnaaGreatDoorPLx4
import Derived.Test.YtibalpbkmgegnaaGreatDoorPLx6
import Derived.Test.YtibalpbkmgegnaaGreatDoorPLx7
import Derived.Test.YtibalpbkmgegnaaGreatDoorPLx8
import Derived.Test.YtibalpbkmgegnaaGreatDoorPLx9
namespace Go.Proofs.YtibalpbkmgegnaaGreatDoor.PL
open Go.RowKit Go.Proofs.YtibalpbkmgegnaaGreatDoorW.PrintWords Go.Proofs.YtibalpbkmgegnaaGreatDoorW.PrintLast Go.Proofs.YtibalpbkmgegnaaGreatDoorW.PrintMore
-- shrunk
attribute [local go_sem] max2_int min2_int max_two min_two max_three min_three max_four min_four   -- for this text's walks alone
set_option linter.unusedVariables false
set_option linter.unusedSimpArgs false
set_option maxHeartbeats 8000000
set_option maxRecDepth 100000

/-! ### offer_Drop: function 24 -/
-- BY HAND
-- 47 54
theorem offer_Drop.info:(Tryz.prog.info? 44).map (fun i=>(i.zero,i.size,i.bytes))=some (some (.agg #[.int .i64 0,.int .i64 0,.string ⟨#[]⟩,.int .i64 0,.string ⟨#[]⟩,.bool false]),6,64):=by kernel_rfl
theorem drop_step (p:S44→Bool) (c:ByteArray) (now but:Int) (l:List S44) (i:Nat) (h:i < l.length):dropL p c now but (l.take (i+1))=dropL p c now but (l.take i) ++ [if dropX p c now but l[i]=true then freedX l[i] else l[i]]:=by
 unfold dropL
 rw [List.take_succ_eq_append_getElem h,List.map_append]
 rfl
theorem offer_Drop.freed (x0 x1:Int) (x2:ByteArray) (x3:Int) (x4:ByteArray) (x5:Bool) (w:World) :
  Calls Tryz.prog 54 #[.agg #[.int .i64 x0,.int .i64 x1,.string x2,.int .i64 x3,.string x4,.bool x5]] w fun e w'=>e=.returned (.agg #[.int .i64 x0,.int .i64 0,.string x2,.int .i64 x3,.string (⟨#[]⟩:ByteArray),.bool false])∧Below w.heap.size w w':=by
 go_enter Tryz.func54,Tryz.ntmps54
 go_wp2
 exact bodyPost_ret (v:=.agg #[.int .i64 x0,.int .i64 0,.string x2,.int .i64 x3,.string (⟨#[]⟩:ByteArray),.bool false]) (by simp [results,Tryz.results54,go_sem]) rfl ⟨rfl,by repeat (first|exact Below.refl _ _|apply p3_)⟩
theorem offer_Drop.calls (p:S44→Bool) (G:Nat) (lb:Array Value) (A1:Option Addr) (c1:Nat) (l1:List S44) (now:Int) (client:ByteArray) (but:Int) (w:World) (hr1:Kd.C k44 w A1 l1.length l1) (hc1:l1.length≤c1) (hs:l1.length≤1099511627776∧∀ x∈l1,x.f4.size≤140737488351232)
  (eg:∀ args w,(callFunc G args).run Tryz.prog w=.ok (.enter G args) w)
  (hp:∀ (W:World) (gl:Nat) (x:S44),W.heap[gl]?=some (.cells #[.int .i64 x.f0,.int .i64 x.f1,.string x.f2,.int .i64 x.f3,.string x.f4,.bool x.f5] 44)→Calls Tryz.prog G (#[.pointer (some ⟨gl,0,none⟩)] ++ lb) W fun e w'=>e=.returned (.bool (p x))∧Below W.heap.size W w') :
  Calls Tryz.prog 24 #[.slice A1 l1.length c1,.int .i64 now,.string client,.int .i64 but,.func (.func G) #[] lb] w fun e w'=>∃ v0_:Value,e=.returned v0_∧Kd.R k44 44 w' w.heap.size (fun _=>True) v0_ (dropL p client now but l1)∧Below w.heap.size w w':=by
 have HR1:=am_ hr1
 have HX:=am_ hs.2
 have hl:=hs.1
 have HP:=am_ hp
 have HB:=am_ (Below.refl w.heap.size w)
 have CF:=am_ (fun x0 x1 x2 x3 x4 x5 W=>offer_Drop.freed x0 x1 x2 x3 x4 x5 W)
 clear hr1 hc1 hs hp
 go_enter Tryz.func24,Tryz.ntmps24
 go_wp2
 go_loopg [11,16] l1.length (fun d v11 v16 w'=>∃ i:Nat,i+d=l1.length∧v16=.int .i64 (i:Int)∧Aside0 (Below w.heap.size w w')∧Aside0 (Kd.R k44 44 w' w.heap.size (fun _=>True) v11 (dropL p client now but (l1.take i))))
 case atStart=>exact ⟨0,by omega,rfl,HB,⟨Kd.R_nil _ _ _ _ _⟩⟩
 case round =>
  clear HB
  obtain ⟨i,hd,rfl,HB,HO⟩:=hrel
  by_cases hlt:i < l1.length
  ·have hlz:(i:Int) < (l1.length:Int):=by omega
   obtain ⟨ad,e1,hw0,hw1,hw2,hw3,hw4,hw5⟩:=at_T44 HR1.out (i:Int) (by omega) hlz
   cases e1
   rw [Int.toNat_natCast] at hw0 hw1 hw2 hw3 hw4 hw5
   have hx0:=(HB.out.cell (wb_ w _ hw0)).trans hw0;have hx1:=(HB.out.cell (wb_ w _ hw1)).trans hw1;have hx2:=(HB.out.cell (wb_ w _ hw2)).trans hw2;have hx3:=(HB.out.cell (wb_ w _ hw3)).trans hw3;have hx4:=(HB.out.cell (wb_ w _ hw4)).trans hw4;have hx5:=(HB.out.cell (wb_ w _ hw5)).trans hw5
   have hmem:=(dropLease l1 (i:Int) (by omega) hlz).2
   have hsz:=HX.out _ hmem
   have hrd:rd_T44 l1 (i:Int)=l1[i]:=by
    unfold rd_T44
    rw [Int.toNat_natCast,List.getD_eq_getElem?_getD,List.getElem?_eq_getElem hlt]
    rfl
   have hst:=drop_step p client now but l1 i hlt
   rw [←hrd] at hst
   clear hmem hrd hw0 hw1 hw2 hw3 hw4 hw5
   generalize rd_T44 l1 (i:Int)=x at hx0 hx1 hx2 hx3 hx4 hx5 hsz hst
   obtain ⟨x0,x1,x2,x3,x4,x5⟩:=x
   simp only at hx0 hx1 hx2 hx3 hx4 hx5 hsz
   obtain ⟨bh,hbh⟩:∃ b,holdsB x0 x1 x2 x3 x4 x5 client now=b:=⟨_,rfl⟩
   obtain ⟨bp,hbp⟩:∃ b,p ⟨x0,x1,x2,x3,x4,x5⟩=b:=⟨_,rfl⟩
   have hdx:dropX p client now but ⟨x0,x1,x2,x3,x4,x5⟩=(decide (x0≠but) && (bh && bp)):=by rw [←hbh,←hbp];rfl
   rw [hdx] at hst
   have CH:=am_ (fun W (gl:Nat) (bx:W.heap[gl]?=some (.cells #[.int .i64 x0,.int .i64 x1,.string x2,.int .i64 x3,.string x4,.bool x5] 44))=>lease_Holds.calls gl x0 x1 x2 x3 x4 x5 client now bh W bx hsz hbh)
   have HPx:=am_ (fun W (gl:Nat) (bx:W.heap[gl]?=some (.cells #[.int .i64 x0,.int .i64 x1,.string x2,.int .i64 x3,.string x4,.bool x5] 44))=>HP.out W gl ⟨x0,x1,x2,x3,x4,x5⟩ bx)
   rw [hbp] at HPx
   have hlen:(dropL p client now but (l1.take i)).length≤i:=by unfold dropL;rw [List.length_map,List.length_take];omega
   have LEN:=am_ (show ((dropL p client now but (l1.take i)).length+1) * 64≤140737488355328 by omega)
   have BX:=am_ (blk_new wr (.cells #[.int .i64 x0,.int .i64 x1,.string x2,.int .i64 x3,.string x4,.bool x5] 44))
   clear hbh hbp hdx hsz hlen
   generalize dropL p client now but (l1.take i)=acc at hst HO LEN
   by_cases q0:x0=but
   ·subst q0
    have qb:(x0 == x0)=true:=by simp
    have HST:=am_ (show dropL p client now x0 (l1.take (i+1))=acc ++ [(⟨x0,x1,x2,x3,x4,x5⟩:S44)] by rw [hst,decide_eq_false (fun e=>e rfl),Bool.false_and];rfl)
    clear hst CH HPx CF
    go_upto_region 5 with (fail)
    replace HB:=am_ (p3_ HB.out (.cells #[.int .i64 x0,.int .i64 x1,.string x2,.int .i64 x3,.string x4,.bool x5] 44))
    replace HO:=am_ (r1_ HO.out (.cells #[.int .i64 x0,.int .i64 x1,.string x2,.int .i64 x3,.string x4,.bool x5] 44))
    clear hx0 hx1 hx2 hx3 hx4 hx5
    generalize wr.alloc (.cells #[.int .i64 x0,.int .i64 x1,.string x2,.int .i64 x3,.string x4,.bool x5] 44)=w2 at HB BX HO ⊢
    have v0:=bc_ BX.out 0;have v1:=bc_ BX.out 1;have v2:=bc_ BX.out 2;have v3:=bc_ BX.out 3;have v4:=bc_ BX.out 4;have v5:=bc_ BX.out 5
    go_wp2_with (first|((with_reducible refine gate_builtin (b:=.append) (xs:=#[.tmp 35,.tmp 37]) rfl ?_);at_builtin;refine Kd.R_append k44 (w0:=w) w.heap.size rfl (.tmp 35) (.tmp 37) 27 44 (.agg #[(.int .i64 0),(.int .i64 0),(.string ⟨#[]⟩),(.int .i64 0),(.string ⟨#[]⟩),(.bool false)]) 64 rfl Tryz.underlying27 offer_Drop.info rfl (by decide) (by omega) u11 acc (⟨x0,x1,x2,x3,x4,x5⟩:S44) [.int .i64 x0,.int .i64 x1,.string x2,.int .i64 x3,.string x4,.bool x5] (fun _=>True) (fun _=>False) rfl rfl ?aP (fun _ hk=>hk.elim) ?aF ?aO ?aB ?aS ?aL ?_;(case aP=>exact k44_mkM _ _ _ (⟨x0,x1,x2,x3,x4,x5⟩:S44));(case aF=>exact (fun _ _=>trivial));(case aO=>exact (by (with_reducible repeat (first|apply r1_|apply r2_|apply r3_));exact HO.out));(case aB=>exact (by repeat (with_reducible first|exact HB.out|apply p3_|apply p1_|apply p2_)));(case aS=>exact (bz_ (by repeat (with_reducible first|exact HB.out|apply p3_|apply p1_|apply p2_))));(case aL=>exact LEN.out);intro v9 w9 ho hb hg hat;replace HB:=am_ hb;replace HO:=am_ ho;clear ho hb hg hat))
    go_roundg (l1.length - (i+1))
    case measure=>first|omega|(simp;omega)
    case rel=>exact ⟨i+1,by omega,by go_num,HB,⟨by rw [HST.out];exact HO.out⟩⟩
   have qb:(x0 == but)=false:=by simpa using q0
   have qn:(x0 != but)=true:=by simpa using q0
   rw [decide_eq_true q0,Bool.true_and] at hst
   clear q0
   cases bh with
   | false =>
    have HST:=am_ (show dropL p client now but (l1.take (i+1))=acc ++ [(⟨x0,x1,x2,x3,x4,x5⟩:S44)] from hst)
    clear hst HPx CF
    go_upto_region 5 with (fail)
    replace HB:=am_ (p3_ HB.out (.cells #[.int .i64 x0,.int .i64 x1,.string x2,.int .i64 x3,.string x4,.bool x5] 44))
    replace HO:=am_ (r1_ HO.out (.cells #[.int .i64 x0,.int .i64 x1,.string x2,.int .i64 x3,.string x4,.bool x5] 44))
    clear hx0 hx1 hx2 hx3 hx4 hx5
    generalize wr.alloc (.cells #[.int .i64 x0,.int .i64 x1,.string x2,.int .i64 x3,.string x4,.bool x5] 44)=w2 at HB BX HO ⊢
    have v0:=bc_ BX.out 0;have v1:=bc_ BX.out 1;have v2:=bc_ BX.out 2;have v3:=bc_ BX.out 3;have v4:=bc_ BX.out 4;have v5:=bc_ BX.out 5
    go_wp2_with (first|(go_at_call 47;(with_reducible refine (CH.out _ _ BX.out).mono ?_);rintro e w3 ⟨rfl,hb2⟩;have HO3:=am_ (Kd.R_below (by (with_reducible repeat (first|apply r1_|apply r2_|apply r3_));exact HO.out) hb2);replace HO:=HO3;clear HO3;replace BX:=am_ (kb_ BX.out hb2);replace HB:=am_ (bt_ HB.out hb2);clear hb2 v0 v1 v2 v3 v4 v5;have v0:=bc_ BX.out 0;have v1:=bc_ BX.out 1;have v2:=bc_ BX.out 2;have v3:=bc_ BX.out 3;have v4:=bc_ BX.out 4;have v5:=bc_ BX.out 5)|((with_reducible refine gate_builtin (b:=.append) (xs:=#[.tmp 35,.tmp 37]) rfl ?_);at_builtin;refine Kd.R_append k44 (w0:=w) w.heap.size rfl (.tmp 35) (.tmp 37) 27 44 (.agg #[(.int .i64 0),(.int .i64 0),(.string ⟨#[]⟩),(.int .i64 0),(.string ⟨#[]⟩),(.bool false)]) 64 rfl Tryz.underlying27 offer_Drop.info rfl (by decide) (by omega) u11 acc (⟨x0,x1,x2,x3,x4,x5⟩:S44) [.int .i64 x0,.int .i64 x1,.string x2,.int .i64 x3,.string x4,.bool x5] (fun _=>True) (fun _=>False) rfl rfl ?aP (fun _ hk=>hk.elim) ?aF ?aO ?aB ?aS ?aL ?_;(case aP=>exact k44_mkM _ _ _ (⟨x0,x1,x2,x3,x4,x5⟩:S44));(case aF=>exact (fun _ _=>trivial));(case aO=>exact (by (with_reducible repeat (first|apply r1_|apply r2_|apply r3_));exact HO.out));(case aB=>exact (by repeat (with_reducible first|exact HB.out|apply p3_|apply p1_|apply p2_)));(case aS=>exact (bz_ (by repeat (with_reducible first|exact HB.out|apply p3_|apply p1_|apply p2_))));(case aL=>exact LEN.out);intro v9 w9 ho hb hg hat;replace HB:=am_ hb;replace HO:=am_ ho;clear ho hb hg hat))
    go_roundg (l1.length - (i+1))
    case measure=>first|omega|(simp;omega)
    case rel=>exact ⟨i+1,by omega,by go_num,HB,⟨by rw [HST.out];exact HO.out⟩⟩
   | true =>
   cases bp with
   | false =>
    have HST:=am_ (show dropL p client now but (l1.take (i+1))=acc ++ [(⟨x0,x1,x2,x3,x4,x5⟩:S44)] from hst)
    clear hst CF
    go_upto_region 5 with (fail)
    replace HB:=am_ (p3_ HB.out (.cells #[.int .i64 x0,.int .i64 x1,.string x2,.int .i64 x3,.string x4,.bool x5] 44))
    replace HO:=am_ (r1_ HO.out (.cells #[.int .i64 x0,.int .i64 x1,.string x2,.int .i64 x3,.string x4,.bool x5] 44))
    clear hx0 hx1 hx2 hx3 hx4 hx5
    generalize wr.alloc (.cells #[.int .i64 x0,.int .i64 x1,.string x2,.int .i64 x3,.string x4,.bool x5] 44)=w2 at HB BX HO ⊢
    have v0:=bc_ BX.out 0;have v1:=bc_ BX.out 1;have v2:=bc_ BX.out 2;have v3:=bc_ BX.out 3;have v4:=bc_ BX.out 4;have v5:=bc_ BX.out 5
    go_wp2_with (first|(go_at_call 47;(with_reducible refine (CH.out _ _ BX.out).mono ?_);rintro e w3 ⟨rfl,hb2⟩;have HO3:=am_ (Kd.R_below (by (with_reducible repeat (first|apply r1_|apply r2_|apply r3_));exact HO.out) hb2);replace HO:=HO3;clear HO3;replace BX:=am_ (kb_ BX.out hb2);replace HB:=am_ (bt_ HB.out hb2);clear hb2 v0 v1 v2 v3 v4 v5;have v0:=bc_ BX.out 0;have v1:=bc_ BX.out 1;have v2:=bc_ BX.out 2;have v3:=bc_ BX.out 3;have v4:=bc_ BX.out 4;have v5:=bc_ BX.out 5))
    refine (HPx.out _ _ BX.out).mono ?_
    rintro e w4 ⟨rfl,hb2⟩
    replace HO:=am_ (Kd.R_below HO.out hb2)
    replace BX:=am_ (kb_ BX.out hb2)
    replace HB:=am_ (bt_ HB.out hb2)
    clear hb2 v0 v1 v2 v3 v4 v5
    have v0:=bc_ BX.out 0;have v1:=bc_ BX.out 1;have v2:=bc_ BX.out 2;have v3:=bc_ BX.out 3;have v4:=bc_ BX.out 4;have v5:=bc_ BX.out 5
    have fz0:=bf_ BX.out 0;have fz1:=bf_ BX.out 1;have fz2:=bf_ BX.out 2;have fz3:=bf_ BX.out 3;have fz4:=bf_ BX.out 4;have fz5:=bf_ BX.out 5
    go_wp2_with (first|((with_reducible refine gate_builtin (b:=.append) (xs:=#[.tmp 35,.tmp 37]) rfl ?_);at_builtin;refine Kd.R_append k44 (w0:=w) w.heap.size rfl (.tmp 35) (.tmp 37) 27 44 (.agg #[(.int .i64 0),(.int .i64 0),(.string ⟨#[]⟩),(.int .i64 0),(.string ⟨#[]⟩),(.bool false)]) 64 rfl Tryz.underlying27 offer_Drop.info rfl (by decide) (by omega) u11 acc (⟨x0,x1,x2,x3,x4,x5⟩:S44) [.int .i64 x0,.int .i64 x1,.string x2,.int .i64 x3,.string x4,.bool x5] (fun _=>True) (fun _=>False) rfl rfl ?aP (fun _ hk=>hk.elim) ?aF ?aO ?aB ?aS ?aL ?_;(case aP=>exact k44_mkM _ _ _ (⟨x0,x1,x2,x3,x4,x5⟩:S44));(case aF=>exact (fun _ _=>trivial));(case aO=>exact (by (with_reducible repeat (first|apply r1_|apply r2_|apply r3_));exact HO.out));(case aB=>exact (by repeat (with_reducible first|exact HB.out|apply p3_|apply p1_|apply p2_)));(case aS=>exact (bz_ (by repeat (with_reducible first|exact HB.out|apply p3_|apply p1_|apply p2_))));(case aL=>exact LEN.out);intro v9 w9 ho hb hg hat;replace HB:=am_ hb;replace HO:=am_ ho;clear ho hb hg hat))
    go_roundg (l1.length - (i+1))
    case measure=>first|omega|(simp;omega)
    case rel=>exact ⟨i+1,by omega,by go_num,HB,⟨by rw [HST.out];exact HO.out⟩⟩
   | true =>
    have HST:=am_ (show dropL p client now but (l1.take (i+1))=acc ++ [(⟨x0,0,x2,x3,(⟨#[]⟩:ByteArray),false⟩:S44)] from hst)
    have CFx:=am_ (fun W=>CF.out x0 x1 x2 x3 x4 x5 W)
    clear hst CF
    have CF:=CFx
    have SZ:=am_ (show w.heap.size≤wr.heap.size from HB.out.size)
    replace HO:=am_ (Kd.R_mono (ok':=fun k=>k≠wr.heap.size) (Kd.R_bound HO.out) (fun k hk=>by have:=hk.2.2.1;omega))
    go_upto_region 5 with (fail)
    replace HB:=am_ (p3_ HB.out (.cells #[.int .i64 x0,.int .i64 x1,.string x2,.int .i64 x3,.string x4,.bool x5] 44))
    replace HO:=am_ (r1_ HO.out (.cells #[.int .i64 x0,.int .i64 x1,.string x2,.int .i64 x3,.string x4,.bool x5] 44))
    clear hx0 hx1 hx2 hx3 hx4 hx5
    generalize wr.alloc (.cells #[.int .i64 x0,.int .i64 x1,.string x2,.int .i64 x3,.string x4,.bool x5] 44)=w2 at HB BX HO ⊢
    have v0:=bc_ BX.out 0;have v1:=bc_ BX.out 1;have v2:=bc_ BX.out 2;have v3:=bc_ BX.out 3;have v4:=bc_ BX.out 4;have v5:=bc_ BX.out 5
    go_wp2_with (first|(go_at_call 47;(with_reducible refine (CH.out _ _ BX.out).mono ?_);rintro e w3 ⟨rfl,hb2⟩;have HO3:=am_ (Kd.R_below (by (with_reducible repeat (first|apply r1_|apply r2_|apply r3_));exact HO.out) hb2);replace HO:=HO3;clear HO3;replace BX:=am_ (kb_ BX.out hb2);replace HB:=am_ (bt_ HB.out hb2);clear hb2 v0 v1 v2 v3 v4 v5;have v0:=bc_ BX.out 0;have v1:=bc_ BX.out 1;have v2:=bc_ BX.out 2;have v3:=bc_ BX.out 3;have v4:=bc_ BX.out 4;have v5:=bc_ BX.out 5))
    refine (HPx.out _ _ BX.out).mono ?_
    rintro e w4 ⟨rfl,hb2⟩
    replace HO:=am_ (Kd.R_below HO.out hb2)
    replace BX:=am_ (kb_ BX.out hb2)
    replace HB:=am_ (bt_ HB.out hb2)
    clear hb2 v0 v1 v2 v3 v4 v5
    have v0:=bc_ BX.out 0;have v1:=bc_ BX.out 1;have v2:=bc_ BX.out 2;have v3:=bc_ BX.out 3;have v4:=bc_ BX.out 4;have v5:=bc_ BX.out 5
    have fz0:=bf_ BX.out 0;have fz1:=bf_ BX.out 1;have fz2:=bf_ BX.out 2;have fz3:=bf_ BX.out 3;have fz4:=bf_ BX.out 4;have fz5:=bf_ BX.out 5
    go_upto_region 7 with (first|(go_at_call 54;(with_reducible refine (CF.out _).mono ?_);rintro e w5 ⟨rfl,hb2⟩;have HO3:=am_ (Kd.R_below HO.out hb2);replace HO:=HO3;clear HO3;replace BX:=am_ (kb_ BX.out hb2);replace HB:=am_ (bt_ HB.out hb2);clear hb2 v0 v1 v2 v3 v4 v5;have v0:=bc_ BX.out 0;have v1:=bc_ BX.out 1;have v2:=bc_ BX.out 2;have v3:=bc_ BX.out 3;have v4:=bc_ BX.out 4;have v5:=bc_ BX.out 5;have fz0:=bf_ BX.out 0;have fz1:=bf_ BX.out 1;have fz2:=bf_ BX.out 2;have fz3:=bf_ BX.out 3;have fz4:=bf_ BX.out 4;have fz5:=bf_ BX.out 5))
    have HBW:=am_ (show Below w.heap.size w ((((((w5.setCell ⟨wr.heap.size,0,none⟩ (.int .i64 x0)).setCell ⟨wr.heap.size,1,none⟩ (.int .i64 0)).setCell ⟨wr.heap.size,2,none⟩ (.string x2)).setCell ⟨wr.heap.size,3,none⟩ (.int .i64 x3)).setCell ⟨wr.heap.size,4,none⟩ (.string (⟨#[]⟩:ByteArray))).setCell ⟨wr.heap.size,5,none⟩ (.bool false)) from by repeat (first|exact HB.out|refine bs_ ?_ SZ.out))
    have BXW:=am_ (show ((((((w5.setCell ⟨wr.heap.size,0,none⟩ (.int .i64 x0)).setCell ⟨wr.heap.size,1,none⟩ (.int .i64 0)).setCell ⟨wr.heap.size,2,none⟩ (.string x2)).setCell ⟨wr.heap.size,3,none⟩ (.int .i64 x3)).setCell ⟨wr.heap.size,4,none⟩ (.string (⟨#[]⟩:ByteArray))).setCell ⟨wr.heap.size,5,none⟩ (.bool false)).heap[wr.heap.size]?=some (.cells #[.int .i64 x0,.int .i64 0,.string x2,.int .i64 x3,.string (⟨#[]⟩:ByteArray),.bool false] 44) from by refine blk_put (cs:=#[.int .i64 x0,.int .i64 0,.string x2,.int .i64 x3,.string (⟨#[]⟩:ByteArray),.bool x5]) ?_ 5 _ rfl;refine blk_put (cs:=#[.int .i64 x0,.int .i64 0,.string x2,.int .i64 x3,.string x4,.bool x5]) ?_ 4 _ rfl;refine blk_put (cs:=#[.int .i64 x0,.int .i64 0,.string x2,.int .i64 x3,.string x4,.bool x5]) ?_ 3 _ rfl;refine blk_put (cs:=#[.int .i64 x0,.int .i64 0,.string x2,.int .i64 x3,.string x4,.bool x5]) ?_ 2 _ rfl;refine blk_put (cs:=#[.int .i64 x0,.int .i64 x1,.string x2,.int .i64 x3,.string x4,.bool x5]) ?_ 1 _ rfl;refine blk_put (cs:=#[.int .i64 x0,.int .i64 x1,.string x2,.int .i64 x3,.string x4,.bool x5]) ?_ 0 _ rfl;exact BX.out)
    have HOW:=am_ (show Kd.R k44 44 ((((((w5.setCell ⟨wr.heap.size,0,none⟩ (.int .i64 x0)).setCell ⟨wr.heap.size,1,none⟩ (.int .i64 0)).setCell ⟨wr.heap.size,2,none⟩ (.string x2)).setCell ⟨wr.heap.size,3,none⟩ (.int .i64 x3)).setCell ⟨wr.heap.size,4,none⟩ (.string (⟨#[]⟩:ByteArray))).setCell ⟨wr.heap.size,5,none⟩ (.bool false)) w.heap.size (fun k=>k≠wr.heap.size) u11 acc from (Kd.R_far (p:=⟨wr.heap.size,5,none⟩) (Kd.R_far (p:=⟨wr.heap.size,4,none⟩) (Kd.R_far (p:=⟨wr.heap.size,3,none⟩) (Kd.R_far (p:=⟨wr.heap.size,2,none⟩) (Kd.R_far (p:=⟨wr.heap.size,1,none⟩) (Kd.R_far (p:=⟨wr.heap.size,0,none⟩) HO.out (fun _ hk=>hk) (.int .i64 x0)) (fun _ hk=>hk) (.int .i64 0)) (fun _ hk=>hk) (.string x2)) (fun _ hk=>hk) (.int .i64 x3)) (fun _ hk=>hk) (.string (⟨#[]⟩:ByteArray))) (fun _ hk=>hk) (.bool false)))
    clear HB BX HO v0 v1 v2 v3 v4 v5 fz0 fz1 fz2 fz3 fz4 fz5
    generalize ((((((w5.setCell ⟨wr.heap.size,0,none⟩ (.int .i64 x0)).setCell ⟨wr.heap.size,1,none⟩ (.int .i64 0)).setCell ⟨wr.heap.size,2,none⟩ (.string x2)).setCell ⟨wr.heap.size,3,none⟩ (.int .i64 x3)).setCell ⟨wr.heap.size,4,none⟩ (.string (⟨#[]⟩:ByteArray))).setCell ⟨wr.heap.size,5,none⟩ (.bool false))=w7 at HBW BXW HOW ⊢
    have HB:=HBW
    have BX:=BXW
    have HO:=HOW
    clear HBW BXW HOW
    have v0:=bc_ BX.out 0;have v1:=bc_ BX.out 1;have v2:=bc_ BX.out 2;have v3:=bc_ BX.out 3;have v4:=bc_ BX.out 4;have v5:=bc_ BX.out 5
    go_wp2_with (first|((with_reducible refine gate_builtin (b:=.append) (xs:=#[.tmp 35,.tmp 37]) rfl ?_);at_builtin;refine Kd.R_append k44 (w0:=w) w.heap.size rfl (.tmp 35) (.tmp 37) 27 44 (.agg #[(.int .i64 0),(.int .i64 0),(.string ⟨#[]⟩),(.int .i64 0),(.string ⟨#[]⟩),(.bool false)]) 64 rfl Tryz.underlying27 offer_Drop.info rfl (by decide) (by omega) u11 acc (⟨x0,0,x2,x3,(⟨#[]⟩:ByteArray),false⟩:S44) [.int .i64 x0,.int .i64 0,.string x2,.int .i64 x3,.string (⟨#[]⟩:ByteArray),.bool false] (fun k_=>k_≠wr.heap.size) (fun _=>False) rfl rfl ?aP (fun _ hk=>hk.elim) ?aF ?aO ?aB ?aS ?aL ?_;(case aP=>exact k44_mkM _ _ _ (⟨x0,0,x2,x3,(⟨#[]⟩:ByteArray),false⟩:S44));(case aF=>exact (fun k_ hk=>Kd.freshB (g:=wr.heap.size) (o:=(.cells #[.int .i64 x0,.int .i64 0,.string x2,.int .i64 x3,.string (⟨#[]⟩:ByteArray),.bool false] 44)) BX.out k_ hk));(case aO=>exact (by (with_reducible repeat (first|apply r1_|apply r2_|apply r3_));exact HO.out));(case aB=>exact (by repeat (with_reducible first|exact HB.out|apply p3_|apply p1_|apply p2_)));(case aS=>exact (bz_ (by repeat (with_reducible first|exact HB.out|apply p3_|apply p1_|apply p2_))));(case aL=>exact LEN.out);intro v9 w9 ho hb hg hat;replace HB:=am_ hb;replace HO:=am_ (Kd.R_mono ho (fun _ _=>trivial));clear ho hb hg hat))
    go_roundg (l1.length - (i+1))
    case measure=>first|omega|(simp;omega)
    case rel=>exact ⟨i+1,by omega,by go_num,HB,⟨by rw [HST.out];exact HO.out⟩⟩
  ·have HF:=am_ (show dropL p client now but (l1.take i)=dropL p client now but l1 by rw [List.take_of_length_le (by omega)])
   have hlz:¬ (i:Int) < (l1.length:Int):=by omega
   clear CF HP
   go_wp2
   go_ret
   exact ⟨_,rfl,by rw [←HF.out];exact HO.out,HB.out⟩

/-! ### regis_Full: function 78 -/
def regis_Full.j0:Nat→ByteArray→Int→Int→List Int→List (S95)→Int→ByteArray→List (S93)→Option (ByteArray)
 | 0,_,_,_,_,_,_,_,_=>none
 | k+1,x5,x148000,x148001,x148002,x148003,x148004,x148005,x148006=>(name_May_c.f x5).bind fun t152=>(if t152=true then ((conf_May.f x148000 x148001 x148002 x148003 x148004 x148005 x148006).bind fun t153=>(if t153=true then (some x5) else (some (⟨#[]⟩:ByteArray)))) else (some (⟨#[]⟩:ByteArray)))
def regis_Full.f (k:Nat) (a0_0:Int) (a0_1:Int) (l0_2:List Int) (l0_3:List (S95)) (a0_4:Int) (a0_5:ByteArray) (l0_6:List (S93)) (a1:ByteArray):Option (ByteArray):=(name_Labels_c.f a1).bind fun t148=>(if (t148.length:Int)=1 then (if a1.size+1≤9223372036854775807 then (if (a1 ++ (⟨#[46]⟩:ByteArray)).size+a0_5.size≤9223372036854775807 then (regis_Full.j0 k ((a1 ++ (⟨#[46]⟩:ByteArray)) ++ a0_5) a0_0 a0_1 l0_2 l0_3 a0_4 a0_5 l0_6) else (none)) else (none)) else (if a1.toList=a0_5.toList then (some (⟨#[]⟩:ByteArray)) else ((name_Under_c.f a1 a0_5).bind fun t151=>(if t151=true then (regis_Full.j0 k a1 a0_0 a0_1 l0_2 l0_3 a0_4 a0_5 l0_6) else (some (⟨#[]⟩:ByteArray))))))
theorem regis_Full.mono_l:∀ k,(∀y0 y1 y2 y3 y4 y5 y6 y7,LeO (regis_Full.j0 k y0 y1 y2 y3 y4 y5 y6 y7) (regis_Full.j0 (k+1) y0 y1 y2 y3 y4 y5 y6 y7))
 | 0=>fun _ _ _ _ _ _ _ _ r h=>by simp [regis_Full.j0] at h
 | k+1=>by
  have ih0:=regis_Full.mono_l k
  ·intro y0 y1 y2 y3 y4 y5 y6 y7
   unfold regis_Full.j0
   repeat' first
   | (with_reducible exact ih0 _ _ _ _ _ _ _ _)
   | (with_reducible exact LeO.refl _)
   | (with_reducible exact LeO.none _)
   | (with_reducible refine LeO.ite ?_ ?_)
   | (with_reducible refine LeO.bind ?_ (fun _=>?_))
   | exact ih0 _ _ _ _ _ _ _ _
   | exact LeO.none _
   | refine LeO.ite ?_ ?_
   | refine LeO.bind ?_ (fun _=>?_)
theorem regis_Full.mono:∀ a0 a1 a2 a3 a4 a5 a6 a7 k,LeO (regis_Full.f k a0 a1 a2 a3 a4 a5 a6 a7) (regis_Full.f (k+1) a0 a1 a2 a3 a4 a5 a6 a7):=by
 intro a0 a1 a2 a3 a4 a5 a6 a7 k
 have ih0:=regis_Full.mono_l k
 unfold regis_Full.f
 repeat' first
   | (with_reducible exact ih0 _ _ _ _ _ _ _ _)
   | (with_reducible exact LeO.refl _)
   | (with_reducible exact LeO.none _)
   | (with_reducible refine LeO.ite ?_ ?_)
   | (with_reducible refine LeO.bind ?_ (fun _=>?_))
   | exact ih0 _ _ _ _ _ _ _ _
   | exact LeO.none _
   | refine LeO.ite ?_ ?_
   | refine LeO.bind ?_ (fun _=>?_)
theorem regis_Full.calls (k:Nat) (a0_0:Int) (a0_1:Int) (A0_2:Option Addr) (c0_2:Nat) (l0_2:List Int) (A0_3:Option Addr) (c0_3:Nat) (l0_3:List (S95)) (a0_4:Int) (a0_5:ByteArray) (A0_6:Option Addr) (c0_6:Nat) (l0_6:List (S93)) (a1:ByteArray) (r:ByteArray) (w:World) (hr0_2:Kd.C (Kd.int .i64) w A0_2 l0_2.length l0_2) (hc0_2:l0_2.length≤c0_2) (hr0_3:Kd.C k95 w A0_3 l0_3.length l0_3) (hc0_3:l0_3.length≤c0_3) (hr0_6:Kd.C k93 w A0_6 l0_6.length l0_6) (hc0_6:l0_6.length≤c0_6) (h:regis_Full.f k a0_0 a0_1 l0_2 l0_3 a0_4 a0_5 l0_6 a1=some r) :
  Calls Tryz.prog 78 #[.agg #[.int .i64 a0_0,.int .i64 a0_1,.slice A0_2 l0_2.length c0_2,.slice A0_3 l0_3.length c0_3,.int .i64 a0_4,.string a0_5,.slice A0_6 l0_6.length c0_6],.string a1] w fun e w'=>e=.returned (.string r)∧Below w.heap.size w w':=by
 have hu26:=Tryz.underlying26
 have HR0_2:=am_ hr0_2
 have HC0_2:=am_ hc0_2
 clear hr0_2 hc0_2
 have HR0_3:=am_ hr0_3
 have HC0_3:=am_ hc0_3
 clear hr0_3 hc0_3
 have HR0_6:=am_ hr0_6
 have HC0_6:=am_ hc0_6
 clear hr0_6 hc0_6
 have HB:=am_ (Below.refl w.heap.size w)
 have H:((name_Labels_c.f a1).bind fun t148=>(if (t148.length:Int)=1 then (if a1.size+1≤9223372036854775807 then (if (a1 ++ (⟨#[46]⟩:ByteArray)).size+a0_5.size≤9223372036854775807 then (regis_Full.j0 k ((a1 ++ (⟨#[46]⟩:ByteArray)) ++ a0_5) a0_0 a0_1 l0_2 l0_3 a0_4 a0_5 l0_6) else (none)) else (none)) else (if a1.toList=a0_5.toList then (some (⟨#[]⟩:ByteArray)) else ((name_Under_c.f a1 a0_5).bind fun t151=>(if t151=true then (regis_Full.j0 k a1 a0_0 a0_1 l0_2 l0_3 a0_4 a0_5 l0_6) else (some (⟨#[]⟩:ByteArray)))))))=some r:=h
 clear h
 replace H:=e4_ H
 obtain ⟨t148,A30,H⟩:=H
 replace H:(if (t148.length:Int)=1 then (if a1.size+1≤9223372036854775807 then (if (a1 ++ (⟨#[46]⟩:ByteArray)).size+a0_5.size≤9223372036854775807 then (regis_Full.j0 k ((a1 ++ (⟨#[46]⟩:ByteArray)) ++ a0_5) a0_0 a0_1 l0_2 l0_3 a0_4 a0_5 l0_6) else (none)) else (none)) else (if a1.toList=a0_5.toList then (some (⟨#[]⟩:ByteArray)) else ((name_Under_c.f a1 a0_5).bind fun t151=>(if t151=true then (regis_Full.j0 k a1 a0_0 a0_1 l0_2 l0_3 a0_4 a0_5 l0_6) else (some (⟨#[]⟩:ByteArray))))))=some r:=H
 have A3:=am_ A30
 clear A30
 have HC4:=am_ H
 clear H
 go_enter Tryz.func78,Tryz.ntmps78
 go_upto_block 0 with (first|((with_reducible refine gate_dst (N:=2) rfl ?_);refine box_event ?hg (N:=2) ?hd (cs:=#[.int .i64 a0_0,.int .i64 a0_1,.slice A0_2 l0_2.length c0_2,.slice A0_3 l0_3.length c0_3,.int .i64 a0_4,.string a0_5,.slice A0_6 l0_6.length c0_6]) (t:=26) ?hr ?_;(case hd=>rfl);(case hg=>rfl);(case hr=>first|(go_simp;done)|(go_simp;rfl));intro gb147 hg w5 hbox hb;have n0_:=am_ (bt_ (by repeat (with_reducible first|exact HB.out|apply p3_|apply p1_|apply p2_)) hb);have n1_:=am_ (hbox);have n2_:=am_ ((by rw [hg];exact (bz_ (by repeat (with_reducible first|exact HB.out|apply p3_|apply p1_|apply p2_))):w.heap.size≤gb147));have n3_:=am_ ((by rw [hg];exact (bz_ (by repeat (with_reducible first|exact HB.out|apply p3_|apply p1_|apply p2_))):w.heap.size≤gb147));clear HB;have HB:=n0_;have BK147:=n1_;have GW147:=n2_;have GE147:=n3_;clear n0_ n1_ n2_ n3_;clear hb hbox hg)|((with_reducible refine gate_callee (f:=66) rfl ?_);refine goesL_ (some 9) rfl rfl Tryz.func66 (by kernel_rfl) rfl #[.string a1] rfl (by (try simp only [List.map_toArray,List.map_cons,List.map_nil]);first|done|rfl|(simp only [List.length_drop,List.length_take];rfl)) ?_;(with_reducible refine (name_Labels_c.calls a1 t148 _ A3.out).mono ?_);rintro e w6 ⟨v149,rfl,ho0,hb⟩;refine ⟨_,rfl,?_⟩;have n0_:=am_ (Kd.R_lower ho0 (bz_ (by repeat (with_reducible first|exact HB.out|apply p3_|apply p1_|apply p2_|refine bs_ ?_ GE147.out))));have n1_:=am_ (kb_ (g:=gb147) (o:=.cells #[.int .i64 a0_0,.int .i64 a0_1,.slice A0_2 l0_2.length c0_2,.slice A0_3 l0_3.length c0_3,.int .i64 a0_4,.string a0_5,.slice A0_6 l0_6.length c0_6] 26 (0,0)) (by (with_reducible repeat (first|refine k2_ ?_ _|refine k3_ ?_|refine k1_ ?_ _));exact BK147.out) hb);have n2_:=am_ (bt_ (by repeat (with_reducible first|exact HB.out|apply p3_|apply p1_|apply p2_|refine bs_ ?_ GE147.out)) hb);clear BK147;clear HB;have HO150:=n0_;have BK147:=n1_;have HB:=n2_;clear n0_ n1_ n2_;(try clear hb);(try clear ho0)))
 (try simp only [Act.put,sa_,sb_,sc_])
 go_cut [5] (fun v5 wc=>∃ (kq:Nat) (x5_3:ByteArray),v5=.string x5_3∧Aside0 (regis_Full.j0 kq x5_3 a0_0 a0_1 l0_2 l0_3 a0_4 a0_5 l0_6=some r)∧Aside0 (kq≤k)∧Aside0 (wc.heap[gb147]?=some (.cells #[.int .i64 a0_0,.int .i64 a0_1,(.slice A0_2 l0_2.length c0_2),(.slice A0_3 l0_3.length c0_3),.int .i64 a0_4,.string a0_5,(.slice A0_6 l0_6.length c0_6)] 26 (0,0)))∧Aside0 (Below w.heap.size w wc))
 case first =>
  have H:=HC4.out
  clear HC4
  by_cases c7:(t148.length:Int)=1
  ·rw [if_pos c7] at H
   have c7b0:((t148.length:Int) == 1)=true:=beq_iff_eq.mpr c7
   have c7b1:((t148.length:Int) != 1)=false:=e1_ c7
   clear c7
   (first|rw [c7b0]|(simp only [i64_w,i32_w];rw [c7b0])|skip)
   by_cases c8:a1.size+1≤9223372036854775807
   rotate_left
   ·rw [if_neg c8] at H
    exact absurd H (by simp)
   rw [if_pos c8] at H
   have c8b0:=eq_true c8
   have c8b1:decide (a1.size+1≤9223372036854775807)=true:=decide_eq_true c8
   try have c8b2:(9223372036854775807 < a1.size+1)=False:=eq_false (Nat.not_lt.2 c8)
   by_cases c9:(a1 ++ (⟨#[46]⟩:ByteArray)).size+a0_5.size≤9223372036854775807
   rotate_left
   ·rw [if_neg c9] at H
    exact absurd H (by simp)
   rw [if_pos c9] at H
   have c9b0:=eq_true c9
   have c9b1:decide ((a1 ++ (⟨#[46]⟩:ByteArray)).size+a0_5.size≤9223372036854775807)=true:=decide_eq_true c9
   try have c9b2:(9223372036854775807 < (a1 ++ (⟨#[46]⟩:ByteArray)).size+a0_5.size)=False:=eq_false (Nat.not_lt.2 c9)
   have H':=am_ H
   clear H
   obtain ⟨Ao10,co10,eo10⟩:=Kd.R_slice HO150.out
   subst eo10
   have hcz11_0:w6.cell? ⟨gb147,0,none⟩=some (.int .i64 a0_0):=(bc_ BK147.out 0).trans rfl;have hcz11_1:w6.cell? ⟨gb147,1,none⟩=some (.int .i64 a0_1):=(bc_ BK147.out 1).trans rfl;have hcz11_2:w6.cell? ⟨gb147,2,none⟩=some (.slice A0_2 l0_2.length c0_2):=(bc_ BK147.out 2).trans rfl;have hcz11_3:w6.cell? ⟨gb147,3,none⟩=some (.slice A0_3 l0_3.length c0_3):=(bc_ BK147.out 3).trans rfl;have hcz11_4:w6.cell? ⟨gb147,4,none⟩=some (.int .i64 a0_4):=(bc_ BK147.out 4).trans rfl;have hcz11_5:w6.cell? ⟨gb147,5,none⟩=some (.string a0_5):=(bc_ BK147.out 5).trans rfl;have hcz11_6:w6.cell? ⟨gb147,6,none⟩=some (.slice A0_6 l0_6.length c0_6):=(bc_ BK147.out 6).trans rfl;have hfz11_0:=bf_ BK147.out 0;have hfz11_1:=bf_ BK147.out 1;have hfz11_2:=bf_ BK147.out 2;have hfz11_3:=bf_ BK147.out 3;have hfz11_4:=bf_ BK147.out 4;have hfz11_5:=bf_ BK147.out 5;have hfz11_6:=bf_ BK147.out 6
   go_wp2
   go_meet
   case rel=>exact ⟨_,((a1 ++ (⟨#[46]⟩:ByteArray)) ++ a0_5),(by first|rfl|(simp;done)|(simp [*];done)),H',⟨by first|omega|exact Nat.le_refl _⟩,⟨by (with_reducible repeat (first|refine k2_ ?_ _|refine k3_ ?_|refine k1_ ?_ _));exact BK147.out⟩,⟨by repeat (with_reducible first|exact HB.out|apply p3_|apply p1_|apply p2_|refine bs_ ?_ GE147.out)⟩⟩
  rw [if_neg c7] at H
  have c7b0:((t148.length:Int) == 1)=false:=e2_ c7
  have c7b1:((t148.length:Int) != 1)=true:=bne_iff_ne.mpr c7
  (first|rw [c7b0]|(simp only [i64_w,i32_w];rw [c7b0])|skip)
  by_cases c12:a1.toList=a0_5.toList
  ·rw [if_pos c12] at H
   have c12b0:(a1.toList == a0_5.toList)=true:=beq_iff_eq.mpr c12
   have c12b1:(a1.toList != a0_5.toList)=false:=e1_ c12
   clear c12
   obtain rfl:=e5_ H
   obtain ⟨Ao13,co13,eo13⟩:=Kd.R_slice HO150.out
   subst eo13
   have hcz14_0:w6.cell? ⟨gb147,0,none⟩=some (.int .i64 a0_0):=(bc_ BK147.out 0).trans rfl;have hcz14_1:w6.cell? ⟨gb147,1,none⟩=some (.int .i64 a0_1):=(bc_ BK147.out 1).trans rfl;have hcz14_2:w6.cell? ⟨gb147,2,none⟩=some (.slice A0_2 l0_2.length c0_2):=(bc_ BK147.out 2).trans rfl;have hcz14_3:w6.cell? ⟨gb147,3,none⟩=some (.slice A0_3 l0_3.length c0_3):=(bc_ BK147.out 3).trans rfl;have hcz14_4:w6.cell? ⟨gb147,4,none⟩=some (.int .i64 a0_4):=(bc_ BK147.out 4).trans rfl;have hcz14_5:w6.cell? ⟨gb147,5,none⟩=some (.string a0_5):=(bc_ BK147.out 5).trans rfl;have hcz14_6:w6.cell? ⟨gb147,6,none⟩=some (.slice A0_6 l0_6.length c0_6):=(bc_ BK147.out 6).trans rfl;have hfz14_0:=bf_ BK147.out 0;have hfz14_1:=bf_ BK147.out 1;have hfz14_2:=bf_ BK147.out 2;have hfz14_3:=bf_ BK147.out 3;have hfz14_4:=bf_ BK147.out 4;have hfz14_5:=bf_ BK147.out 5;have hfz14_6:=bf_ BK147.out 6
   go_wp2
   go_ret
   exact ⟨by first|rfl|(simp [errW_none,errW_some]<;>rfl)|(simp [*,errW_none,errW_some]<;>rfl),by repeat (with_reducible first|exact HB.out|apply p3_|apply p1_|apply p2_|refine bs_ ?_ GE147.out)⟩
  rw [if_neg c12] at H
  have c12b0:(a1.toList == a0_5.toList)=false:=e2_ c12
  have c12b1:(a1.toList != a0_5.toList)=true:=bne_iff_ne.mpr c12
  replace H:=e4_ H
  obtain ⟨t151,A150,H⟩:=H
  replace H:(if t151=true then (regis_Full.j0 k a1 a0_0 a0_1 l0_2 l0_3 a0_4 a0_5 l0_6) else (some (⟨#[]⟩:ByteArray)))=some r:=H
  have A15:=am_ A150
  clear A150
  by_cases c16:t151=true
  ·subst c16
   have H1:(regis_Full.j0 k a1 a0_0 a0_1 l0_2 l0_3 a0_4 a0_5 l0_6)=some r:=by rw [if_pos rfl] at H;exact H
   clear H
   have H:=H1
   clear H1
   have H':=am_ H
   clear H
   obtain ⟨Ao17,co17,eo17⟩:=Kd.R_slice HO150.out
   subst eo17
   have hcz18_0:w6.cell? ⟨gb147,0,none⟩=some (.int .i64 a0_0):=(bc_ BK147.out 0).trans rfl;have hcz18_1:w6.cell? ⟨gb147,1,none⟩=some (.int .i64 a0_1):=(bc_ BK147.out 1).trans rfl;have hcz18_2:w6.cell? ⟨gb147,2,none⟩=some (.slice A0_2 l0_2.length c0_2):=(bc_ BK147.out 2).trans rfl;have hcz18_3:w6.cell? ⟨gb147,3,none⟩=some (.slice A0_3 l0_3.length c0_3):=(bc_ BK147.out 3).trans rfl;have hcz18_4:w6.cell? ⟨gb147,4,none⟩=some (.int .i64 a0_4):=(bc_ BK147.out 4).trans rfl;have hcz18_5:w6.cell? ⟨gb147,5,none⟩=some (.string a0_5):=(bc_ BK147.out 5).trans rfl;have hcz18_6:w6.cell? ⟨gb147,6,none⟩=some (.slice A0_6 l0_6.length c0_6):=(bc_ BK147.out 6).trans rfl;have hfz18_0:=bf_ BK147.out 0;have hfz18_1:=bf_ BK147.out 1;have hfz18_2:=bf_ BK147.out 2;have hfz18_3:=bf_ BK147.out 3;have hfz18_4:=bf_ BK147.out 4;have hfz18_5:=bf_ BK147.out 5;have hfz18_6:=bf_ BK147.out 6
   go_wp2_with (first|(go_at_call 84;(with_reducible refine (name_Under_c.calls a1 a0_5 true _ A15.out).mono ?_);rintro e w' ⟨rfl,⟨nd,rfl⟩⟩))
   go_meet
   case rel=>exact ⟨_,(a1),(by first|rfl|(simp;done)|(simp [*];done)),H',⟨by first|omega|exact Nat.le_refl _⟩,⟨by (with_reducible repeat (first|refine k2_ ?_ _|refine k3_ ?_|refine k1_ ?_ _));exact BK147.out⟩,⟨by repeat (with_reducible first|exact HB.out|apply p3_|apply p1_|apply p2_|refine bs_ ?_ GE147.out)⟩⟩
  replace c16:=e3_ c16
  subst c16
  have H1:(some (⟨#[]⟩:ByteArray))=some r:=by rw [if_neg (show ¬(false=true) by decide)] at H;exact H
  clear H
  have H:=H1
  clear H1
  obtain rfl:=e5_ H
  obtain ⟨Ao19,co19,eo19⟩:=Kd.R_slice HO150.out
  subst eo19
  have hcz20_0:w6.cell? ⟨gb147,0,none⟩=some (.int .i64 a0_0):=(bc_ BK147.out 0).trans rfl;have hcz20_1:w6.cell? ⟨gb147,1,none⟩=some (.int .i64 a0_1):=(bc_ BK147.out 1).trans rfl;have hcz20_2:w6.cell? ⟨gb147,2,none⟩=some (.slice A0_2 l0_2.length c0_2):=(bc_ BK147.out 2).trans rfl;have hcz20_3:w6.cell? ⟨gb147,3,none⟩=some (.slice A0_3 l0_3.length c0_3):=(bc_ BK147.out 3).trans rfl;have hcz20_4:w6.cell? ⟨gb147,4,none⟩=some (.int .i64 a0_4):=(bc_ BK147.out 4).trans rfl;have hcz20_5:w6.cell? ⟨gb147,5,none⟩=some (.string a0_5):=(bc_ BK147.out 5).trans rfl;have hcz20_6:w6.cell? ⟨gb147,6,none⟩=some (.slice A0_6 l0_6.length c0_6):=(bc_ BK147.out 6).trans rfl;have hfz20_0:=bf_ BK147.out 0;have hfz20_1:=bf_ BK147.out 1;have hfz20_2:=bf_ BK147.out 2;have hfz20_3:=bf_ BK147.out 3;have hfz20_4:=bf_ BK147.out 4;have hfz20_5:=bf_ BK147.out 5;have hfz20_6:=bf_ BK147.out 6
  go_wp2_with (first|(go_at_call 84;(with_reducible refine (name_Under_c.calls a1 a0_5 false _ A15.out).mono ?_);rintro e w' ⟨rfl,⟨nd,rfl⟩⟩))
  go_ret
  exact ⟨by first|rfl|(simp [errW_none,errW_some]<;>rfl)|(simp [*,errW_none,errW_some]<;>rfl),by repeat (with_reducible first|exact HB.out|apply p3_|apply p1_|apply p2_|refine bs_ ?_ GE147.out)⟩
 case rest =>
  clear HC4
  obtain ⟨kq,x5_3,rfl,HA,HJ3,BK147,HB⟩:=hcut
  cases kq with
  | zero=>exact absurd HA.out (by simp [regis_Full.j0])
  | succ kj3 =>
   have H:=HA.out
   clear HA
   simp only [regis_Full.j0] at H
   replace H:=e4_ H
   obtain ⟨t152,A210,H⟩:=H
   replace H:(if t152=true then ((conf_May.f a0_0 a0_1 l0_2 l0_3 a0_4 a0_5 l0_6).bind fun t153=>(if t153=true then (some x5_3) else (some (⟨#[]⟩:ByteArray)))) else (some (⟨#[]⟩:ByteArray)))=some r:=H
   have A21:=am_ A210
   clear A210
   by_cases c22:t152=true
   ·subst c22
    have H1:((conf_May.f a0_0 a0_1 l0_2 l0_3 a0_4 a0_5 l0_6).bind fun t153=>(if t153=true then (some x5_3) else (some (⟨#[]⟩:ByteArray))))=some r:=by rw [if_pos rfl] at H;exact H
    clear H
    have H:=H1
    clear H1
    replace H:=e4_ H
    obtain ⟨t153,A230,H⟩:=H
    replace H:(if t153=true then (some x5_3) else (some (⟨#[]⟩:ByteArray)))=some r:=H
    have A23:=am_ A230
    clear A230
    by_cases c24:t153=true
    ·subst c24
     have H1:(some x5_3)=some r:=by rw [if_pos rfl] at H;exact H
     clear H
     have H:=H1
     clear H1
     obtain rfl:=e5_ H
     go_wp2_with (first|((with_reducible refine gate_callee (f:=44) rfl ?_);refine goesL_ (some 32) rfl rfl Tryz.func44 (by kernel_rfl) rfl #[.string x5_3] rfl (by (try simp only [List.map_toArray,List.map_cons,List.map_nil]);first|done|rfl|(simp only [List.length_drop,List.length_take];rfl)) ?_;(with_reducible refine (name_May_c.calls x5_3 true _ A21.out).mono ?_);rintro e w' ⟨rfl,⟨nd,rfl⟩⟩;refine ⟨_,rfl,?_⟩;have hcz25_0:wc.cell? ⟨gb147,0,none⟩=some (.int .i64 a0_0):=(bc_ BK147.out 0).trans rfl;have hcz25_1:wc.cell? ⟨gb147,1,none⟩=some (.int .i64 a0_1):=(bc_ BK147.out 1).trans rfl;have hcz25_2:wc.cell? ⟨gb147,2,none⟩=some (.slice A0_2 l0_2.length c0_2):=(bc_ BK147.out 2).trans rfl;have hcz25_3:wc.cell? ⟨gb147,3,none⟩=some (.slice A0_3 l0_3.length c0_3):=(bc_ BK147.out 3).trans rfl;have hcz25_4:wc.cell? ⟨gb147,4,none⟩=some (.int .i64 a0_4):=(bc_ BK147.out 4).trans rfl;have hcz25_5:wc.cell? ⟨gb147,5,none⟩=some (.string a0_5):=(bc_ BK147.out 5).trans rfl;have hcz25_6:wc.cell? ⟨gb147,6,none⟩=some (.slice A0_6 l0_6.length c0_6):=(bc_ BK147.out 6).trans rfl;have hfz25_0:=bf_ BK147.out 0;have hfz25_1:=bf_ BK147.out 1;have hfz25_2:=bf_ BK147.out 2;have hfz25_3:=bf_ BK147.out 3;have hfz25_4:=bf_ BK147.out 4;have hfz25_5:=bf_ BK147.out 5;have hfz25_6:=bf_ BK147.out 6)|(go_at_call 40;(with_reducible refine (conf_May.calls a0_0 a0_1 _ _ l0_2 _ _ l0_3 a0_4 a0_5 _ _ l0_6 true _ ?side1 ?side2 ?side3 ?side4 ?side5 ?side6 A23.out).mono ?_);(case side1=>repeat (first|exact (c4_ HR0_2.out (by repeat (with_reducible first|exact HB.out|apply p3_|apply p1_|apply p2_|refine bs_ ?_ GE147.out)))|(with_reducible refine c1_ ?_ _)|(with_reducible refine c2_ ?_ _)|(with_reducible refine c3_ ?_)));(case side2=>exact HC0_2.out);(case side3=>repeat (first|exact (c4_ HR0_3.out (by repeat (with_reducible first|exact HB.out|apply p3_|apply p1_|apply p2_|refine bs_ ?_ GE147.out)))|(with_reducible refine c1_ ?_ _)|(with_reducible refine c2_ ?_ _)|(with_reducible refine c3_ ?_)));(case side4=>exact HC0_3.out);(case side5=>repeat (first|exact (c4_ HR0_6.out (by repeat (with_reducible first|exact HB.out|apply p3_|apply p1_|apply p2_|refine bs_ ?_ GE147.out)))|(with_reducible refine c1_ ?_ _)|(with_reducible refine c2_ ?_ _)|(with_reducible refine c3_ ?_)));(case side6=>exact HC0_6.out);rintro e w26 ⟨rfl,hb⟩;have n0_:=am_ (kb_ (g:=gb147) (o:=.cells #[.int .i64 a0_0,.int .i64 a0_1,.slice A0_2 l0_2.length c0_2,.slice A0_3 l0_3.length c0_3,.int .i64 a0_4,.string a0_5,.slice A0_6 l0_6.length c0_6] 26 (0,0)) (by (with_reducible repeat (first|refine k2_ ?_ _|refine k3_ ?_|refine k1_ ?_ _));exact BK147.out) hb);have n1_:=am_ (bt_ (by repeat (with_reducible first|exact HB.out|apply p3_|apply p1_|apply p2_|refine bs_ ?_ GE147.out)) hb);clear BK147;clear HB;have BK147:=n0_;have HB:=n1_;clear n0_ n1_;(try clear hb)))
     go_ret
     exact ⟨by first|rfl|(simp [errW_none,errW_some]<;>rfl)|(simp [*,errW_none,errW_some]<;>rfl),by repeat (with_reducible first|exact HB.out|apply p3_|apply p1_|apply p2_|refine bs_ ?_ GE147.out)⟩
    replace c24:=e3_ c24
    subst c24
    have H1:(some (⟨#[]⟩:ByteArray))=some r:=by rw [if_neg (show ¬(false=true) by decide)] at H;exact H
    clear H
    have H:=H1
    clear H1
    obtain rfl:=e5_ H
    go_wp2_with (first|((with_reducible refine gate_callee (f:=44) rfl ?_);refine goesL_ (some 32) rfl rfl Tryz.func44 (by kernel_rfl) rfl #[.string x5_3] rfl (by (try simp only [List.map_toArray,List.map_cons,List.map_nil]);first|done|rfl|(simp only [List.length_drop,List.length_take];rfl)) ?_;(with_reducible refine (name_May_c.calls x5_3 true _ A21.out).mono ?_);rintro e w' ⟨rfl,⟨nd,rfl⟩⟩;refine ⟨_,rfl,?_⟩;have hcz27_0:wc.cell? ⟨gb147,0,none⟩=some (.int .i64 a0_0):=(bc_ BK147.out 0).trans rfl;have hcz27_1:wc.cell? ⟨gb147,1,none⟩=some (.int .i64 a0_1):=(bc_ BK147.out 1).trans rfl;have hcz27_2:wc.cell? ⟨gb147,2,none⟩=some (.slice A0_2 l0_2.length c0_2):=(bc_ BK147.out 2).trans rfl;have hcz27_3:wc.cell? ⟨gb147,3,none⟩=some (.slice A0_3 l0_3.length c0_3):=(bc_ BK147.out 3).trans rfl;have hcz27_4:wc.cell? ⟨gb147,4,none⟩=some (.int .i64 a0_4):=(bc_ BK147.out 4).trans rfl;have hcz27_5:wc.cell? ⟨gb147,5,none⟩=some (.string a0_5):=(bc_ BK147.out 5).trans rfl;have hcz27_6:wc.cell? ⟨gb147,6,none⟩=some (.slice A0_6 l0_6.length c0_6):=(bc_ BK147.out 6).trans rfl;have hfz27_0:=bf_ BK147.out 0;have hfz27_1:=bf_ BK147.out 1;have hfz27_2:=bf_ BK147.out 2;have hfz27_3:=bf_ BK147.out 3;have hfz27_4:=bf_ BK147.out 4;have hfz27_5:=bf_ BK147.out 5;have hfz27_6:=bf_ BK147.out 6)|(go_at_call 40;(with_reducible refine (conf_May.calls a0_0 a0_1 _ _ l0_2 _ _ l0_3 a0_4 a0_5 _ _ l0_6 false _ ?side1 ?side2 ?side3 ?side4 ?side5 ?side6 A23.out).mono ?_);(case side1=>repeat (first|exact (c4_ HR0_2.out (by repeat (with_reducible first|exact HB.out|apply p3_|apply p1_|apply p2_|refine bs_ ?_ GE147.out)))|(with_reducible refine c1_ ?_ _)|(with_reducible refine c2_ ?_ _)|(with_reducible refine c3_ ?_)));(case side2=>exact HC0_2.out);(case side3=>repeat (first|exact (c4_ HR0_3.out (by repeat (with_reducible first|exact HB.out|apply p3_|apply p1_|apply p2_|refine bs_ ?_ GE147.out)))|(with_reducible refine c1_ ?_ _)|(with_reducible refine c2_ ?_ _)|(with_reducible refine c3_ ?_)));(case side4=>exact HC0_3.out);(case side5=>repeat (first|exact (c4_ HR0_6.out (by repeat (with_reducible first|exact HB.out|apply p3_|apply p1_|apply p2_|refine bs_ ?_ GE147.out)))|(with_reducible refine c1_ ?_ _)|(with_reducible refine c2_ ?_ _)|(with_reducible refine c3_ ?_)));(case side6=>exact HC0_6.out);rintro e w28 ⟨rfl,hb⟩;have n0_:=am_ (kb_ (g:=gb147) (o:=.cells #[.int .i64 a0_0,.int .i64 a0_1,.slice A0_2 l0_2.length c0_2,.slice A0_3 l0_3.length c0_3,.int .i64 a0_4,.string a0_5,.slice A0_6 l0_6.length c0_6] 26 (0,0)) (by (with_reducible repeat (first|refine k2_ ?_ _|refine k3_ ?_|refine k1_ ?_ _));exact BK147.out) hb);have n1_:=am_ (bt_ (by repeat (with_reducible first|exact HB.out|apply p3_|apply p1_|apply p2_|refine bs_ ?_ GE147.out)) hb);clear BK147;clear HB;have BK147:=n0_;have HB:=n1_;clear n0_ n1_;(try clear hb)))
    go_ret
    exact ⟨by first|rfl|(simp [errW_none,errW_some]<;>rfl)|(simp [*,errW_none,errW_some]<;>rfl),by repeat (with_reducible first|exact HB.out|apply p3_|apply p1_|apply p2_|refine bs_ ?_ GE147.out)⟩
   replace c22:=e3_ c22
   subst c22
   have H1:(some (⟨#[]⟩:ByteArray))=some r:=by rw [if_neg (show ¬(false=true) by decide)] at H;exact H
   clear H
   have H:=H1
   clear H1
   obtain rfl:=e5_ H
   go_wp2_with (first|((with_reducible refine gate_callee (f:=44) rfl ?_);refine goesL_ (some 32) rfl rfl Tryz.func44 (by kernel_rfl) rfl #[.string x5_3] rfl (by (try simp only [List.map_toArray,List.map_cons,List.map_nil]);first|done|rfl|(simp only [List.length_drop,List.length_take];rfl)) ?_;(with_reducible refine (name_May_c.calls x5_3 false _ A21.out).mono ?_);rintro e w' ⟨rfl,⟨nd,rfl⟩⟩;refine ⟨_,rfl,?_⟩))
   go_ret
   exact ⟨by first|rfl|(simp [errW_none,errW_some]<;>rfl)|(simp [*,errW_none,errW_some]<;>rfl),by repeat (with_reducible first|exact HB.out|apply p3_|apply p1_|apply p2_|refine bs_ ?_ GE147.out)⟩

/-! ### regis_Full_c: function 78 -/
theorem regis_Full.eq (a0 a1:Int) (l2:List Int) (l3:List S95) (a4:Int) (z:ByteArray) (l6:List S93) (h:ByteArray) (hf:fullFit l2 l3 z l6 h):regis_Full.f 1 a0 a1 l2 l3 a4 z l6 h=some (fullB a0 a1 l2 l3 a4 z l6 h):=by
 have hz:=hf.2
 have hzs:=hf.1.2.2.1
 have e1:∀ (k:Nat) (x:ByteArray),x.size≤562949953421312→regis_Full.j0 (k+1) x a0 a1 l2 l3 a4 z l6=some (if nameB (bytesOf x) && confB a0 a1 l2 l3 a4 z l6 then x else ⟨#[]⟩):=fun k x hx=>by
  unfold regis_Full.j0 name_May_c.f conf_May.f
  dsimp only
  rw [if_pos hx,Option.bind_some]
  cases nameB (bytesOf x) with
  | false=>rfl
  | true =>
   rw [if_pos rfl,if_pos hf.1,Option.bind_some,Bool.true_and]
   cases confB a0 a1 l2 l3 a4 z l6<;>rfl
 unfold regis_Full.f fullB name_Labels_c.f name_Under_c.f
 rw [if_pos (by omega),Option.bind_some]
 by_cases q:(labelsS h).length=1
 ·have s1:(h ++ (⟨#[46]⟩:ByteArray)).size=h.size+1:=by rw [ByteArray.size_append];rfl
  rw [if_pos (by omega),if_pos (by omega),if_pos (by omega),if_pos q,e1 0 _ (by rw [ByteArray.size_append];omega)]
 ·rw [if_neg (by omega),if_neg q]
  by_cases q2:h.toList=z.toList
  ·rw [if_pos q2,if_pos (Or.inl q2)]
  ·rw [if_neg q2,if_pos (by omega),Option.bind_some]
   cases q3:underB (bytesOf h) (bytesOf z) with
   | false=>rw [if_neg (by simp),if_pos (Or.inr rfl)]
   | true=>rw [if_pos rfl,if_neg (by simp [q2]),e1 0 _ (by omega)]
def regis_Full_c.f (a0_0:Int) (a0_1:Int) (l0_2:List Int) (l0_3:List S95) (a0_4:Int) (a0_5:ByteArray) (l0_6:List S93) (a1:ByteArray):Option ByteArray:=if fullFit l0_2 l0_3 a0_5 l0_6 a1 then some (fullB a0_0 a0_1 l0_2 l0_3 a0_4 a0_5 l0_6 a1) else none
theorem regis_Full_c.calls (a0_0:Int) (a0_1:Int) (A0_2:Option Addr) (c0_2:Nat) (l0_2:List Int) (A0_3:Option Addr) (c0_3:Nat) (l0_3:List S95) (a0_4:Int) (a0_5:ByteArray) (A0_6:Option Addr) (c0_6:Nat) (l0_6:List S93) (a1:ByteArray) (r:ByteArray) (w:World) (hr0_2:Kd.C (Kd.int .i64) w A0_2 l0_2.length l0_2) (hc0_2:l0_2.length≤c0_2) (hr0_3:Kd.C k95 w A0_3 l0_3.length l0_3) (hc0_3:l0_3.length≤c0_3) (hr0_6:Kd.C k93 w A0_6 l0_6.length l0_6) (hc0_6:l0_6.length≤c0_6) (h:regis_Full_c.f a0_0 a0_1 l0_2 l0_3 a0_4 a0_5 l0_6 a1=some r) :
  Calls Tryz.prog 78 #[.agg #[.int .i64 a0_0,.int .i64 a0_1,.slice A0_2 l0_2.length c0_2,.slice A0_3 l0_3.length c0_3,.int .i64 a0_4,.string a0_5,.slice A0_6 l0_6.length c0_6],.string a1] w fun e w'=>e=.returned (.string r)∧Below w.heap.size w w':=by
 unfold regis_Full_c.f at h
 by_cases hs:fullFit l0_2 l0_3 a0_5 l0_6 a1
 ·rw [if_pos hs] at h
  obtain rfl:=e5_ h
  exact regis_Full.calls 1 a0_0 a0_1 A0_2 c0_2 l0_2 A0_3 c0_3 l0_3 a0_4 a0_5 A0_6 c0_6 l0_6 a1 _ w hr0_2 hc0_2 hr0_3 hc0_3 hr0_6 hc0_6 (regis_Full.eq _ _ _ _ _ _ _ _ hs)
 ·rw [if_neg hs] at h
  cases h

/-! ### regis_Free: function 55 -/
-- BY HAND
-- 40 41 44 48 78
theorem owns_below {H:Type} {P:Program} {k:TypeId} {R:Value→Option (DataW H×List MemPlace)} {b n:Nat} {D:DataW H} {w w':World} (h:w.ownsMap P k R b n D) (hb:Below w.heap.size w w'):w'.ownsMap P k R b n D:=by
 have hlt:=h.lt
 obtain ⟨es,clock,hb0,F,hs,hD⟩:=h
 exact ⟨es,clock,(hb.block b hlt).trans hb0,F,hs,hD⟩
/-- a pair of a map's literal, at the operation. -/
theorem wpList_pair_own {H:Type} {P:Program} (w:World) {ops:Array Oper} {rest:List Oper} {o:Oper} {a:Act} {Q:Exit→Act→World→Prop}
  (hg:o.guard=none) (m x v:Operand) (t:TypeId) (hop:o.op=Op.insert t m x v)
  (k e:TypeId) (K:Maps.Keyed P k) (ht:P.underlying t=some (.map k e)) (R:Value→Option (DataW H×List MemPlace)) (b n:Nat) (D:DataW H)
  (hm:a.eval m=.map (some b)) (hown:w.ownsMap P k R b n D) (hn:n < maxLen) (key val:Value) (kl:Lit) (hx:a.eval x=key) (hv:a.eval v=val) (hkey:keyOf P k key=some kl)
  (d:DataW H) (ps:List MemPlace) (hval:R val=some (d,ps))
  (hK:∀ w',w'.ownsMap P k R b (n+1) (D.put kl d)→w.grownBy w' (some b)→wpList P ops Q rest (a.put o.dst undef) w') :
  wpList P ops Q (o :: rest) a w:=by
 refine wpList_plain hg fun K' hK'=>?_
 obtain ⟨w',hrun,r1,r2⟩:=hown.update K ht hn hkey hval
 unfold Oper.wp
 simp [execOp,hop,hm,hx,hv,hrun,Result.andThen]
 exact hK' _ _ (hK w' r1 r2)
/-- behind a write into a map of the call's own. -/
theorem free_grown {w W w4:World} {b:Nat} (hg:W.grownBy w4 (some b)) (h:Below w.heap.size w W) (hb:w.heap.size≤b):Below w.heap.size w w4:=h.grown hg h.size (fun k hk=>by cases hk;exact hb)
theorem dropFreeS (l0:List S93) (i:Int) (h0:0≤i) (h1:i < l0.length):l0.take (i.toNat+1)=l0.take i.toNat ++ [rd_T93 l0 i]∧rd_T93 l0 i∈l0:=by
 have h:i.toNat < l0.length:=by omega
 have e:rd_T93 l0 i=l0[i.toNat]:=by
  unfold rd_T93
  rw [List.getD_eq_getElem?_getD,List.getElem?_eq_getElem h]
  rfl
 rw [e,List.take_succ_eq_append_getElem h]
 exact ⟨rfl,List.getElem_mem h⟩
theorem dropFreeL (l0:List S44) (i:Int) (h0:0≤i) (h1:i < l0.length):l0.take (i.toNat+1)=l0.take i.toNat ++ [rd_T44 l0 i]∧rd_T44 l0 i∈l0:=by
 have h:i.toNat < l0.length:=by omega
 have e:rd_T44 l0 i=l0[i.toNat]:=by
  unfold rd_T44
  rw [List.getD_eq_getElem?_getD,List.getElem?_eq_getElem h]
  rfl
 rw [e,List.take_succ_eq_append_getElem h]
 exact ⟨rfl,List.getElem_mem h⟩
theorem takenS_snoc (l:List S93) (x:S93):takenS (l ++ [x])=takenS l ++ [x.f0.data.toList]:=by unfold takenS;rw [List.map_append];rfl
theorem takenL_zero (F:ByteArray→ByteArray) (c:ByteArray) (now:Int) (l:List S44) (p:List (List UInt8)):p ++ takenL F c now (l.take 0)=p:=by unfold takenL;simp
theorem takenL_in (F:ByteArray→ByteArray) (c:ByteArray) (now:Int) (l:List S44) (x:S44) (h:heldBy c now x=true):takenL F c now (l ++ [x])=takenL F c now l ++ [(F x.f4).data.toList]:=by unfold takenL;rw [List.filter_append,List.map_append];simp [h]
theorem takenL_out (F:ByteArray→ByteArray) (c:ByteArray) (now:Int) (l:List S44) (x:S44) (h:heldBy c now x=false):takenL F c now (l ++ [x])=takenL F c now l:=by unfold takenL;rw [List.filter_append,List.map_append];simp [h]
def regis_Free.f (a0_0:Int) (a0_1:Int) (l0_2:List Int) (l0_3:List S95) (a0_4:Int) (a0_5:ByteArray) (l0_6:List S93) (l1:List S44) (a2:Int) (a3 a4:ByteArray):Option (Bool×Int):=if freeFit l0_2 l0_3 a0_5 l0_6 l1 a4 then some (freeB a0_0 a0_1 l0_2 l0_3 a0_4 a0_5 l0_6 l1 a2 a3 a4,if mayFree a0_0 a0_1 l0_2 l0_3 a0_4 a0_5 l0_6 l1 a4 then 0 else 1600) else none
theorem regis_Free.calls (a0_0:Int) (a0_1:Int) (A0_2:Option Addr) (c0_2:Nat) (l0_2:List Int) (A0_3:Option Addr) (c0_3:Nat) (l0_3:List S95) (a0_4:Int) (a0_5:ByteArray) (A0_6:Option Addr) (c0_6:Nat) (l0_6:List S93) (A1:Option Addr) (c1:Nat) (l1:List S44) (a2:Int) (a3:ByteArray) (a4:ByteArray) (r1:Bool) (r2:Int) (w:World) (hr0_2:Kd.C (Kd.int .i64) w A0_2 l0_2.length l0_2) (hc0_2:l0_2.length≤c0_2) (hr0_3:Kd.C k95 w A0_3 l0_3.length l0_3) (hc0_3:l0_3.length≤c0_3) (hr0_6:Kd.C k93 w A0_6 l0_6.length l0_6) (hc0_6:l0_6.length≤c0_6) (hr1:Kd.C k44 w A1 l1.length l1) (hc1:l1.length≤c1) (h:regis_Free.f a0_0 a0_1 l0_2 l0_3 a0_4 a0_5 l0_6 l1 a2 a3 a4=some (r1,r2)) :
  Calls Tryz.prog 55 #[.agg #[.int .i64 a0_0,.int .i64 a0_1,.slice A0_2 l0_2.length c0_2,.slice A0_3 l0_3.length c0_3,.int .i64 a0_4,.string a0_5,.slice A0_6 l0_6.length c0_6],.slice A1 l1.length c1,.int .i64 a2,.string a3,.string a4] w fun e w'=>e=.returned (.tuple #[.bool r1,.int .i64 r2])∧Below w.heap.size w w':=by
 unfold regis_Free.f at h
 by_cases hs:freeFit l0_2 l0_3 a0_5 l0_6 l1 a4
 rotate_left
 ·rw [if_neg hs] at h
  cases h
 rw [if_pos hs] at h
 have h':=e5_ h
 have HR1:=(Prod.mk.inj h').1
 have HR2:=(Prod.mk.inj h').2
 clear h h'
 obtain ⟨b1,h1⟩:∃ b,confB a0_0 a0_1 l0_2 l0_3 a0_4 a0_5 l0_6=b:=⟨_,rfl⟩
 obtain ⟨b2,h2⟩:∃ b,tableB l1=b:=⟨_,rfl⟩
 obtain ⟨b3,h3⟩:∃ b,nameB (bytesOf a4)=b:=⟨_,rfl⟩
 have hn6:b1=true→l0_6.length≤8:=fun e=>conf_len6 (h1.trans e)
 have hn1:b2=true→l1.length≤8:=fun e=>table_len (h2.trans e)
 unfold freeB at HR1
 have hmay:mayFree a0_0 a0_1 l0_2 l0_3 a0_4 a0_5 l0_6 l1 a4=(b1 && (b2 && b3)):=by unfold mayFree;rw [h1,h2,h3]
 rw [hmay] at HR1 HR2
 clear hmay
 have C1:=am_ (fun W (hb:Below w.heap.size w W)=>conf_May.calls a0_0 a0_1 A0_2 c0_2 l0_2 A0_3 c0_3 l0_3 a0_4 a0_5 A0_6 c0_6 l0_6 b1 W (c4_ hr0_2 hb) hc0_2 (c4_ hr0_3 hb) hc0_3 (c4_ hr0_6 hb) hc0_6 (by unfold conf_May.f;rw [if_pos hs.1.1,h1]))
 have C2:=am_ (fun W (hb:Below w.heap.size w W)=>table_May_c.calls A1 c1 l1 b2 W (c4_ hr1 hb) hc1 (by unfold table_May_c.f;rw [if_pos hs.2,h2]))
 have C3:=am_ (fun W=>name_May_c.calls a4 b3 W (by unfold name_May_c.f;rw [if_pos (by have:=hs.1.2;omega),h3]))
 have CF:=am_ (fun (x:ByteArray) W (hx:x.size≤140737488351232) (hb:Below w.heap.size w W)=>regis_Full_c.calls a0_0 a0_1 A0_2 c0_2 l0_2 A0_3 c0_3 l0_3 a0_4 a0_5 A0_6 c0_6 l0_6 x (fullB a0_0 a0_1 l0_2 l0_3 a0_4 a0_5 l0_6 x) W (c4_ hr0_2 hb) hc0_2 (c4_ hr0_3 hb) hc0_3 (c4_ hr0_6 hb) hc0_6 (by unfold regis_Full_c.f;rw [if_pos ⟨hs.1.1,hx⟩]))
 have HS:=am_ hs
 have HK6:=am_ hr0_6
 have HK1:=am_ hr1
 have HB:=am_ (Below.refl w.heap.size w)
 have BK:=am_ (blk_new w (.cells #[.int .i64 a0_0,.int .i64 a0_1,.slice A0_2 l0_2.length c0_2,.slice A0_3 l0_3.length c0_3,.int .i64 a0_4,.string a0_5,.slice A0_6 l0_6.length c0_6] 26))
 clear hs hr0_2 hr0_3 hr0_6 hc0_2 hc0_3 hc0_6 hr1 hc1 h1 h2 h3
 have hmm:=@run_makeMap Tryz.prog
 replace HR1:=am_ HR1
 replace HR2:=am_ HR2
 cases b1 with
 | false =>
  have e1:r1=false:=by rw [←HR1.out];simp
  have e2:r2=1600:=by rw [←HR2.out];simp
  clear HR1 HR2 CF HK6 HK1 hmm hn6 hn1
  subst e1 e2
  go_enter Tryz.func55,Tryz.ntmps55
  go_wp2_with (first
   | (go_at_call 40;(with_reducible refine (C1.out _ (by repeat (with_reducible first|exact HB.out|apply p3_|apply p1_|apply p2_))).mono ?_);rintro e w1 ⟨rfl,hb2⟩;replace BK:=am_ (kb_ (show _ from (by (with_reducible repeat (first|exact BK.out|refine k2_ ?_ _|refine k3_ ?_|refine k1_ ?_ _)))) hb2);replace HB:=am_ (bt_ (show Below w.heap.size w _ from (by repeat (with_reducible first|exact HB.out|apply p3_|apply p1_|apply p2_))) hb2);clear hb2))
  go_ret2
  exact ⟨rfl,(by repeat (with_reducible first|exact HB.out|apply p3_|apply p1_|apply p2_))⟩
   | true =>
  cases b2 with
  | false =>
   have e1:r1=false:=by rw [←HR1.out];simp
   have e2:r2=1600:=by rw [←HR2.out];simp
   clear HR1 HR2 CF HK6 HK1 hmm hn6 hn1
   subst e1 e2
   go_enter Tryz.func55,Tryz.ntmps55
   go_wp2_with (first
    | (go_at_call 40;(with_reducible refine (C1.out _ (by repeat (with_reducible first|exact HB.out|apply p3_|apply p1_|apply p2_))).mono ?_);rintro e w1 ⟨rfl,hb2⟩;replace BK:=am_ (kb_ (show _ from (by (with_reducible repeat (first|exact BK.out|refine k2_ ?_ _|refine k3_ ?_|refine k1_ ?_ _)))) hb2);replace HB:=am_ (bt_ (show Below w.heap.size w _ from (by repeat (with_reducible first|exact HB.out|apply p3_|apply p1_|apply p2_))) hb2);clear hb2)
    | (go_at_call 41;(with_reducible refine (C2.out _ (by repeat (with_reducible first|exact HB.out|apply p3_|apply p1_|apply p2_))).mono ?_);rintro e w2 ⟨rfl,hb2⟩;replace BK:=am_ (kb_ (show _ from (by (with_reducible repeat (first|exact BK.out|refine k2_ ?_ _|refine k3_ ?_|refine k1_ ?_ _)))) hb2);replace HB:=am_ (bt_ (show Below w.heap.size w _ from (by repeat (with_reducible first|exact HB.out|apply p3_|apply p1_|apply p2_))) hb2);clear hb2))
   go_ret2
   exact ⟨rfl,(by repeat (with_reducible first|exact HB.out|apply p3_|apply p1_|apply p2_))⟩
     | true =>
   cases b3 with
   | false =>
    have e1:r1=false:=by rw [←HR1.out];simp
    have e2:r2=1600:=by rw [←HR2.out];simp
    clear HR1 HR2 CF HK6 HK1 hmm hn6 hn1
    subst e1 e2
    go_enter Tryz.func55,Tryz.ntmps55
    go_wp2_with (first
     | (go_at_call 40;(with_reducible refine (C1.out _ (by repeat (with_reducible first|exact HB.out|apply p3_|apply p1_|apply p2_))).mono ?_);rintro e w1 ⟨rfl,hb2⟩;replace BK:=am_ (kb_ (show _ from (by (with_reducible repeat (first|exact BK.out|refine k2_ ?_ _|refine k3_ ?_|refine k1_ ?_ _)))) hb2);replace HB:=am_ (bt_ (show Below w.heap.size w _ from (by repeat (with_reducible first|exact HB.out|apply p3_|apply p1_|apply p2_))) hb2);clear hb2)
     | (go_at_call 41;(with_reducible refine (C2.out _ (by repeat (with_reducible first|exact HB.out|apply p3_|apply p1_|apply p2_))).mono ?_);rintro e w2 ⟨rfl,hb2⟩;replace BK:=am_ (kb_ (show _ from (by (with_reducible repeat (first|exact BK.out|refine k2_ ?_ _|refine k3_ ?_|refine k1_ ?_ _)))) hb2);replace HB:=am_ (bt_ (show Below w.heap.size w _ from (by repeat (with_reducible first|exact HB.out|apply p3_|apply p1_|apply p2_))) hb2);clear hb2)
     | (go_at_call 44;(with_reducible refine (C3.out _).mono ?_);rintro e w3 ⟨rfl,⟨nd,rfl⟩⟩))
    go_ret2
    exact ⟨rfl,(by repeat (with_reducible first|exact HB.out|apply p3_|apply p1_|apply p2_))⟩
       | true =>
    have e2:r2=0:=by rw [←HR2.out];simp
    have HR:=am_ (show decide ((fullB a0_0 a0_1 l0_2 l0_3 a0_4 a0_5 l0_6 a4).data.toList∉[] :: takenS l0_6 ++ takenL (fullB a0_0 a0_1 l0_2 l0_3 a0_4 a0_5 l0_6) a3 a2 l1)=r1 by rw [←HR1.out];simp)
    clear HR1 HR2
    subst e2
    replace hn6:=hn6 rfl
    replace hn1:=hn1 rfl
    have hk0:=WideMaps.keyOf_string_mk Tryz.underlying9 (s:=⟨#[]⟩) (by unfold maxLen;exact Nat.zero_le _)
    go_enter Tryz.func55,Tryz.ntmps55
    go_wp2_with (first
     | (go_at_call 40;(with_reducible refine (C1.out _ (by repeat (with_reducible first|exact HB.out|apply p3_|apply p1_|apply p2_))).mono ?_);rintro e w1 ⟨rfl,hb2⟩;replace BK:=am_ (kb_ (show _ from (by (with_reducible repeat (first|exact BK.out|refine k2_ ?_ _|refine k3_ ?_|refine k1_ ?_ _)))) hb2);replace HB:=am_ (bt_ (show Below w.heap.size w _ from (by repeat (with_reducible first|exact HB.out|apply p3_|apply p1_|apply p2_))) hb2);clear hb2)
     | (go_at_call 41;(with_reducible refine (C2.out _ (by repeat (with_reducible first|exact HB.out|apply p3_|apply p1_|apply p2_))).mono ?_);rintro e w2 ⟨rfl,hb2⟩;replace BK:=am_ (kb_ (show _ from (by (with_reducible repeat (first|exact BK.out|refine k2_ ?_ _|refine k3_ ?_|refine k1_ ?_ _)))) hb2);replace HB:=am_ (bt_ (show Below w.heap.size w _ from (by repeat (with_reducible first|exact HB.out|apply p3_|apply p1_|apply p2_))) hb2);clear hb2)
     | (go_at_call 44;(with_reducible refine (C3.out _).mono ?_);rintro e w3 ⟨rfl,⟨nd,rfl⟩⟩)
     | (refine wpList_pair_own _ rfl _ _ _ 106 rfl 9 4 (Maps.string_keyed Tryz.underlying9) Tryz.underlying106 (plainElem (H:=Unit) Tryz.prog 4) _ 0 _ rfl (World.ownsMap_made _ _ _ _) (by unfold maxLen;omega) _ _ _ rfl rfl hk0 _ [] (plainElem_bool Tryz.underlying4 true) ?_;intro w4 hown1 hgrow1;have HM:=am_ (show w4.ownsMap Tryz.prog 9 (plainElem (H:=Unit) Tryz.prog 4) w2.heap.size (0+1) (mapD .string ([] :: takenS (l0_6.take 0))) from hown1);have hlt2:w.heap.size < w2.heap.size:=blk_lt BK.out;replace HB:=am_ (free_grown hgrow1 (by repeat (with_reducible first|exact HB.out|apply p3_|apply p1_|apply p2_)) (Nat.le_of_lt hlt2));replace BK:=am_ (show w4.heap[w.heap.size]?=some (.cells #[.int .i64 a0_0,.int .i64 a0_1,.slice A0_2 l0_2.length c0_2,.slice A0_3 l0_3.length c0_3,.int .i64 a0_4,.string a0_5,.slice A0_6 l0_6.length c0_6] 26) from blk_grown (by (with_reducible repeat (first|exact BK.out|refine k2_ ?_ _|refine k3_ ?_|refine k1_ ?_ _))) hgrow1 (fun e=>absurd (e5_ e) (Nat.ne_of_lt hlt2)));clear hown1 hgrow1;have u0:=bc_ BK.out 0;have u1:=bc_ BK.out 1;have u2:=bc_ BK.out 2;have u3:=bc_ BK.out 3;have u4:=bc_ BK.out 4;have u5:=bc_ BK.out 5;have u6:=bc_ BK.out 6)
     | go_in)
    clear hmm hk0 C1 C2 C3 u0 u1 u2 u3 u4 u5 u6
    go_loopg [35] l0_6.length (fun d v35 w'=>∃ i:Int,0≤i∧i.toNat+d=l0_6.length∧v35=.int .i64 i∧Aside0 (w'.ownsMap Tryz.prog 9 (plainElem (H:=Unit) Tryz.prog 4) w2.heap.size (i.toNat+1) (mapD .string ([] :: takenS (l0_6.take i.toNat))))∧Aside0 (Below w.heap.size w w')∧Aside0 (w'.heap[w.heap.size]?=some (.cells #[.int .i64 a0_0,.int .i64 a0_1,.slice A0_2 l0_2.length c0_2,.slice A0_3 l0_3.length c0_3,.int .i64 a0_4,.string a0_5,.slice A0_6 l0_6.length c0_6] 26)))
    case atStart=>exact ⟨0,by omega,by simp,rfl,HM,HB,BK⟩
    case round =>
     clear HM HB BK
     obtain ⟨i,hi0,hd,rfl,HM,HB,BK⟩:=hrel
     by_cases hlt:i < (l0_6.length:Int)
     ·obtain ⟨ad,e1,hx0,hx1,hx2,hx3,hx4,hx5,hx6⟩:=at_T93 HK6.out i hi0 hlt
      cases e1
      replace hx0:=(HB.out.cell (wb_ w _ hx0)).trans hx0;replace hx1:=(HB.out.cell (wb_ w _ hx1)).trans hx1;replace hx2:=(HB.out.cell (wb_ w _ hx2)).trans hx2;replace hx3:=(HB.out.cell (wb_ w _ hx3)).trans hx3;replace hx4:=(HB.out.cell (wb_ w _ hx4)).trans hx4;replace hx5:=(HB.out.cell (wb_ w _ hx5)).trans hx5;replace hx6:=(HB.out.cell (wb_ w _ hx6)).trans hx6
      obtain ⟨hd1,hmem⟩:=dropFreeS l0_6 i hi0 hlt
      have hsz:=HS.out.1.1.2.2.2.2 _ hmem
      generalize rd_T93 l0_6 i=x at hx0 hx1 hx2 hx3 hx4 hx5 hx6 hd1 hmem hsz
      obtain ⟨f0,f1,f2,f3,f4,f5,f6⟩:=x
      simp only at hx0 hx1 hx2 hx3 hx4 hx5 hx6 hsz
      have hkey:=WideMaps.keyOf_string_mk Tryz.underlying9 (s:=f0) (by unfold maxLen;omega)
      have HD:=am_ hd1
      clear hd1 hmem hsz
      go_wp2_with (first
       | (at_mapUpdate;refine wpList_mapUpdate_own _ rfl _ _ _ 106 rfl 9 4 (Maps.string_keyed Tryz.underlying9) Tryz.underlying106 _ w2.heap.size (i.toNat+1) _ rfl (HM.out.alloc (.cells #[.string f0,.int .i64 f1,.int .i64 f2,.int .i64 f3,.string f4,.string f5,.int .i64 f6] 93)) (by unfold maxLen;omega) _ _ _ rfl rfl hkey _ [] (plainElem_bool Tryz.underlying4 true) ?_;intro w5 hown1 hgrow1;have HM1:=am_ hown1;have HB1:=am_ (free_grown hgrow1 (by repeat (with_reducible first|exact HB.out|apply p3_|apply p1_|apply p2_)) (Nat.le_of_lt hlt2));have BK1:=am_ (show w5.heap[w.heap.size]?=some (.cells #[.int .i64 a0_0,.int .i64 a0_1,.slice A0_2 l0_2.length c0_2,.slice A0_3 l0_3.length c0_3,.int .i64 a0_4,.string a0_5,.slice (some ad) l0_6.length c0_6] 26) from blk_grown (by (with_reducible repeat (first|exact BK.out|refine k2_ ?_ _|refine k3_ ?_|refine k1_ ?_ _))) hgrow1 (fun e=>absurd (e5_ e) (Nat.ne_of_lt hlt2)));clear hown1 hgrow1)
       | go_in)
      go_roundg (l0_6.length - (i.toNat+1))
      case measure=>first|omega|(simp;omega)
      case rel =>
       have e2:(i+1).toNat=i.toNat+1:=by omega
       refine ⟨i+1,by omega,by omega,by go_num,⟨?_⟩,HB1,BK1⟩
       rw [e2,HD.out,takenS_snoc,←List.cons_append,mapD_snoc]
       exact HM1.out
     ·have e3:l0_6.take i.toNat=l0_6:=List.take_of_length_le (by omega)
      have hin:i.toNat=l0_6.length:=by omega
      have HM':=HM.out
      rw [e3,hin] at HM'
      replace HM:=am_ (show wr.ownsMap Tryz.prog 9 (plainElem (H:=Unit) Tryz.prog 4) w2.heap.size (l0_6.length+1) (mapD .string (([] :: takenS l0_6) ++ takenL (fullB a0_0 a0_1 l0_2 l0_3 a0_4 a0_5 l0_6) a3 a2 (l1.take 0))) by rw [takenL_zero];exact HM')
      clear HM' e3 hin
      have u0:=bc_ BK.out 0;have u1:=bc_ BK.out 1;have u2:=bc_ BK.out 2;have u3:=bc_ BK.out 3;have u4:=bc_ BK.out 4;have u5:=bc_ BK.out 5;have u6:=bc_ BK.out 6
      go_wp2
      clear u0 u1 u2 u3 u4 u5 u6
      go_loopg [45] l1.length (fun d v45 w'=>∃ i:Int,∃n:Nat,0≤i∧i.toNat+d=l1.length∧v45=.int .i64 i∧n≤l0_6.length+1+i.toNat∧Aside0 (w'.ownsMap Tryz.prog 9 (plainElem (H:=Unit) Tryz.prog 4) w2.heap.size (n) (mapD .string (([] :: takenS l0_6) ++ takenL (fullB a0_0 a0_1 l0_2 l0_3 a0_4 a0_5 l0_6) a3 a2 (l1.take i.toNat))))∧Aside0 (Below w.heap.size w w')∧Aside0 (w'.heap[w.heap.size]?=some (.cells #[.int .i64 a0_0,.int .i64 a0_1,.slice A0_2 l0_2.length c0_2,.slice A0_3 l0_3.length c0_3,.int .i64 a0_4,.string a0_5,.slice A0_6 l0_6.length c0_6] 26)))
      case atStart=>exact ⟨0,_,by omega,by simp,rfl,by simp,HM,HB,BK⟩
      case round =>
       clear HM HB BK
       obtain ⟨i,n,hi0,hd,rfl,hn,HM,HB,BK⟩:=hrel
       by_cases hlt:i < (l1.length:Int)
       ·obtain ⟨ad,e1,hx0,hx1,hx2,hx3,hx4,hx5⟩:=at_T44 HK1.out i hi0 hlt
        cases e1
        replace hx0:=(HB.out.cell (wb_ w _ hx0)).trans hx0;replace hx1:=(HB.out.cell (wb_ w _ hx1)).trans hx1;replace hx2:=(HB.out.cell (wb_ w _ hx2)).trans hx2;replace hx3:=(HB.out.cell (wb_ w _ hx3)).trans hx3;replace hx4:=(HB.out.cell (wb_ w _ hx4)).trans hx4;replace hx5:=(HB.out.cell (wb_ w _ hx5)).trans hx5
        obtain ⟨hd1,hmem⟩:=dropFreeL l1 i hi0 hlt
        have hsz:=HS.out.2.2 _ hmem
        generalize rd_T44 l1 i=x at hx0 hx1 hx2 hx3 hx4 hx5 hd1 hmem hsz
        obtain ⟨f0,f1,f2,f3,f4,f5⟩:=x
        simp only at hx0 hx1 hx2 hx3 hx4 hx5 hsz
        obtain ⟨b1,h1⟩:∃ b,boundB f0 f1 f2 f3 f4 f5 f2 a2=b:=⟨_,rfl⟩
        have CB:=am_ (fun (g:Nat) W (bk:W.heap[g]?=some (.cells #[.int .i64 f0,.int .i64 f1,.string f2,.int .i64 f3,.string f4,.bool f5] 44))=>lease_Bound.calls g f0 f1 f2 f3 f4 f5 f2 a2 b1 W bk (by omega) h1)
        have hheld:heldBy a3 a2 ⟨f0,f1,f2,f3,f4,f5⟩=(f5 && (decide (f2.toList≠a3.toList) && b1)):=by unfold heldBy;rw [h1]
        clear h1
        have hkey:=WideMaps.keyOf_string_mk Tryz.underlying9 (fullB_size (a0:=a0_0) (a1:=a0_1) (l2:=l0_2) (l3:=l0_3) (a4:=a0_4) (z:=a0_5) (l6:=l0_6) hsz HS.out.1.1.2.2.1)
        have CFo:=am_ (fun W=>CF.out f4 W hsz)
        have HIN:=am_ (fun e=>takenL_in (fullB a0_0 a0_1 l0_2 l0_3 a0_4 a0_5 l0_6) a3 a2 (l1.take i.toNat) ⟨f0,f1,f2,f3,f4,f5⟩ e)
        have HOUT:=am_ (fun e=>takenL_out (fullB a0_0 a0_1 l0_2 l0_3 a0_4 a0_5 l0_6) a3 a2 (l1.take i.toNat) ⟨f0,f1,f2,f3,f4,f5⟩ e)
        have HD:=am_ hd1
        clear hd1 hmem
        rw [hheld] at HIN HOUT
        clear hheld
        simp only at HIN
        generalize fullB a0_0 a0_1 l0_2 l0_3 a0_4 a0_5 l0_6 f4=FK at hkey CFo HIN
        have u0:=bc_ BK.out 0;have u1:=bc_ BK.out 1;have u2:=bc_ BK.out 2;have u3:=bc_ BK.out 3;have u4:=bc_ BK.out 4;have u5:=bc_ BK.out 5;have u6:=bc_ BK.out 6
        cases f5 with
        | false =>
         clear CB CF CFo HIN
         go_wp2
         go_roundg (l1.length - (i.toNat+1))
         case measure=>first|omega|(simp;omega)
         case rel =>
          have e2:(i+1).toNat=i.toNat+1:=by omega
          refine ⟨i+1,n,by omega,by omega,by go_num,by omega,⟨?_⟩,⟨(by repeat (with_reducible first|exact HB.out|apply p3_|apply p1_|apply p2_))⟩,⟨(by (with_reducible repeat (first|exact BK.out|refine k2_ ?_ _|refine k3_ ?_|refine k1_ ?_ _)))⟩⟩
          rw [e2,HD.out,HOUT.out (by simp)]
          exact HM.out.alloc (.cells #[.int .i64 f0,.int .i64 f1,.string f2,.int .i64 f3,.string f4,.bool false] 44)
        | true =>
         by_cases hc:f2.toList=a3.toList
         ·clear CB CF CFo HIN
          go_wp2
          go_roundg (l1.length - (i.toNat+1))
          case measure=>first|omega|(simp;omega)
          case rel =>
           have e2:(i+1).toNat=i.toNat+1:=by omega
           refine ⟨i+1,n,by omega,by omega,by go_num,by omega,⟨?_⟩,⟨(by repeat (with_reducible first|exact HB.out|apply p3_|apply p1_|apply p2_))⟩,⟨(by (with_reducible repeat (first|exact BK.out|refine k2_ ?_ _|refine k3_ ?_|refine k1_ ?_ _)))⟩⟩
           rw [e2,HD.out,HOUT.out (by simp [hc])]
           exact HM.out.alloc (.cells #[.int .i64 f0,.int .i64 f1,.string f2,.int .i64 f3,.string f4,.bool true] 44)
         cases b1 with
         | false =>
          clear CF CFo HIN u0 u1 u2 u3 u4 u5 u6
          go_wp2_with (first
           | (go_at_call 48;(with_reducible refine (CB.out _ _ (blk_new wr (.cells #[.int .i64 f0,.int .i64 f1,.string f2,.int .i64 f3,.string f4,.bool true] 44))).mono ?_);rintro e w5 ⟨rfl,hb2⟩;replace HM:=am_ (owns_below (HM.out.alloc (.cells #[.int .i64 f0,.int .i64 f1,.string f2,.int .i64 f3,.string f4,.bool true] 44)) hb2);replace BK:=am_ (kb_ (k1_ BK.out (.cells #[.int .i64 f0,.int .i64 f1,.string f2,.int .i64 f3,.string f4,.bool true] 44)) hb2);replace HB:=am_ (bt_ (p3_ HB.out (.cells #[.int .i64 f0,.int .i64 f1,.string f2,.int .i64 f3,.string f4,.bool true] 44)) hb2);clear hb2;have u0:=bc_ BK.out 0;have u1:=bc_ BK.out 1;have u2:=bc_ BK.out 2;have u3:=bc_ BK.out 3;have u4:=bc_ BK.out 4;have u5:=bc_ BK.out 5;have u6:=bc_ BK.out 6)
           | go_in)
          go_roundg (l1.length - (i.toNat+1))
          case measure=>first|omega|(simp;omega)
          case rel =>
           have e2:(i+1).toNat=i.toNat+1:=by omega
           refine ⟨i+1,n,by omega,by omega,by go_num,by omega,⟨?_⟩,HB,BK⟩
           rw [e2,HD.out,HOUT.out (by simp)]
           exact HM.out
         | true =>
          clear u0 u1 u2 u3 u4 u5 u6
          have hne:(!f2.toList == a3.toList)=true:=by simp [hc]
          go_wp2_with (first
           | (go_at_call 48;(with_reducible refine (CB.out _ _ (blk_new wr (.cells #[.int .i64 f0,.int .i64 f1,.string f2,.int .i64 f3,.string f4,.bool true] 44))).mono ?_);rintro e w5 ⟨rfl,hb2⟩;have hbx:=hb2;replace HM:=am_ (owns_below (HM.out.alloc (.cells #[.int .i64 f0,.int .i64 f1,.string f2,.int .i64 f3,.string f4,.bool true] 44)) hb2);replace BK:=am_ (kb_ (k1_ BK.out (.cells #[.int .i64 f0,.int .i64 f1,.string f2,.int .i64 f3,.string f4,.bool true] 44)) hb2);replace HB:=am_ (bt_ (p3_ HB.out (.cells #[.int .i64 f0,.int .i64 f1,.string f2,.int .i64 f3,.string f4,.bool true] 44)) hb2);clear hb2;have u0:=bc_ BK.out 0;have u1:=bc_ BK.out 1;have u2:=bc_ BK.out 2;have u3:=bc_ BK.out 3;have u4:=bc_ BK.out 4;have u5:=bc_ BK.out 5;have u6:=bc_ BK.out 6;have x4:=bc_ (kb_ (blk_new wr (.cells #[.int .i64 f0,.int .i64 f1,.string f2,.int .i64 f3,.string f4,.bool true] 44)) hbx) 4)
           | (go_at_call 78;(with_reducible refine (CFo.out _ (by repeat (with_reducible first|exact HB.out|apply p3_|apply p1_|apply p2_))).mono ?_);rintro e w6 ⟨rfl,hb2⟩;replace HM:=am_ (owns_below HM.out hb2);replace BK:=am_ (kb_ (show _ from (by (with_reducible repeat (first|exact BK.out|refine k2_ ?_ _|refine k3_ ?_|refine k1_ ?_ _)))) hb2);replace HB:=am_ (bt_ (show Below w.heap.size w _ from (by repeat (with_reducible first|exact HB.out|apply p3_|apply p1_|apply p2_))) hb2);clear hb2)
           | (at_mapUpdate;refine wpList_mapUpdate_own _ rfl _ _ _ 106 rfl 9 4 (Maps.string_keyed Tryz.underlying9) Tryz.underlying106 _ w2.heap.size n _ rfl HM.out (by unfold maxLen;omega) _ _ _ rfl rfl hkey _ [] (plainElem_bool Tryz.underlying4 true) ?_;intro w7 hown1 hgrow1;have HM1:=am_ hown1;have HB1:=am_ (free_grown hgrow1 (by repeat (with_reducible first|exact HB.out|apply p3_|apply p1_|apply p2_)) (Nat.le_of_lt hlt2));have BK1:=am_ (show w7.heap[w.heap.size]?=some (.cells #[.int .i64 a0_0,.int .i64 a0_1,.slice A0_2 l0_2.length c0_2,.slice A0_3 l0_3.length c0_3,.int .i64 a0_4,.string a0_5,.slice A0_6 l0_6.length c0_6] 26) from blk_grown (by (with_reducible repeat (first|exact BK.out|refine k2_ ?_ _|refine k3_ ?_|refine k1_ ?_ _))) hgrow1 (fun e=>absurd (e5_ e) (Nat.ne_of_lt hlt2)));clear hown1 hgrow1)
           | go_in)
          go_roundg (l1.length - (i.toNat+1))
          case measure=>first|omega|(simp;omega)
          case rel =>
           have e2:(i+1).toNat=i.toNat+1:=by omega
           refine ⟨i+1,n+1,by omega,by omega,by go_num,by omega,⟨?_⟩,HB1,BK1⟩
           rw [e2,HD.out,HIN.out (by simp [hc])]
           rw [←List.append_assoc,mapD_snoc];exact HM1.out
       ·have e3:l1.take i.toNat=l1:=List.take_of_length_le (by omega)
        have HM':=HM.out
        rw [e3] at HM'
        replace HM:=am_ HM'
        clear HM' e3
        have u0:=bc_ BK.out 0;have u1:=bc_ BK.out 1;have u2:=bc_ BK.out 2;have u3:=bc_ BK.out 3;have u4:=bc_ BK.out 4;have u5:=bc_ BK.out 5;have u6:=bc_ BK.out 6
        have hkey:=WideMaps.keyOf_string_mk Tryz.underlying9 (fullB_size (a0:=a0_0) (a1:=a0_1) (l2:=l0_2) (l3:=l0_3) (a4:=a0_4) (z:=a0_5) (l6:=l0_6) HS.out.1.2 HS.out.1.1.2.2.1)
        have HRo:=HR.out
        have CFo:=am_ (fun W=>CF.out a4 W HS.out.1.2)
        generalize fullB a0_0 a0_1 l0_2 l0_3 a0_4 a0_5 l0_6 a4=FK at hkey HRo CFo
        obtain ⟨b3,hb3⟩:∃ b3:Bool,(b3=true ↔ FK.data.toList∈[] :: takenS l0_6 ++ takenL (fullB a0_0 a0_1 l0_2 l0_3 a0_4 a0_5 l0_6) a3 a2 l1):=⟨decide _,decide_eq_true_iff⟩
        have hbr:(!b3)=r1:=by rw [←HRo,Bool.eq_iff_iff,decide_eq_true_iff,←hb3];cases b3<;>simp
        clear HRo HR CF HK6 HK1
        subst hbr
        have HL:∀ W,(W.ownsMap Tryz.prog 9 (plainElem (H:=Unit) Tryz.prog 4) w2.heap.size n (mapD .string ([] :: takenS l0_6 ++ takenL (fullB a0_0 a0_1 l0_2 l0_3 a0_4 a0_5 l0_6) a3 a2 l1)))→(Instr.lookup 106 (.map (some w2.heap.size)) (.string FK) false).run Tryz.prog W=.ok (.bool b3) W:=fun W h=>setLook Lit.string (fun _=>trivial) (fun _ _ e=>by injection e) (Maps.string_keyed Tryz.underlying9) Tryz.underlying106 Tryz.underlying4 (by kernel_rfl) h hkey hb3
        replace HL:=am_ HL
        clear hb3 hkey
        go_wp2_with (first
         | (go_at_call 78;(with_reducible refine (CFo.out _ (by repeat (with_reducible first|exact HB.out|apply p3_|apply p1_|apply p2_))).mono ?_);rintro e w6 ⟨rfl,hb2⟩;have hlook:=HL.out _ (owns_below HM.out hb2);replace BK:=am_ (kb_ (show _ from (by (with_reducible repeat (first|exact BK.out|refine k2_ ?_ _|refine k3_ ?_|refine k1_ ?_ _)))) hb2);replace HB:=am_ (bt_ (show Below w.heap.size w _ from (by repeat (with_reducible first|exact HB.out|apply p3_|apply p1_|apply p2_))) hb2);clear hb2)
         | go_in)
        go_ret2
        exact ⟨rfl,(by repeat (with_reducible first|exact HB.out|apply p3_|apply p1_|apply p2_))⟩

end Go.Proofs.YtibalpbkmgegnaaGreatDoor.PL
