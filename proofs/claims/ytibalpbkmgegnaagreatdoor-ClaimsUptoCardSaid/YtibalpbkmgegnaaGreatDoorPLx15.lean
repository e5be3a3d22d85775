-- Made by wip/pr.py out of the translation (a turned copy of the kit's print; contracts by hand where said).
import Derived.Test.YtibalpbkmgegnaaGreatDoorPLx0
import Derived.Test.YtibalpbkmgegnaaGreatDoorPLx4
import Derived.Test.YtibalpbkmgegnaaGreatDoorPLx5
import Derived.Test.YtibalpbkmgegnaaGreatDoorPLx13
import Derived.Test.YtibalpbkmgegnaaGreatDoorPLx14
namespace Go.Proofs.YtibalpbkmgegnaaGreatDoor.PL
open Go.RowKit Go.Proofs.YtibalpbkmgegnaaGreatDoorW.PrintWords Go.Proofs.YtibalpbkmgegnaaGreatDoorW.PrintLast Go.Proofs.YtibalpbkmgegnaaGreatDoorW.PrintMore
-- shrunk
attribute [local go_sem] max2_int min2_int max_two min_two max_three min_three max_four min_four   -- for this text's walks alone
set_option linter.unusedVariables false
set_option linter.unusedSimpArgs false
set_option maxHeartbeats 8000000
set_option maxRecDepth 100000

/-! ### pinfoldref11_LeaseMay: function 61 -/
-- BY HAND
-- 28
def pinfoldref11_LeaseMay_c.f (a0_0:Int) (a0_1:Int) (a0_2:ByteArray) (a0_3:Int) (a0_4:ByteArray) (a0_5:Bool):Option Bool:=if a0_4.size≤8796093022000 then some (leaseB a0_0 a0_1 a0_2 a0_3 a0_4 a0_5) else none
theorem pinfoldref11_LeaseMay_c.calls (a0_0:Int) (a0_1:Int) (a0_2:ByteArray) (a0_3:Int) (a0_4:ByteArray) (a0_5:Bool) (r:Bool) (w:World) (h:pinfoldref11_LeaseMay_c.f a0_0 a0_1 a0_2 a0_3 a0_4 a0_5=some r) :
  Calls Tryz.prog 61 #[.agg #[.int .i64 a0_0,.int .i64 a0_1,.string a0_2,.int .i64 a0_3,.string a0_4,.bool a0_5]] w fun e w'=>e=.returned (.bool r)∧Below w.heap.size w w':=by
 unfold pinfoldref11_LeaseMay_c.f at h
 by_cases hs:a0_4.size≤8796093022000
 rotate_left
 ·rw [if_neg hs] at h
  cases h
 rw [if_pos hs] at h
 replace h:=e5_ h
 obtain ⟨b1,h1⟩:∃ b,nameB (bytesOf a0_4)=b:=⟨_,rfl⟩
 unfold leaseB at h
 rw [h1] at h
 have C1:=am_ (fun W=>pinfoldref1_NameMay_c.calls a0_4 b1 W (by unfold pinfoldref1_NameMay_c.f;rw [if_pos hs,h1]))
 have HB:=am_ (Below.refl w.heap.size w)
 have BX:=am_ (blk_new w (.cells #[.int .i64 a0_0,.int .i64 a0_1,.string a0_2,.int .i64 a0_3,.string a0_4,.bool a0_5] 44))
 have v0:=bc_ BX.out 0;have v1:=bc_ BX.out 1;have v2:=bc_ BX.out 2;have v3:=bc_ BX.out 3;have v4:=bc_ BX.out 4;have v5:=bc_ BX.out 5
 clear h1 hs
 by_cases hA:((2≤a0_0∧a0_0≤254)∧(0≤a0_1∧a0_1≤3)∧a0_2.size≤16∧(0≤a0_3∧a0_3≤1099511627776)∧b1=true)
 rotate_left
 ·have HF:=am_ (show false=r by
   rw [←h,eq_comm,Bool.eq_false_iff]
   intro e
   simp only [Bool.and_eq_true,decide_eq_true_eq] at e
   refine hA ⟨e.1.1.1.1,?_,e.1.1.2,e.1.2,e.2⟩
   have h:=e.1.1.1.2
   unfold stateB at h
   by_cases q0:a0_1=0∨a0_1=3
   ·omega
   rw [if_neg q0] at h
   by_cases q1:a0_1=1
   ·omega
   rw [if_neg q1] at h
   by_cases q2:a0_1=2
   ·omega
   rw [if_neg q2] at h
   cases h)
  have hA2:=am_ hA
  clear h hA
  go_enter Tryz.func61,Tryz.ntmps61
  go_wp2_with (first|(go_at_call 28;(with_reducible refine (C1.out _).mono ?_);rintro e w1 ⟨rfl,hb2⟩;replace BX:=am_ (kb_ (show _ from (by (with_reducible repeat (first|exact BX.out|refine k2_ ?_ _|refine k3_ ?_|refine k1_ ?_ _)))) hb2);replace HB:=am_ (bt_ (show Below w.heap.size w _ from (by repeat (with_reducible first|exact HB.out|apply p3_|apply p1_|apply p2_))) hb2);clear hb2;clear v0 v1 v2 v3 v4 v5;have v0:=bc_ BX.out 0;have v1:=bc_ BX.out 1;have v2:=bc_ BX.out 2;have v3:=bc_ BX.out 3;have v4:=bc_ BX.out 4;have v5:=bc_ BX.out 5))
  all_goals (try go_ret)
  all_goals first
   | exact ⟨ret_bool HF.out,(by repeat (with_reducible first|exact HB.out|apply p3_|apply p1_|apply p2_))⟩
   | (exfalso;refine hA2.out ⟨⟨?_,?_⟩,⟨?_,?_⟩,?_,⟨?_,?_⟩,?_⟩<;>first|omega|assumption|(simp_all;done)|(simp_all;omega))
 obtain ⟨⟨g1,g2⟩,⟨g3,g4⟩,g5,⟨g6,g7⟩,rfl⟩:=hA
 rw [decide_eq_true (show 2≤a0_0∧a0_0≤254 from ⟨g1,g2⟩),decide_eq_true g5,decide_eq_true (show 0≤a0_3∧a0_3≤1099511627776 from ⟨g6,g7⟩),Bool.and_true,Bool.and_true,Bool.and_true,Bool.true_and] at h
 have d1:decide (a0_0 < 2)=false:=decide_eq_false (by omega)
 have d2:decide (254 < a0_0)=false:=decide_eq_false (by omega)
 have d5:decide (16 < (a0_2.size:Int))=false:=decide_eq_false (by omega)
 have d6:decide (a0_3 < 0)=false:=decide_eq_false (by omega)
 have d7:decide (1099511627776 < a0_3)=false:=decide_eq_false (by omega)
 obtain ⟨c2,hc2⟩:∃ c,a0_2.toList.isEmpty=c:=⟨_,rfl⟩
 obtain ⟨c4,hc4⟩:∃ c,a0_4.toList.isEmpty=c:=⟨_,rfl⟩
 have e2:decide (a0_2.toList=[])=c2:=by rw [←hc2];cases a0_2.toList<;>rfl
 have e4:decide (a0_4.toList=[])=c4:=by rw [←hc4];cases a0_4.toList<;>rfl
 have e2n:decide (a0_2.toList≠[])=!c2:=by rw [←hc2];cases a0_2.toList<;>rfl
 have e4n:decide (a0_4.toList≠[])=!c4:=by rw [←hc4];cases a0_4.toList<;>rfl
 have e2b:(a0_2.toList == [])=c2:=by rw [←hc2];cases a0_2.toList<;>rfl
 have e4b:(a0_4.toList == [])=c4:=by rw [←hc4];cases a0_4.toList<;>rfl
 unfold stateB at h
 rw [e4,e2n,e4n] at h
 clear e2 e4 e2n e4n g1 g2 g5 g6 g7
 have hst:a0_1=0∨a0_1=1∨a0_1=2∨a0_1=3:=by omega
 clear g3 g4
 rcases hst with rfl|rfl|rfl|rfl<;>cases c2<;>cases c4<;>cases a0_5
 all_goals
  have HF:=am_ h
  clear h
  go_enter Tryz.func61,Tryz.ntmps61
  go_wp2_with (first|(go_at_call 28;(with_reducible refine (C1.out _).mono ?_);rintro e w1 ⟨rfl,hb2⟩;replace BX:=am_ (kb_ (show _ from (by (with_reducible repeat (first|exact BX.out|refine k2_ ?_ _|refine k3_ ?_|refine k1_ ?_ _)))) hb2);replace HB:=am_ (bt_ (show Below w.heap.size w _ from (by repeat (with_reducible first|exact HB.out|apply p3_|apply p1_|apply p2_))) hb2);clear hb2;clear v0 v1 v2 v3 v4 v5;have v0:=bc_ BX.out 0;have v1:=bc_ BX.out 1;have v2:=bc_ BX.out 2;have v3:=bc_ BX.out 3;have v4:=bc_ BX.out 4;have v5:=bc_ BX.out 5))
  go_ret
  exact ⟨ret_bool (by rw [←HF.out];rfl),HB.out⟩

/-! ### pinfoldref11_TableMay: function 57 -/
-- BY HAND
-- 61
def hostAheadR (l:List S44) (i:Nat):Option Int:=if i=0 then none else some (rd_T44 l ((i - 1:Nat):Int)).f0
def pinfoldref11_TableMay.S (pb:Addr) (x0 x1:Int) (x2:ByteArray) (x3:Int) (x4:ByteArray) (x5:Bool) (pa:Addr) (y0:Int) (w':World):Prop:=w'.cell? pb=some (.int .i64 x0)∧w'.cell? ⟨pb.block,pb.off+1,none⟩=some (.int .i64 x1)∧w'.cell? ⟨pb.block,pb.off+2,none⟩=some (.string x2)∧w'.cell? ⟨pb.block,pb.off+3,none⟩=some (.int .i64 x3)∧w'.cell? ⟨pb.block,pb.off+4,none⟩=some (.string x4)∧w'.cell? ⟨pb.block,pb.off+5,none⟩=some (.bool x5)∧w'.cell? pa=some (.int .i64 y0)
theorem pinfoldref11_TableMay.S_below {w w2:World} {pb:Addr} {x0 x1:Int} {x2:ByteArray} {x3:Int} {x4:ByteArray} {x5:Bool} {pa:Addr} {y0:Int} (h:pinfoldref11_TableMay.S pb x0 x1 x2 x3 x4 x5 pa y0 w) (hb:Below w.heap.size w w2):pinfoldref11_TableMay.S pb x0 x1 x2 x3 x4 x5 pa y0 w2:=by
 obtain ⟨s0,s1,s2,s3,s4,s5,s6⟩:=h
 exact ⟨(hb.cell (wb_ _ _ s0)).trans s0,(hb.cell (wb_ _ _ s1)).trans s1,(hb.cell (wb_ _ _ s2)).trans s2,(hb.cell (wb_ _ _ s3)).trans s3,(hb.cell (wb_ _ _ s4)).trans s4,(hb.cell (wb_ _ _ s5)).trans s5,(hb.cell (wb_ _ _ s6)).trans s6⟩
def pinfoldref11_TableMay_c.f (l0:List S44):Option Bool:=if tabFitR l0 then some (tableB l0) else none
theorem pinfoldref11_TableMay_c.calls (A0:Option Addr) (c0:Nat) (l0:List S44) (r:Bool) (w:World) (hr0:Kd.C k44 w A0 l0.length l0) (hc0:l0.length≤c0) (h:pinfoldref11_TableMay_c.f l0=some r) :
  Calls Tryz.prog 57 #[.slice A0 l0.length c0] w fun e w'=>e=.returned (.bool r)∧Below w.heap.size w w':=by
 unfold pinfoldref11_TableMay_c.f at h
 by_cases hs:tabFitR l0
 rotate_left
 ·rw [if_neg hs] at h
  cases h
 rw [if_pos hs] at h
 have HT:=am_ (show (goTab (hostAheadR l0 (0:Int).toNat) (l0.drop (0:Int).toNat) && decide (l0.length≤8))=r from e5_ h)
 have hl:=hs.1
 have HX:=am_ hs.2
 have HR:=am_ hr0
 have HB:=am_ (Below.refl w.heap.size w)
 clear h hs hr0 hc0
 go_enter Tryz.func57,Tryz.ntmps57
 go_wp2
 go_loopg [3] l0.length (fun d v w'=>∃ i:Int,0≤i∧i.toNat+d=l0.length∧v=.int .i64 i∧Aside0 (Below w.heap.size w w')∧Aside0 ((goTab (hostAheadR l0 i.toNat) (l0.drop i.toNat) && decide (l0.length≤8))=r))
 case atStart=>exact ⟨0,by omega,by simp,rfl,HB,HT⟩
 case round =>
  clear HB HT
  obtain ⟨i,hi0,hd,rfl,HB,HT⟩:=hrel
  by_cases hlt:i < (l0.length:Int)
  ·obtain ⟨ad,e1,hw0,hw1,hw2,hw3,hw4,hw5⟩:=at_T44 HR.out i hi0 hlt
   cases e1
   have hx0:=(HB.out.cell (wb_ w _ hw0)).trans hw0;have hx1:=(HB.out.cell (wb_ w _ hw1)).trans hw1;have hx2:=(HB.out.cell (wb_ w _ hw2)).trans hw2;have hx3:=(HB.out.cell (wb_ w _ hw3)).trans hw3;have hx4:=(HB.out.cell (wb_ w _ hw4)).trans hw4;have hx5:=(HB.out.cell (wb_ w _ hw5)).trans hw5
   have hd1:=dropLease l0 i hi0 hlt
   have hsz:=HX.out _ hd1.2
   have hst:=HT.out
   rw [hd1.1] at hst
   have hnx:hostAheadR l0 (i.toNat+1)=some (rd_T44 l0 i).f0:=by
    unfold hostAheadR
    rw [if_neg (by omega),Nat.add_sub_cancel,Int.toNat_of_nonneg hi0]
   have hi2:(i+1).toNat=i.toNat+1:=by omega
   have hpv:¬ i=0→∃ j y,wrap64 (i - 1)=j∧0≤j∧j < (l0.length:Int)∧hostAheadR l0 i.toNat=some y∧w.cell? (ad.add (j.toNat * 6))=some (.int .i64 y):=by
    intro h0
    have h1:wrap64 (i - 1)=i - 1:=by unfold wrap64;omega
    obtain ⟨ad2,e2,hy0,_⟩:=at_T44 HR.out (i - 1) (by omega) (by omega)
    cases e2
    refine ⟨i - 1,_,h1,by omega,by omega,?_,hy0⟩
    unfold hostAheadR
    rw [if_neg (by omega),show ((i.toNat - 1:Nat):Int)=i - 1 by omega]
   generalize rd_T44 l0 i=x at hw0 hw1 hw2 hw3 hw4 hw5 hx0 hx1 hx2 hx3 hx4 hx5 hsz hst hnx
   clear hd1 HT
   obtain ⟨x0,x1,x2,x3,x4,x5⟩:=x
   simp only at hw0 hw1 hw2 hw3 hw4 hw5 hx0 hx1 hx2 hx3 hx4 hx5 hsz hst hnx
   obtain ⟨b1,h1⟩:∃ b,leaseB x0 x1 x2 x3 x4 x5=b:=⟨_,rfl⟩
   have hst2:((b1 && (above (hostAheadR l0 i.toNat) x0 && goTab (some x0) (l0.drop (i.toNat+1)))) && decide (l0.length≤8))=r:=by rw [←h1];exact hst
   rw [←hnx,←hi2] at hst2
   clear hst hnx
   have CM:=am_ (fun W=>pinfoldref11_LeaseMay_c.calls x0 x1 x2 x3 x4 x5 b1 W (by unfold pinfoldref11_LeaseMay_c.f;rw [if_pos hsz,h1]))
   have H1:=am_ (show 0≤i+1 by omega)
   have H2:=am_ (show (i+1).toNat+(l0.length - (i.toNat+1))=l0.length by omega)
   have H3:=am_ (show l0.length - (i.toNat+1) < gk by omega)
   have H4:=am_ (show IntKind.i64.wrap (i+1)=i+1 from (i64_w _).trans (by unfold wrap64;omega))
   have H6:=am_ (fun (h:i=0)=>show i.toNat=0 by rw [h];rfl)
   have H5:=am_ (fun (h:¬ i=0)=>show 0 < i by omega)
   replace hi0:=am_ hi0
   replace hd:=am_ hd
   replace hl:=am_ hl
   have clt:=decide_eq_true hlt
   have cle:=decide_eq_true hi0.out
   have plt:=eq_true hlt
   have ple:=eq_true hi0.out
   clear h1 hlt
   cases b1 with
   | false =>
    have HF:=am_ (show false=r by rw [←hst2];rfl)
    clear hst2 hpv hi2
    go_wp2_with fail
    have HB1:=am_ (below_drew HB.out)
    refine seqS (S:=pinfoldref11_TableMay.S (ad.add (i.toNat * 6)) x0 x1 x2 x3 x4 x5 (ad.add (i.toNat * 6)) x0) 24 (by kernel_rfl) rfl rfl (by unfold pinfoldref11_TableMay.S;exact ⟨(HB1.out.cell (wb_ w _ hw0)).trans hw0,(HB1.out.cell (wb_ w _ hw1)).trans hw1,(HB1.out.cell (wb_ w _ hw2)).trans hw2,(HB1.out.cell (wb_ w _ hw3)).trans hw3,(HB1.out.cell (wb_ w _ hw4)).trans hw4,(HB1.out.cell (wb_ w _ hw5)).trans hw5,(HB1.out.cell (wb_ w _ hw0)).trans hw0⟩) ?_
    intro hHeld
    clear hx0 hx1 hx2 hx3 hx4 hx5 hw0 hw1 hw2 hw3 hw4 hw5 HB
    iterate 4 first|(refine seqP (v:=?_) (a':=?_) rfl rfl (by kernel_rfl) (fun _ _ _ h=>h) (Or.inl ⟨by kernel_rfl,?_⟩) ?_ ?_;rotate_left;(intro w';go_simp;with_reducible rfl);rotate_left;(simp only [Act.put,sa_,sb_,sc_,i64_w,i32_w];rfl))|(refine seqL (v:=?_) (a':=?_) rfl rfl (by kernel_rfl) (fun _ _ _ h=>h) (Or.inl ⟨by kernel_rfl,?_⟩) hHeld ?_ ?_;rotate_left;(rintro w' ⟨s0,s1,s2,s3,s4,s5,s6⟩;go_simp;with_reducible rfl);rotate_left;(simp only [Act.put,sa_,sb_,sc_,i64_w,i32_w];rfl))
    refine seqG (fn:=Tryz.f61) rfl rfl (by kernel_rfl) rfl Tryz.func61 (by kernel_rfl) (by kernel_rfl) #[.agg #[.int .i64 x0,.int .i64 x1,.string x2,.int .i64 x3,.string x4,.bool x5]] (by kernel_rfl) (by (try simp only [List.map_toArray,List.map_cons,List.map_nil]);first|done|rfl) ?_
    with_reducible refine (CM.out _).mono ?_
    rintro e wg ⟨rfl,hb2⟩
    have HB2:=am_ (bt_ HB1.out hb2)
    refine ⟨_,rfl,pinfoldref11_TableMay.S_below hHeld hb2,fun hHeld=>⟨?_,?_,?_⟩⟩
    rotate_left
    ·simp only [Act.put,sa_,sb_,sc_,i64_w,i32_w]
     rfl
    clear hb2 HB1 CM
    iterate 2 first|(refine seqP (v:=?_) (a':=?_) rfl rfl (by kernel_rfl) (fun _ _ _ h=>h) (Or.inl ⟨by kernel_rfl,?_⟩) ?_ ?_;rotate_left;(intro w';go_simp;with_reducible rfl);rotate_left;(simp only [Act.put,sa_,sb_,sc_,i64_w,i32_w];rfl))|(refine seqL (v:=?_) (a':=?_) rfl rfl (by kernel_rfl) (fun _ _ _ h=>h) (Or.inl ⟨by kernel_rfl,?_⟩) hHeld ?_ ?_;rotate_left;(rintro w' ⟨s0,s1,s2,s3,s4,s5,s6⟩;go_simp;with_reducible rfl);rotate_left;(simp only [Act.put,sa_,sb_,sc_,i64_w,i32_w];rfl))
    iterate 16 (refine seqP (v:=undef) (a':=?_) rfl rfl (by kernel_rfl) (fun _ _ _ h=>h) (Or.inr ⟨by kernel_rfl,rfl⟩) ?_ ?_;rotate_left;(simp only [Act.put,sa_,sb_,sc_,i64_w,i32_w];rfl))
    iterate 1 first|(refine seqP (v:=?_) (a':=?_) rfl rfl (by kernel_rfl) (fun _ _ _ h=>h) (Or.inl ⟨by kernel_rfl,?_⟩) ?_ ?_;rotate_left;(intro w';go_simp;with_reducible rfl);rotate_left;(simp only [Act.put,sa_,sb_,sc_,i64_w,i32_w];rfl))|(refine seqL (v:=?_) (a':=?_) rfl rfl (by kernel_rfl) (fun _ _ _ h=>h) (Or.inl ⟨by kernel_rfl,?_⟩) hHeld ?_ ?_;rotate_left;(rintro w' ⟨s0,s1,s2,s3,s4,s5,s6⟩;go_simp;with_reducible rfl);rotate_left;(simp only [Act.put,sa_,sb_,sc_,i64_w,i32_w];rfl))
    refine seqE (by kernel_rfl) ?_
    go_wp2
    go_ret
    exact ⟨ret_bool (HF.out),HB2.out⟩
   | true =>
   rw [Bool.true_and] at hst2
   by_cases hp:i=0
   ·have cp:decide (0 < i)=false:=decide_eq_false (by omega)
    have HN:=am_ (show (goTab (hostAheadR l0 (i+1).toNat) (l0.drop (i+1).toNat) && decide (l0.length≤8))=r by rw [←hst2,show hostAheadR l0 i.toNat=none by unfold hostAheadR;rw [if_pos (H6.out hp)],show above none x0=true from rfl,Bool.true_and])
    replace hp:=am_ hp
    clear hst2 hpv hi2
    go_wp2_with fail
    have HB1:=am_ (below_drew HB.out)
    refine seqS (S:=pinfoldref11_TableMay.S (ad.add (i.toNat * 6)) x0 x1 x2 x3 x4 x5 (ad.add (i.toNat * 6)) x0) 24 (by kernel_rfl) rfl rfl (by unfold pinfoldref11_TableMay.S;exact ⟨(HB1.out.cell (wb_ w _ hw0)).trans hw0,(HB1.out.cell (wb_ w _ hw1)).trans hw1,(HB1.out.cell (wb_ w _ hw2)).trans hw2,(HB1.out.cell (wb_ w _ hw3)).trans hw3,(HB1.out.cell (wb_ w _ hw4)).trans hw4,(HB1.out.cell (wb_ w _ hw5)).trans hw5,(HB1.out.cell (wb_ w _ hw0)).trans hw0⟩) ?_
    intro hHeld
    clear hx0 hx1 hx2 hx3 hx4 hx5 hw0 hw1 hw2 hw3 hw4 hw5 HB
    iterate 4 first|(refine seqP (v:=?_) (a':=?_) rfl rfl (by kernel_rfl) (fun _ _ _ h=>h) (Or.inl ⟨by kernel_rfl,?_⟩) ?_ ?_;rotate_left;(intro w';go_simp;with_reducible rfl);rotate_left;(simp only [Act.put,sa_,sb_,sc_,i64_w,i32_w];rfl))|(refine seqL (v:=?_) (a':=?_) rfl rfl (by kernel_rfl) (fun _ _ _ h=>h) (Or.inl ⟨by kernel_rfl,?_⟩) hHeld ?_ ?_;rotate_left;(rintro w' ⟨s0,s1,s2,s3,s4,s5,s6⟩;go_simp;with_reducible rfl);rotate_left;(simp only [Act.put,sa_,sb_,sc_,i64_w,i32_w];rfl))
    refine seqG (fn:=Tryz.f61) rfl rfl (by kernel_rfl) rfl Tryz.func61 (by kernel_rfl) (by kernel_rfl) #[.agg #[.int .i64 x0,.int .i64 x1,.string x2,.int .i64 x3,.string x4,.bool x5]] (by kernel_rfl) (by (try simp only [List.map_toArray,List.map_cons,List.map_nil]);first|done|rfl) ?_
    with_reducible refine (CM.out _).mono ?_
    rintro e wg ⟨rfl,hb2⟩
    have HB2:=am_ (bt_ HB1.out hb2)
    refine ⟨_,rfl,pinfoldref11_TableMay.S_below hHeld hb2,fun hHeld=>⟨?_,?_,?_⟩⟩
    rotate_left
    ·simp only [Act.put,sa_,sb_,sc_,i64_w,i32_w]
     rfl
    clear hb2 HB1 CM
    iterate 2 first|(refine seqP (v:=?_) (a':=?_) rfl rfl (by kernel_rfl) (fun _ _ _ h=>h) (Or.inl ⟨by kernel_rfl,?_⟩) ?_ ?_;rotate_left;(intro w';go_simp;with_reducible rfl);rotate_left;(simp only [Act.put,sa_,sb_,sc_,i64_w,i32_w];rfl))|(refine seqL (v:=?_) (a':=?_) rfl rfl (by kernel_rfl) (fun _ _ _ h=>h) (Or.inl ⟨by kernel_rfl,?_⟩) hHeld ?_ ?_;rotate_left;(rintro w' ⟨s0,s1,s2,s3,s4,s5,s6⟩;go_simp;with_reducible rfl);rotate_left;(simp only [Act.put,sa_,sb_,sc_,i64_w,i32_w];rfl))
    iterate 3 first|(refine seqP (v:=?_) (a':=?_) rfl rfl (by kernel_rfl) (fun _ _ _ h=>h) (Or.inl ⟨by kernel_rfl,?_⟩) ?_ ?_;rotate_left;(intro w';go_simp;with_reducible rfl);rotate_left;(simp only [Act.put,sa_,sb_,sc_,i64_w,i32_w];rfl))|(refine seqL (v:=?_) (a':=?_) rfl rfl (by kernel_rfl) (fun _ _ _ h=>h) (Or.inl ⟨by kernel_rfl,?_⟩) hHeld ?_ ?_;rotate_left;(rintro w' ⟨s0,s1,s2,s3,s4,s5,s6⟩;go_simp;with_reducible rfl);rotate_left;(simp only [Act.put,sa_,sb_,sc_,i64_w,i32_w];rfl))
    iterate 12 (refine seqP (v:=undef) (a':=?_) rfl rfl (by kernel_rfl) (fun _ _ _ h=>h) (Or.inr ⟨by kernel_rfl,rfl⟩) ?_ ?_;rotate_left;(simp only [Act.put,sa_,sb_,sc_,i64_w,i32_w];rfl))
    iterate 2 first|(refine seqP (v:=?_) (a':=?_) rfl rfl (by kernel_rfl) (fun _ _ _ h=>h) (Or.inl ⟨by kernel_rfl,?_⟩) ?_ ?_;rotate_left;(intro w';go_simp;with_reducible rfl);rotate_left;(simp only [Act.put,sa_,sb_,sc_,i64_w,i32_w];rfl))|(refine seqL (v:=?_) (a':=?_) rfl rfl (by kernel_rfl) (fun _ _ _ h=>h) (Or.inl ⟨by kernel_rfl,?_⟩) hHeld ?_ ?_;rotate_left;(rintro w' ⟨s0,s1,s2,s3,s4,s5,s6⟩;go_simp;with_reducible rfl);rotate_left;(simp only [Act.put,sa_,sb_,sc_,i64_w,i32_w];rfl))
    refine seqE (by kernel_rfl) ?_
    go_wp2
    go_roundg (l0.length - (i.toNat+1))
    case measure=>exact H3.out
    case rel=>exact ⟨i+1,H1.out,H2.out,by first|rfl|(rw [show wrap64 (i+1)=i+1 from (i64_w _).symm.trans H4.out]),HB2,HN⟩
   ·obtain ⟨j,y,hj,hj0,hj1,hay,hwy⟩:=hpv hp
    have cp:decide (0 < i)=true:=decide_eq_true (H5.out hp)
    have hjw:IntKind.i64.wrap (i - 1)=j:=(i64_w _).trans hj
    have pj0:=eq_true hj0
    have pj1:=eq_true hj1
    have cj0:=decide_eq_true hj0
    have cj1:=decide_eq_true hj1
    rw [hay] at hst2
    replace hp:=am_ hp
    replace hj0:=am_ hj0
    replace hj1:=am_ hj1
    by_cases hc:x0≤y
    ·have cc:decide (x0≤y)=true:=decide_eq_true hc
     have HF:=am_ (show false=r by rw [←hst2,show above (some y) x0=false from decide_eq_false (by omega)];simp)
     clear hst2 hpv hi2 hc hay
     go_wp2_with fail
     have HB1:=am_ (below_drew HB.out)
     refine seqS (S:=pinfoldref11_TableMay.S (ad.add (i.toNat * 6)) x0 x1 x2 x3 x4 x5 (ad.add (j.toNat * 6)) y) 24 (by kernel_rfl) rfl rfl (by unfold pinfoldref11_TableMay.S;exact ⟨(HB1.out.cell (wb_ w _ hw0)).trans hw0,(HB1.out.cell (wb_ w _ hw1)).trans hw1,(HB1.out.cell (wb_ w _ hw2)).trans hw2,(HB1.out.cell (wb_ w _ hw3)).trans hw3,(HB1.out.cell (wb_ w _ hw4)).trans hw4,(HB1.out.cell (wb_ w _ hw5)).trans hw5,(HB1.out.cell (wb_ w _ hwy)).trans hwy⟩) ?_
     intro hHeld
     clear hx0 hx1 hx2 hx3 hx4 hx5 hw0 hw1 hw2 hw3 hw4 hw5 HB
     iterate 4 first|(refine seqP (v:=?_) (a':=?_) rfl rfl (by kernel_rfl) (fun _ _ _ h=>h) (Or.inl ⟨by kernel_rfl,?_⟩) ?_ ?_;rotate_left;(intro w';go_simp;with_reducible rfl);rotate_left;(simp only [Act.put,sa_,sb_,sc_,i64_w,i32_w];rfl))|(refine seqL (v:=?_) (a':=?_) rfl rfl (by kernel_rfl) (fun _ _ _ h=>h) (Or.inl ⟨by kernel_rfl,?_⟩) hHeld ?_ ?_;rotate_left;(rintro w' ⟨s0,s1,s2,s3,s4,s5,s6⟩;go_simp;with_reducible rfl);rotate_left;(simp only [Act.put,sa_,sb_,sc_,i64_w,i32_w];rfl))
     refine seqG (fn:=Tryz.f61) rfl rfl (by kernel_rfl) rfl Tryz.func61 (by kernel_rfl) (by kernel_rfl) #[.agg #[.int .i64 x0,.int .i64 x1,.string x2,.int .i64 x3,.string x4,.bool x5]] (by kernel_rfl) (by (try simp only [List.map_toArray,List.map_cons,List.map_nil]);first|done|rfl) ?_
     with_reducible refine (CM.out _).mono ?_
     rintro e wg ⟨rfl,hb2⟩
     have HB2:=am_ (bt_ HB1.out hb2)
     refine ⟨_,rfl,pinfoldref11_TableMay.S_below hHeld hb2,fun hHeld=>⟨?_,?_,?_⟩⟩
     rotate_left
     ·simp only [Act.put,sa_,sb_,sc_,i64_w,i32_w]
      rfl
     clear hb2 HB1 CM
     iterate 2 first|(refine seqP (v:=?_) (a':=?_) rfl rfl (by kernel_rfl) (fun _ _ _ h=>h) (Or.inl ⟨by kernel_rfl,?_⟩) ?_ ?_;rotate_left;(intro w';go_simp;with_reducible rfl);rotate_left;(simp only [Act.put,sa_,sb_,sc_,i64_w,i32_w];rfl))|(refine seqL (v:=?_) (a':=?_) rfl rfl (by kernel_rfl) (fun _ _ _ h=>h) (Or.inl ⟨by kernel_rfl,?_⟩) hHeld ?_ ?_;rotate_left;(rintro w' ⟨s0,s1,s2,s3,s4,s5,s6⟩;go_simp;with_reducible rfl);rotate_left;(simp only [Act.put,sa_,sb_,sc_,i64_w,i32_w];rfl))
     iterate 17 first|(refine seqP (v:=?_) (a':=?_) rfl rfl (by kernel_rfl) (fun _ _ _ h=>h) (Or.inl ⟨by kernel_rfl,?_⟩) ?_ ?_;rotate_left;(intro w';go_simp;with_reducible rfl);rotate_left;(simp only [Act.put,sa_,sb_,sc_,i64_w,i32_w];rfl))|(refine seqL (v:=?_) (a':=?_) rfl rfl (by kernel_rfl) (fun _ _ _ h=>h) (Or.inl ⟨by kernel_rfl,?_⟩) hHeld ?_ ?_;rotate_left;(rintro w' ⟨s0,s1,s2,s3,s4,s5,s6⟩;go_simp;with_reducible rfl);rotate_left;(simp only [Act.put,sa_,sb_,sc_,i64_w,i32_w];rfl))
     refine seqE (by kernel_rfl) ?_
     go_wp2
     go_ret
     exact ⟨ret_bool (HF.out),HB2.out⟩
    ·have cc:decide (x0≤y)=false:=decide_eq_false hc
     have HN:=am_ (show (goTab (hostAheadR l0 (i+1).toNat) (l0.drop (i+1).toNat) && decide (l0.length≤8))=r by rw [←hst2,show above (some y) x0=true from decide_eq_true (by omega),Bool.true_and])
     clear hst2 hpv hi2 hc hay
     go_wp2_with fail
     have HB1:=am_ (below_drew HB.out)
     refine seqS (S:=pinfoldref11_TableMay.S (ad.add (i.toNat * 6)) x0 x1 x2 x3 x4 x5 (ad.add (j.toNat * 6)) y) 24 (by kernel_rfl) rfl rfl (by unfold pinfoldref11_TableMay.S;exact ⟨(HB1.out.cell (wb_ w _ hw0)).trans hw0,(HB1.out.cell (wb_ w _ hw1)).trans hw1,(HB1.out.cell (wb_ w _ hw2)).trans hw2,(HB1.out.cell (wb_ w _ hw3)).trans hw3,(HB1.out.cell (wb_ w _ hw4)).trans hw4,(HB1.out.cell (wb_ w _ hw5)).trans hw5,(HB1.out.cell (wb_ w _ hwy)).trans hwy⟩) ?_
     intro hHeld
     clear hx0 hx1 hx2 hx3 hx4 hx5 hw0 hw1 hw2 hw3 hw4 hw5 HB
     iterate 4 first|(refine seqP (v:=?_) (a':=?_) rfl rfl (by kernel_rfl) (fun _ _ _ h=>h) (Or.inl ⟨by kernel_rfl,?_⟩) ?_ ?_;rotate_left;(intro w';go_simp;with_reducible rfl);rotate_left;(simp only [Act.put,sa_,sb_,sc_,i64_w,i32_w];rfl))|(refine seqL (v:=?_) (a':=?_) rfl rfl (by kernel_rfl) (fun _ _ _ h=>h) (Or.inl ⟨by kernel_rfl,?_⟩) hHeld ?_ ?_;rotate_left;(rintro w' ⟨s0,s1,s2,s3,s4,s5,s6⟩;go_simp;with_reducible rfl);rotate_left;(simp only [Act.put,sa_,sb_,sc_,i64_w,i32_w];rfl))
     refine seqG (fn:=Tryz.f61) rfl rfl (by kernel_rfl) rfl Tryz.func61 (by kernel_rfl) (by kernel_rfl) #[.agg #[.int .i64 x0,.int .i64 x1,.string x2,.int .i64 x3,.string x4,.bool x5]] (by kernel_rfl) (by (try simp only [List.map_toArray,List.map_cons,List.map_nil]);first|done|rfl) ?_
     with_reducible refine (CM.out _).mono ?_
     rintro e wg ⟨rfl,hb2⟩
     have HB2:=am_ (bt_ HB1.out hb2)
     refine ⟨_,rfl,pinfoldref11_TableMay.S_below hHeld hb2,fun hHeld=>⟨?_,?_,?_⟩⟩
     rotate_left
     ·simp only [Act.put,sa_,sb_,sc_,i64_w,i32_w]
      rfl
     clear hb2 HB1 CM
     iterate 2 first|(refine seqP (v:=?_) (a':=?_) rfl rfl (by kernel_rfl) (fun _ _ _ h=>h) (Or.inl ⟨by kernel_rfl,?_⟩) ?_ ?_;rotate_left;(intro w';go_simp;with_reducible rfl);rotate_left;(simp only [Act.put,sa_,sb_,sc_,i64_w,i32_w];rfl))|(refine seqL (v:=?_) (a':=?_) rfl rfl (by kernel_rfl) (fun _ _ _ h=>h) (Or.inl ⟨by kernel_rfl,?_⟩) hHeld ?_ ?_;rotate_left;(rintro w' ⟨s0,s1,s2,s3,s4,s5,s6⟩;go_simp;with_reducible rfl);rotate_left;(simp only [Act.put,sa_,sb_,sc_,i64_w,i32_w];rfl))
     iterate 17 first|(refine seqP (v:=?_) (a':=?_) rfl rfl (by kernel_rfl) (fun _ _ _ h=>h) (Or.inl ⟨by kernel_rfl,?_⟩) ?_ ?_;rotate_left;(intro w';go_simp;with_reducible rfl);rotate_left;(simp only [Act.put,sa_,sb_,sc_,i64_w,i32_w];rfl))|(refine seqL (v:=?_) (a':=?_) rfl rfl (by kernel_rfl) (fun _ _ _ h=>h) (Or.inl ⟨by kernel_rfl,?_⟩) hHeld ?_ ?_;rotate_left;(rintro w' ⟨s0,s1,s2,s3,s4,s5,s6⟩;go_simp;with_reducible rfl);rotate_left;(simp only [Act.put,sa_,sb_,sc_,i64_w,i32_w];rfl))
     refine seqE (by kernel_rfl) ?_
     go_wp2
     go_roundg (l0.length - (i.toNat+1))
     case measure=>exact H3.out
     case rel=>exact ⟨i+1,H1.out,H2.out,by first|rfl|(rw [show wrap64 (i+1)=i+1 from (i64_w _).symm.trans H4.out]),HB2,HN⟩
  ·have HF:=am_ (show decide (l0.length≤8)=r by have h1:=HT.out;rw [List.drop_eq_nil_of_le (by omega)] at h1;rw [←h1,show goTab (hostAheadR l0 i.toNat) []=true from rfl,Bool.true_and])
   by_cases h8:l0.length≤8
   ·have c8:decide ((l0.length:Int)≤8)=true:=decide_eq_true (by omega)
    have HG:=am_ (show true=r by rw [←HF.out];exact (decide_eq_true h8).symm)
    clear HT HF
    go_wp2
    go_ret
    exact ⟨ret_bool HG.out,HB.out⟩
   ·have c8:decide ((l0.length:Int)≤8)=false:=decide_eq_false (by omega)
    have HG:=am_ (show false=r by rw [←HF.out];exact (decide_eq_false h8).symm)
    clear HT HF
    go_wp2
    go_ret
    exact ⟨ret_bool HG.out,HB.out⟩

/-! ### pinfoldref11_asked: function 27 -/
-- BY HAND
-- 56 57 58
def pinfoldref11_asked_c.f (a0_0:Int) (a0_1:Int) (l0_2:List Int) (l0_3:List S95) (a0_4:Int) (a0_5:ByteArray) (l0_6:List S93) (l1:List S44) (a2:Int) (a3:ByteArray) (a4:Int):Option Bool:=if confFitR l0_2 l0_3 a0_5 l0_6∧tabFitR l1 then some (askedB a0_0 a0_1 l0_2 l0_3 a0_4 a0_5 l0_6 l1 a2 a3 a4) else none
theorem pinfoldref11_asked_c.calls (a0_0:Int) (a0_1:Int) (A0_2:Option Addr) (c0_2:Nat) (l0_2:List Int) (A0_3:Option Addr) (c0_3:Nat) (l0_3:List S95) (a0_4:Int) (a0_5:ByteArray) (A0_6:Option Addr) (c0_6:Nat) (l0_6:List S93) (A1:Option Addr) (c1:Nat) (l1:List S44) (a2:Int) (a3:ByteArray) (a4:Int) (r:Bool) (w:World) (hr0_2:Kd.C (Kd.int .i64) w A0_2 l0_2.length l0_2) (hc0_2:l0_2.length≤c0_2) (hr0_3:Kd.C k95 w A0_3 l0_3.length l0_3) (hc0_3:l0_3.length≤c0_3) (hr0_6:Kd.C k93 w A0_6 l0_6.length l0_6) (hc0_6:l0_6.length≤c0_6) (hr1:Kd.C k44 w A1 l1.length l1) (hc1:l1.length≤c1) (h:pinfoldref11_asked_c.f a0_0 a0_1 l0_2 l0_3 a0_4 a0_5 l0_6 l1 a2 a3 a4=some r) :
  Calls Tryz.prog 27 #[.agg #[.int .i64 a0_0,.int .i64 a0_1,.slice A0_2 l0_2.length c0_2,.slice A0_3 l0_3.length c0_3,.int .i64 a0_4,.string a0_5,.slice A0_6 l0_6.length c0_6],.slice A1 l1.length c1,.int .i64 a2,.string a3,.int .i64 a4] w fun e w'=>e=.returned (.bool r)∧Below w.heap.size w w':=by
 unfold pinfoldref11_asked_c.f at h
 by_cases hs:confFitR l0_2 l0_3 a0_5 l0_6∧tabFitR l1
 rotate_left
 ·rw [if_neg hs] at h
  cases h
 rw [if_pos hs] at h
 replace h:=e5_ h
 unfold askedB at h
 obtain ⟨b1,h1⟩:∃ b,confB a0_0 a0_1 l0_2 l0_3 a0_4 a0_5 l0_6=b:=⟨_,rfl⟩
 obtain ⟨b2,h2⟩:∃ b,tableB l1=b:=⟨_,rfl⟩
 obtain ⟨b3,h3⟩:∃ b,clientB a3=b:=⟨_,rfl⟩
 rw [h1,h2,h3] at h
 have C1:=am_ (fun W (hb:Below w.heap.size w W)=>pinfoldref11_ConfMay.calls a0_0 a0_1 A0_2 c0_2 l0_2 A0_3 c0_3 l0_3 a0_4 a0_5 A0_6 c0_6 l0_6 b1 W (c4_ hr0_2 hb) hc0_2 (c4_ hr0_3 hb) hc0_3 (c4_ hr0_6 hb) hc0_6 (by unfold pinfoldref11_ConfMay.f;rw [if_pos hs.1,h1]))
 have C2:=am_ (fun W (hb:Below w.heap.size w W)=>pinfoldref11_TableMay_c.calls A1 c1 l1 b2 W (c4_ hr1 hb) hc1 (by unfold pinfoldref11_TableMay_c.f;rw [if_pos hs.2,h2]))
 have C3:=am_ (fun W=>pinfoldref11_clientMay_c.calls a3 b3 W (by unfold pinfoldref11_clientMay_c.f;rw [h3]))
 have HB:=am_ (Below.refl w.heap.size w)
 have BK:=am_ (blk_new w (.cells #[.int .i64 a0_0,.int .i64 a0_1,.slice A0_2 l0_2.length c0_2,.slice A0_3 l0_3.length c0_3,.int .i64 a0_4,.string a0_5,.slice A0_6 l0_6.length c0_6] 26))
 have u0:=bc_ BK.out 0;have u1:=bc_ BK.out 1;have u2:=bc_ BK.out 2;have u3:=bc_ BK.out 3;have u4:=bc_ BK.out 4;have u5:=bc_ BK.out 5;have u6:=bc_ BK.out 6
 clear h1 h2 h3 hs hr0_2 hr0_3 hr0_6 hc0_2 hc0_3 hc0_6 hr1 hc1
 obtain ⟨g1,hg1⟩:∃ c,decide (0≤a2)=c:=⟨_,rfl⟩
 obtain ⟨g2,hg2⟩:∃ c,decide (a2≤a4)=c:=⟨_,rfl⟩
 have hg:decide (0≤a2∧a2≤a4)=(g1 && g2):=by rw [←hg1,←hg2];exact Bool.decide_and _ _
 rw [hg] at h
 clear hg
 have HR:=am_ h
 clear h
 cases b1<;>cases b2<;>cases g1<;>cases g2
 all_goals (go_enter Tryz.func27,Tryz.ntmps27;go_wp2_with (first|(go_at_call 56;(with_reducible refine (C1.out _ (by repeat (with_reducible first|exact HB.out|apply p3_|apply p1_|apply p2_))).mono ?_);rintro e w1 ⟨rfl,hb2⟩;replace HB:=am_ (bt_ (show Below w.heap.size w _ from (by repeat (with_reducible first|exact HB.out|apply p3_|apply p1_|apply p2_))) hb2);clear hb2;clear u0 u1 u2 u3 u4 u5 u6)|(go_at_call 57;(with_reducible refine (C2.out _ (by repeat (with_reducible first|exact HB.out|apply p3_|apply p1_|apply p2_))).mono ?_);rintro e w2 ⟨rfl,hb2⟩;replace HB:=am_ (bt_ (show Below w.heap.size w _ from (by repeat (with_reducible first|exact HB.out|apply p3_|apply p1_|apply p2_))) hb2);clear hb2)|(go_at_call 58;(with_reducible refine (C3.out _).mono ?_);rintro e w3 ⟨rfl,⟨nd,rfl⟩⟩)))
 all_goals (try go_ret)
 all_goals exact ⟨ret_bool (by rw [←HR.out];simp),(by repeat (with_reducible first|exact HB.out|apply p3_|apply p1_|apply p2_))⟩

/-! ### pinfoldref11_FindLease: function 29 -/
def pinfoldref11_FindLease.l0:Nat→List (S44)→Int→Int→Option (Int×Int×ByteArray×Int×ByteArray×Bool×Bool)
 | 0,_,_,_=>none
 | k+1,x0,x1,x6=>if x6 < (x0.length:Int) then (if 0≤x6 then (if ((rd_T44 x0 x6).f0)=x1 then (some ((rd_T44 x0 x6).f0,(rd_T44 x0 x6).f1,(rd_T44 x0 x6).f2,(rd_T44 x0 x6).f3,(rd_T44 x0 x6).f4,(rd_T44 x0 x6).f5,true)) else (pinfoldref11_FindLease.l0 k x0 x1 (wrap64 (x6+1)))) else (none)) else (some (0,0,(⟨#[]⟩:ByteArray),0,(⟨#[]⟩:ByteArray),false,false))
def pinfoldref11_FindLease.f (k:Nat) (l0:List (S44)) (a1:Int):Option (Int×Int×ByteArray×Int×ByteArray×Bool×Bool):=pinfoldref11_FindLease.l0 k l0 a1 0
theorem pinfoldref11_FindLease.mono_l:∀ k,(∀y0 y1 y2,LeO (pinfoldref11_FindLease.l0 k y0 y1 y2) (pinfoldref11_FindLease.l0 (k+1) y0 y1 y2))
 | 0=>fun _ _ _ r h=>by simp [pinfoldref11_FindLease.l0] at h
 | k+1=>by
  have ih0:=pinfoldref11_FindLease.mono_l k
  ·intro y0 y1 y2
   unfold pinfoldref11_FindLease.l0
   repeat' first
   | (with_reducible exact ih0 _ _ _)
   | (with_reducible exact LeO.refl _)
   | (with_reducible exact LeO.none _)
   | (with_reducible refine LeO.ite ?_ ?_)
   | (with_reducible refine LeO.bind ?_ (fun _=>?_))
   | exact ih0 _ _ _
   | exact LeO.none _
   | refine LeO.ite ?_ ?_
   | refine LeO.bind ?_ (fun _=>?_)
theorem pinfoldref11_FindLease.mono:∀ a0 a1 k,LeO (pinfoldref11_FindLease.f k a0 a1) (pinfoldref11_FindLease.f (k+1) a0 a1):=by
 intro a0 a1 k
 have ih0:=pinfoldref11_FindLease.mono_l k
 unfold pinfoldref11_FindLease.f
 repeat' first
   | (with_reducible exact ih0 _ _ _)
   | (with_reducible exact LeO.refl _)
   | (with_reducible exact LeO.none _)
   | (with_reducible refine LeO.ite ?_ ?_)
   | (with_reducible refine LeO.bind ?_ (fun _=>?_))
   | exact ih0 _ _ _
   | exact LeO.none _
   | refine LeO.ite ?_ ?_
   | refine LeO.bind ?_ (fun _=>?_)
theorem pinfoldref11_FindLease.calls (k:Nat) (A0:Option Addr) (c0:Nat) (l0:List (S44)) (a1:Int) (r1:Int) (r2:Int) (r3:ByteArray) (r4:Int) (r5:ByteArray) (r6:Bool) (r7:Bool) (w:World) (hr0:Kd.C k44 w A0 l0.length l0) (hc0:l0.length≤c0) (h:pinfoldref11_FindLease.f k l0 a1=some (r1,r2,r3,r4,r5,r6,r7)) :
  Calls Tryz.prog 29 #[.slice A0 l0.length c0,.int .i64 a1] w fun e w'=>e=.returned (.tuple #[.agg #[.int .i64 r1,.int .i64 r2,.string r3,.int .i64 r4,.string r5,.bool r6],.bool r7])∧Below w.heap.size w w':=by
 have hu44:=Tryz.underlying44
 have HR0:=am_ hr0
 have HC0:=am_ hc0
 clear hr0 hc0
 have HB:=am_ (Below.refl w.heap.size w)
 have H:(pinfoldref11_FindLease.l0 k l0 a1 0)=some (r1,r2,r3,r4,r5,r6,r7):=h
 clear h
 have H':=am_ H
 clear H
 go_enter Tryz.func29,Tryz.ntmps29
 go_wp2_with (first|((with_reducible refine gate_dst (N:=4) rfl ?_);refine box_event ?hg (N:=4) ?hd (cs:=#[.int .i64 0,.int .i64 0,.string (⟨#[]⟩:ByteArray),.int .i64 0,.string (⟨#[]⟩:ByteArray),.bool false]) (t:=44) ?hr ?_;(case hd=>rfl);(case hg=>rfl);(case hr=>first|(go_simp;done)|(go_simp;rfl));intro gb171 hg w3 hbox hb;have n0_:=am_ (bt_ (by repeat (with_reducible first|exact HB.out|apply p3_|apply p1_|apply p2_)) hb);have n1_:=am_ (hbox);have n2_:=am_ ((by rw [hg];exact (bz_ (by repeat (with_reducible first|exact HB.out|apply p3_|apply p1_|apply p2_))):w.heap.size≤gb171));have n3_:=am_ ((by rw [hg];exact (bz_ (by repeat (with_reducible first|exact HB.out|apply p3_|apply p1_|apply p2_))):w.heap.size≤gb171));clear HB;have HB:=n0_;have BK171:=n1_;have GW171:=n2_;have GE171:=n3_;clear n0_ n1_ n2_ n3_;clear hb hbox hg))
 go_loopg [6] k (fun kq v6 w'=>∃ (x6_1:Int) (x172000_1:Int) (x172001_1:Int) (x172002_1:ByteArray) (x172003_1:Int) (x172004_1:ByteArray) (x172005_1:Bool),v6=.int .i64 x6_1∧Aside0 (pinfoldref11_FindLease.l0 kq l0 a1 x6_1=some (r1,r2,r3,r4,r5,r6,r7))∧Aside0 (kq≤k)∧Aside0 (w'.heap[gb171]?=some (.cells #[.int .i64 x172000_1,.int .i64 x172001_1,.string x172002_1,.int .i64 x172003_1,.string x172004_1,.bool x172005_1] 44 (0,0)))∧Aside0 (Below w.heap.size w w'))
 case atStart=>exact ⟨(0),(0),(0),((⟨#[]⟩:ByteArray)),(0),((⟨#[]⟩:ByteArray)),(false),(by first|rfl|(simp;done)|(simp [*];done)),H',⟨Nat.le_refl _⟩,⟨by (with_reducible repeat (first|refine k2_ ?_ _|refine k3_ ?_|refine k1_ ?_ _));exact BK171.out⟩,⟨by repeat (with_reducible first|exact HB.out|apply p3_|apply p1_|apply p2_|refine bs_ ?_ GE171.out)⟩⟩
 case round =>
  clear H'
  obtain ⟨x6_1,x172000_1,x172001_1,x172002_1,x172003_1,x172004_1,x172005_1,rfl,HA,HK1,BK171,HB⟩:=hrel
  cases gk with
  | zero=>exact absurd HA.out (by simp [pinfoldref11_FindLease.l0])
  | succ k1 =>
   have H:=HA.out
   clear HA
   simp only [pinfoldref11_FindLease.l0] at H
   by_cases c4:x6_1 < (l0.length:Int)
   ·rw [if_pos c4] at H
    have c4b0:decide (x6_1 < (l0.length:Int))=true:=decide_eq_true c4
    clear c4
    by_cases c5:0≤x6_1
    rotate_left
    ·rw [if_neg c5] at H
     exact absurd H (by simp)
    rw [if_pos c5] at H
    have c5b0:decide (0≤x6_1)=true:=decide_eq_true c5
    clear c5
    by_cases c6:((rd_T44 l0 x6_1).f0)=a1
    ·rw [if_pos c6] at H
     have c6b0:(((rd_T44 l0 x6_1).f0) == a1)=true:=beq_iff_eq.mpr c6
     have c6b1:(((rd_T44 l0 x6_1).f0) != a1)=false:=e1_ c6
     clear c6
     simp only [Option.some.injEq,Prod.mk.injEq] at H
     obtain ⟨rfl,rfl,rfl,rfl,rfl,rfl,rfl⟩:=H
     have p172:0≤(x6_1:Int):=of_decide_eq_true (by first|(with_reducible assumption)|assumption)
     have q172:x6_1 < (l0.length:Int):=of_decide_eq_true (by first|(with_reducible assumption)|assumption)
     obtain ⟨ad172,e172,hx172_0,hx172_1,hx172_2,hx172_3,hx172_4,hx172_5⟩:=at_T44 HR0.out x6_1 p172 q172
     cases e172
     replace hx172_0:=(HB.out.cell (wb_ w _ hx172_0)).trans hx172_0
     replace hx172_1:=(HB.out.cell (wb_ w _ hx172_1)).trans hx172_1
     replace hx172_2:=(HB.out.cell (wb_ w _ hx172_2)).trans hx172_2
     replace hx172_3:=(HB.out.cell (wb_ w _ hx172_3)).trans hx172_3
     replace hx172_4:=(HB.out.cell (wb_ w _ hx172_4)).trans hx172_4
     replace hx172_5:=(HB.out.cell (wb_ w _ hx172_5)).trans hx172_5
     replace p172:=eq_true p172
     replace q172:=eq_true q172
     have p173:0≤(x6_1:Int):=of_decide_eq_true (by first|(with_reducible assumption)|assumption)
     have q173:x6_1 < (l0.length:Int):=of_decide_eq_true (by first|(with_reducible assumption)|assumption)
     obtain ⟨ad173,e173,hx173_0,hx173_1,hx173_2,hx173_3,hx173_4,hx173_5⟩:=at_T44 HR0.out x6_1 p173 q173
     obtain rfl:ad172=ad173:=(by injection e173)
     replace hx173_0:=(HB.out.cell (wb_ w _ hx173_0)).trans hx173_0
     replace hx173_1:=(HB.out.cell (wb_ w _ hx173_1)).trans hx173_1
     replace hx173_2:=(HB.out.cell (wb_ w _ hx173_2)).trans hx173_2
     replace hx173_3:=(HB.out.cell (wb_ w _ hx173_3)).trans hx173_3
     replace hx173_4:=(HB.out.cell (wb_ w _ hx173_4)).trans hx173_4
     replace hx173_5:=(HB.out.cell (wb_ w _ hx173_5)).trans hx173_5
     replace p173:=eq_true p173
     replace q173:=eq_true q173
     have hcz7_0:wr.cell? ⟨gb171,0,none⟩=some (.int .i64 x172000_1):=(bc_ BK171.out 0).trans rfl;have hcz7_1:wr.cell? ⟨gb171,1,none⟩=some (.int .i64 x172001_1):=(bc_ BK171.out 1).trans rfl;have hcz7_2:wr.cell? ⟨gb171,2,none⟩=some (.string x172002_1):=(bc_ BK171.out 2).trans rfl;have hcz7_3:wr.cell? ⟨gb171,3,none⟩=some (.int .i64 x172003_1):=(bc_ BK171.out 3).trans rfl;have hcz7_4:wr.cell? ⟨gb171,4,none⟩=some (.string x172004_1):=(bc_ BK171.out 4).trans rfl;have hcz7_5:wr.cell? ⟨gb171,5,none⟩=some (.bool x172005_1):=(bc_ BK171.out 5).trans rfl;have hfz7_0:=bf_ BK171.out 0;have hfz7_1:=bf_ BK171.out 1;have hfz7_2:=bf_ BK171.out 2;have hfz7_3:=bf_ BK171.out 3;have hfz7_4:=bf_ BK171.out 4;have hfz7_5:=bf_ BK171.out 5
     go_wp2
     refine bodyPost_ret (results_ct rfl _ _ gb171 44 #[.int .i64 ((rd_T44 l0 x6_1).f0),.int .i64 ((rd_T44 l0 x6_1).f1),.string ((rd_T44 l0 x6_1).f2),.int .i64 ((rd_T44 l0 x6_1).f3),.string ((rd_T44 l0 x6_1).f4),.bool ((rd_T44 l0 x6_1).f5)] (0,0) _ rfl (by (with_reducible repeat (first|refine k2_ ?_ _|refine k3_ ?_|refine k1_ ?_ _));refine blk_put (cs:=#[.int .i64 ((rd_T44 l0 x6_1).f0),.int .i64 ((rd_T44 l0 x6_1).f1),.string ((rd_T44 l0 x6_1).f2),.int .i64 ((rd_T44 l0 x6_1).f3),.string ((rd_T44 l0 x6_1).f4),.bool x172005_1]) ?_ 5 _ rfl;(with_reducible repeat (first|refine k2_ ?_ _|refine k3_ ?_|refine k1_ ?_ _));refine blk_put (cs:=#[.int .i64 ((rd_T44 l0 x6_1).f0),.int .i64 ((rd_T44 l0 x6_1).f1),.string ((rd_T44 l0 x6_1).f2),.int .i64 ((rd_T44 l0 x6_1).f3),.string x172004_1,.bool x172005_1]) ?_ 4 _ rfl;(with_reducible repeat (first|refine k2_ ?_ _|refine k3_ ?_|refine k1_ ?_ _));refine blk_put (cs:=#[.int .i64 ((rd_T44 l0 x6_1).f0),.int .i64 ((rd_T44 l0 x6_1).f1),.string ((rd_T44 l0 x6_1).f2),.int .i64 x172003_1,.string x172004_1,.bool x172005_1]) ?_ 3 _ rfl;(with_reducible repeat (first|refine k2_ ?_ _|refine k3_ ?_|refine k1_ ?_ _));refine blk_put (cs:=#[.int .i64 ((rd_T44 l0 x6_1).f0),.int .i64 ((rd_T44 l0 x6_1).f1),.string x172002_1,.int .i64 x172003_1,.string x172004_1,.bool x172005_1]) ?_ 2 _ rfl;(with_reducible repeat (first|refine k2_ ?_ _|refine k3_ ?_|refine k1_ ?_ _));refine blk_put (cs:=#[.int .i64 ((rd_T44 l0 x6_1).f0),.int .i64 x172001_1,.string x172002_1,.int .i64 x172003_1,.string x172004_1,.bool x172005_1]) ?_ 1 _ rfl;(with_reducible repeat (first|refine k2_ ?_ _|refine k3_ ?_|refine k1_ ?_ _));refine blk_put (cs:=#[.int .i64 x172000_1,.int .i64 x172001_1,.string x172002_1,.int .i64 x172003_1,.string x172004_1,.bool x172005_1]) ?_ 0 _ rfl;(with_reducible repeat (first|refine k2_ ?_ _|refine k3_ ?_|refine k1_ ?_ _));exact BK171.out) Tryz.underlying44 rfl (by kernel_rfl)) rfl ?_
     exact ⟨by first|rfl|(simp [errW_none,errW_some]<;>rfl)|(simp [*,errW_none,errW_some]<;>rfl),by repeat (with_reducible first|exact HB.out|apply p3_|apply p1_|apply p2_|refine bs_ ?_ GE171.out)⟩
    rw [if_neg c6] at H
    have c6b0:(((rd_T44 l0 x6_1).f0) == a1)=false:=e2_ c6
    have c6b1:(((rd_T44 l0 x6_1).f0) != a1)=true:=bne_iff_ne.mpr c6
    have H':=am_ H
    clear H
    have p172:0≤(x6_1:Int):=of_decide_eq_true (by first|(with_reducible assumption)|assumption)
    have q172:x6_1 < (l0.length:Int):=of_decide_eq_true (by first|(with_reducible assumption)|assumption)
    obtain ⟨ad172,e172,hx172_0,hx172_1,hx172_2,hx172_3,hx172_4,hx172_5⟩:=at_T44 HR0.out x6_1 p172 q172
    cases e172
    replace hx172_0:=(HB.out.cell (wb_ w _ hx172_0)).trans hx172_0
    replace hx172_1:=(HB.out.cell (wb_ w _ hx172_1)).trans hx172_1
    replace hx172_2:=(HB.out.cell (wb_ w _ hx172_2)).trans hx172_2
    replace hx172_3:=(HB.out.cell (wb_ w _ hx172_3)).trans hx172_3
    replace hx172_4:=(HB.out.cell (wb_ w _ hx172_4)).trans hx172_4
    replace hx172_5:=(HB.out.cell (wb_ w _ hx172_5)).trans hx172_5
    replace p172:=eq_true p172
    replace q172:=eq_true q172
    go_wp2
    go_roundg k1
    case measure=>have:=HK1.out;omega
    case rel=>exact ⟨(wrap64 (x6_1+1)),(x172000_1),(x172001_1),(x172002_1),(x172003_1),(x172004_1),(x172005_1),(by first|rfl|(simp;done)|(simp [*];done)),H',⟨by have:=HK1.out;omega⟩,⟨by (with_reducible repeat (first|refine k2_ ?_ _|refine k3_ ?_|refine k1_ ?_ _));exact BK171.out⟩,⟨by repeat (with_reducible first|exact HB.out|apply p3_|apply p1_|apply p2_|refine bs_ ?_ GE171.out)⟩⟩
   rw [if_neg c4] at H
   have c4b0:decide (x6_1 < (l0.length:Int))=false:=decide_eq_false c4
   clear c4
   simp only [Option.some.injEq,Prod.mk.injEq] at H
   obtain ⟨rfl,rfl,rfl,rfl,rfl,rfl,rfl⟩:=H
   have hcz8_0:wr.cell? ⟨gb171,0,none⟩=some (.int .i64 x172000_1):=(bc_ BK171.out 0).trans rfl;have hcz8_1:wr.cell? ⟨gb171,1,none⟩=some (.int .i64 x172001_1):=(bc_ BK171.out 1).trans rfl;have hcz8_2:wr.cell? ⟨gb171,2,none⟩=some (.string x172002_1):=(bc_ BK171.out 2).trans rfl;have hcz8_3:wr.cell? ⟨gb171,3,none⟩=some (.int .i64 x172003_1):=(bc_ BK171.out 3).trans rfl;have hcz8_4:wr.cell? ⟨gb171,4,none⟩=some (.string x172004_1):=(bc_ BK171.out 4).trans rfl;have hcz8_5:wr.cell? ⟨gb171,5,none⟩=some (.bool x172005_1):=(bc_ BK171.out 5).trans rfl;have hfz8_0:=bf_ BK171.out 0;have hfz8_1:=bf_ BK171.out 1;have hfz8_2:=bf_ BK171.out 2;have hfz8_3:=bf_ BK171.out 3;have hfz8_4:=bf_ BK171.out 4;have hfz8_5:=bf_ BK171.out 5
   go_wp2
   refine bodyPost_ret (results_ct rfl _ _ gb171 44 #[.int .i64 0,.int .i64 0,.string (⟨#[]⟩:ByteArray),.int .i64 0,.string (⟨#[]⟩:ByteArray),.bool false] (0,0) _ rfl (by (with_reducible repeat (first|refine k2_ ?_ _|refine k3_ ?_|refine k1_ ?_ _));refine blk_put (cs:=#[.int .i64 0,.int .i64 0,.string (⟨#[]⟩:ByteArray),.int .i64 0,.string (⟨#[]⟩:ByteArray),.bool x172005_1]) ?_ 5 _ rfl;(with_reducible repeat (first|refine k2_ ?_ _|refine k3_ ?_|refine k1_ ?_ _));refine blk_put (cs:=#[.int .i64 0,.int .i64 0,.string (⟨#[]⟩:ByteArray),.int .i64 0,.string x172004_1,.bool x172005_1]) ?_ 4 _ rfl;(with_reducible repeat (first|refine k2_ ?_ _|refine k3_ ?_|refine k1_ ?_ _));refine blk_put (cs:=#[.int .i64 0,.int .i64 0,.string (⟨#[]⟩:ByteArray),.int .i64 x172003_1,.string x172004_1,.bool x172005_1]) ?_ 3 _ rfl;(with_reducible repeat (first|refine k2_ ?_ _|refine k3_ ?_|refine k1_ ?_ _));refine blk_put (cs:=#[.int .i64 0,.int .i64 0,.string x172002_1,.int .i64 x172003_1,.string x172004_1,.bool x172005_1]) ?_ 2 _ rfl;(with_reducible repeat (first|refine k2_ ?_ _|refine k3_ ?_|refine k1_ ?_ _));refine blk_put (cs:=#[.int .i64 0,.int .i64 x172001_1,.string x172002_1,.int .i64 x172003_1,.string x172004_1,.bool x172005_1]) ?_ 1 _ rfl;(with_reducible repeat (first|refine k2_ ?_ _|refine k3_ ?_|refine k1_ ?_ _));refine blk_put (cs:=#[.int .i64 x172000_1,.int .i64 x172001_1,.string x172002_1,.int .i64 x172003_1,.string x172004_1,.bool x172005_1]) ?_ 0 _ rfl;(with_reducible repeat (first|refine k2_ ?_ _|refine k3_ ?_|refine k1_ ?_ _));exact BK171.out) Tryz.underlying44 rfl (by kernel_rfl)) rfl ?_
   exact ⟨by first|rfl|(simp [errW_none,errW_some]<;>rfl)|(simp [*,errW_none,errW_some]<;>rfl),by repeat (with_reducible first|exact HB.out|apply p3_|apply p1_|apply p2_|refine bs_ ?_ GE171.out)⟩

/-! ### pinfoldref11_FindLease_c: function 29 -/
theorem reffind_l0 (l:List S44) (h:Int) (hl:l.length≤140737488351232):∀ (d k i:Nat),i+d=l.length→d+1≤k→pinfoldref11_FindLease.l0 k l h (i:Int)=some ((gotL (findL (l.drop i) h)).f0,(gotL (findL (l.drop i) h)).f1,(gotL (findL (l.drop i) h)).f2,(gotL (findL (l.drop i) h)).f3,(gotL (findL (l.drop i) h)).f4,(gotL (findL (l.drop i) h)).f5,(findL (l.drop i) h).isSome)
 | 0,k,i,hi,hk=>by
  obtain ⟨k,rfl⟩:∃ j,k=j+1:=⟨k - 1,by omega⟩
  rw [List.drop_eq_nil_of_le (by omega),pinfoldref11_FindLease.l0,if_neg (by omega)]
  rfl
 | d+1,k,i,hi,hk=>by
  obtain ⟨k,rfl⟩:∃ j,k=j+1:=⟨k - 1,by omega⟩
  have hlt:i < l.length:=by omega
  have ih:=reffind_l0 l h hl d k (i+1) (by omega) (by omega)
  rw [pinfoldref11_FindLease.l0,if_pos (by omega),if_pos (by omega),wrap_succ i l.length hlt hl,ih,rdLease_get l i hlt,List.drop_eq_getElem_cons hlt]
  by_cases q:l[i].f0=h
  ·have e:findL (l[i] :: l.drop (i+1)) h=some l[i]:=by
    unfold findL
    rw [List.find?_cons,show (l[i].f0 == h)=true by simpa using q]
   rw [if_pos q,e]
   rfl
  ·have e:findL (l[i] :: l.drop (i+1)) h=findL (l.drop (i+1)) h:=by
    unfold findL
    rw [List.find?_cons,show (l[i].f0 == h)=false by simpa using q]
   rw [if_neg q,e]
def pinfoldref11_FindLease_c.f (l0:List S44) (a1:Int):Option (Int×Int×ByteArray×Int×ByteArray×Bool×Bool):=if l0.length≤140737488351232 then some ((gotL (findL l0 a1)).f0,(gotL (findL l0 a1)).f1,(gotL (findL l0 a1)).f2,(gotL (findL l0 a1)).f3,(gotL (findL l0 a1)).f4,(gotL (findL l0 a1)).f5,(findL l0 a1).isSome) else none
theorem pinfoldref11_FindLease_c.calls (A0:Option Addr) (c0:Nat) (l0:List S44) (a1:Int) (r1:Int) (r2:Int) (r3:ByteArray) (r4:Int) (r5:ByteArray) (r6:Bool) (r7:Bool) (w:World) (hr0:Kd.C k44 w A0 l0.length l0) (hc0:l0.length≤c0) (h:pinfoldref11_FindLease_c.f l0 a1=some (r1,r2,r3,r4,r5,r6,r7)) :
  Calls Tryz.prog 29 #[.slice A0 l0.length c0,.int .i64 a1] w fun e w'=>e=.returned (.tuple #[.agg #[.int .i64 r1,.int .i64 r2,.string r3,.int .i64 r4,.string r5,.bool r6],.bool r7])∧Below w.heap.size w w':=by
 unfold pinfoldref11_FindLease_c.f at h
 by_cases hs:l0.length≤140737488351232
 ·rw [if_pos hs] at h
  exact pinfoldref11_FindLease.calls (l0.length+1) A0 c0 l0 a1 r1 r2 r3 r4 r5 r6 r7 w hr0 hc0 ((reffind_l0 l0 a1 hs l0.length (l0.length+1) 0 (by omega) (by omega)).trans h)
 ·rw [if_neg hs] at h
  cases h

/-! ### pinfoldref11_Live: function 30 -/
-- BY HAND
-- 61
def pinfoldref11_Live_c.f (a0_0:Int) (a0_1:Int) (a0_2:ByteArray) (a0_3:Int) (a0_4:ByteArray) (a0_5:Bool) (a1:Int):Option Bool:=if a0_4.size≤8796093022000 then some (liveB a0_0 a0_1 a0_2 a0_3 a0_4 a0_5 a1) else none
theorem pinfoldref11_Live_c.calls (a0_0:Int) (a0_1:Int) (a0_2:ByteArray) (a0_3:Int) (a0_4:ByteArray) (a0_5:Bool) (a1:Int) (r:Bool) (w:World) (h:pinfoldref11_Live_c.f a0_0 a0_1 a0_2 a0_3 a0_4 a0_5 a1=some r) :
  Calls Tryz.prog 30 #[.agg #[.int .i64 a0_0,.int .i64 a0_1,.string a0_2,.int .i64 a0_3,.string a0_4,.bool a0_5],.int .i64 a1] w fun e w'=>e=.returned (.bool r)∧Below w.heap.size w w':=by
 unfold pinfoldref11_Live_c.f at h
 by_cases hs:a0_4.size≤8796093022000
 rotate_left
 ·rw [if_neg hs] at h
  cases h
 rw [if_pos hs] at h
 replace h:=e5_ h
 unfold liveB at h
 obtain ⟨b1,h1⟩:∃ b,leaseB a0_0 a0_1 a0_2 a0_3 a0_4 a0_5=b:=⟨_,rfl⟩
 rw [h1] at h
 have C1:=am_ (fun W=>pinfoldref11_LeaseMay_c.calls a0_0 a0_1 a0_2 a0_3 a0_4 a0_5 b1 W (by unfold pinfoldref11_LeaseMay_c.f;rw [if_pos hs,h1]))
 have HR:=am_ h
 have HB:=am_ (Below.refl w.heap.size w)
 have BX:=am_ (blk_new w (.cells #[.int .i64 a0_0,.int .i64 a0_1,.string a0_2,.int .i64 a0_3,.string a0_4,.bool a0_5] 44))
 have v0:=bc_ BX.out 0;have v1:=bc_ BX.out 1;have v2:=bc_ BX.out 2;have v3:=bc_ BX.out 3;have v4:=bc_ BX.out 4;have v5:=bc_ BX.out 5
 clear h h1 hs
 go_enter Tryz.func30,Tryz.ntmps30
 go_wp2_with (first|(go_at_call 61;(with_reducible refine (C1.out _).mono ?_);rintro e w1 ⟨rfl,hb2⟩;replace BX:=am_ (kb_ (show _ from (by (with_reducible repeat (first|exact BX.out|refine k2_ ?_ _|refine k3_ ?_|refine k1_ ?_ _)))) hb2);replace HB:=am_ (bt_ (show Below w.heap.size w _ from (by repeat (with_reducible first|exact HB.out|apply p3_|apply p1_|apply p2_))) hb2);clear hb2;clear v0 v1 v2 v3 v4 v5;have v0:=bc_ BX.out 0;have v1:=bc_ BX.out 1;have v2:=bc_ BX.out 2;have v3:=bc_ BX.out 3;have v4:=bc_ BX.out 4;have v5:=bc_ BX.out 5))
 all_goals (try go_ret)
 all_goals refine ⟨ret_bool ?_,?_⟩
 all_goals first
  | exact HB.out
  | (rw [←HR.out];clear HR HB C1 BX v0 v1 v2 v3 v4 v5;(simp_all;done))
  | (rw [←HR.out];clear HR HB C1 BX v0 v1 v2 v3 v4 v5;simp_all<;>omega)

/-! ### pinfoldref11_his: function 33 -/
-- BY HAND
-- 30
def pinfoldref11_his_c.f (a0_0:Int) (a0_1:Int) (a0_2:ByteArray) (a0_3:Int) (a0_4:ByteArray) (a0_5:Bool) (a1:ByteArray) (a2:Int):Option Bool:=if a0_4.size≤8796093022000 then some (holdsB a0_0 a0_1 a0_2 a0_3 a0_4 a0_5 a1 a2) else none
theorem pinfoldref11_his_c.calls (a0_0:Int) (a0_1:Int) (a0_2:ByteArray) (a0_3:Int) (a0_4:ByteArray) (a0_5:Bool) (a1:ByteArray) (a2:Int) (r:Bool) (w:World) (h:pinfoldref11_his_c.f a0_0 a0_1 a0_2 a0_3 a0_4 a0_5 a1 a2=some r) :
  Calls Tryz.prog 33 #[.agg #[.int .i64 a0_0,.int .i64 a0_1,.string a0_2,.int .i64 a0_3,.string a0_4,.bool a0_5],.string a1,.int .i64 a2] w fun e w'=>e=.returned (.bool r)∧Below w.heap.size w w':=by
 unfold pinfoldref11_his_c.f at h
 by_cases hs:a0_4.size≤8796093022000
 rotate_left
 ·rw [if_neg hs] at h
  cases h
 rw [if_pos hs] at h
 replace h:=e5_ h
 obtain ⟨b1,h1⟩:∃ b,liveB a0_0 a0_1 a0_2 a0_3 a0_4 a0_5 a2=b:=⟨_,rfl⟩
 have hst:b1=true→a0_1=1∨a0_1=2∨a0_1=3:=by
  intro e
  have e2:=h1.trans e
  unfold liveB leaseB stateB at e2
  simp only [Bool.and_eq_true,decide_eq_true_eq] at e2
  obtain ⟨⟨⟨⟨⟨⟨_,h⟩,_⟩,_⟩,_⟩,h0⟩,_⟩:=e2
  by_cases q0:a0_1=0∨a0_1=3
  ·omega
  rw [if_neg q0] at h
  by_cases q1:a0_1=1
  ·omega
  rw [if_neg q1] at h
  by_cases q2:a0_1=2
  ·omega
  rw [if_neg q2] at h
  cases h
 unfold holdsB at h
 rw [h1] at h
 have C1:=am_ (fun W=>pinfoldref11_Live_c.calls a0_0 a0_1 a0_2 a0_3 a0_4 a0_5 a2 b1 W (by unfold pinfoldref11_Live_c.f;rw [if_pos hs,h1]))
 have HB:=am_ (Below.refl w.heap.size w)
 have BX:=am_ (blk_new w (.cells #[.int .i64 a0_0,.int .i64 a0_1,.string a0_2,.int .i64 a0_3,.string a0_4,.bool a0_5] 44))
 have v0:=bc_ BX.out 0;have v1:=bc_ BX.out 1;have v2:=bc_ BX.out 2;have v3:=bc_ BX.out 3;have v4:=bc_ BX.out 4;have v5:=bc_ BX.out 5
 clear h1 hs
 have q2b:(a0_2.toList == a1.toList)=decide (a0_2.toList=a1.toList):=by rw [Bool.eq_iff_iff,beq_iff_eq,decide_eq_true_eq]
 obtain ⟨c2,hc2⟩:∃ c,decide (a0_2.toList=a1.toList)=c:=⟨_,rfl⟩
 rw [hc2] at h q2b
 clear hc2
 cases b1 with
 | false =>
  have HR:=am_ (show false=r from h)
  clear h hst
  go_enter Tryz.func33,Tryz.ntmps33
  go_wp2_with (first|(go_at_call 30;(with_reducible refine (C1.out _).mono ?_);rintro e w1 ⟨rfl,hb2⟩;replace BX:=am_ (kb_ (show _ from (by (with_reducible repeat (first|exact BX.out|refine k2_ ?_ _|refine k3_ ?_|refine k1_ ?_ _)))) hb2);replace HB:=am_ (bt_ (show Below w.heap.size w _ from (by repeat (with_reducible first|exact HB.out|apply p3_|apply p1_|apply p2_))) hb2);clear hb2;clear v0 v1 v2 v3 v4 v5;have v0:=bc_ BX.out 0;have v1:=bc_ BX.out 1;have v2:=bc_ BX.out 2;have v3:=bc_ BX.out 3;have v4:=bc_ BX.out 4;have v5:=bc_ BX.out 5))
  go_ret
  exact ⟨ret_bool HR.out,HB.out⟩
 | true =>
  rw [Bool.true_and] at h
  rcases hst rfl with e|e|e
  all_goals
   subst e
   have HR:=am_ h
   clear h hst
   go_enter Tryz.func33,Tryz.ntmps33
   go_wp2_with (first|(go_at_call 30;(with_reducible refine (C1.out _).mono ?_);rintro e w1 ⟨rfl,hb2⟩;replace BX:=am_ (kb_ (show _ from (by (with_reducible repeat (first|exact BX.out|refine k2_ ?_ _|refine k3_ ?_|refine k1_ ?_ _)))) hb2);replace HB:=am_ (bt_ (show Below w.heap.size w _ from (by repeat (with_reducible first|exact HB.out|apply p3_|apply p1_|apply p2_))) hb2);clear hb2;clear v0 v1 v2 v3 v4 v5;have v0:=bc_ BX.out 0;have v1:=bc_ BX.out 1;have v2:=bc_ BX.out 2;have v3:=bc_ BX.out 3;have v4:=bc_ BX.out 4;have v5:=bc_ BX.out 5))
   all_goals (try go_ret)
   all_goals exact ⟨ret_bool (by rw [←HR.out];simp),HB.out⟩

/-! ### pinfoldref11_let: function 62 -/
def pinfoldref11_let.f (a0_0:Int) (a0_1:Int) (a0_2:ByteArray) (a0_3:Int) (a0_4:ByteArray) (a0_5:Bool):Option (Int×Int×ByteArray×Int×ByteArray×Bool):=some (a0_0,0,a0_2,a0_3,(⟨#[]⟩:ByteArray),false)
theorem pinfoldref11_let.calls (a0_0:Int) (a0_1:Int) (a0_2:ByteArray) (a0_3:Int) (a0_4:ByteArray) (a0_5:Bool) (r1:Int) (r2:Int) (r3:ByteArray) (r4:Int) (r5:ByteArray) (r6:Bool) (w:World) (h:pinfoldref11_let.f a0_0 a0_1 a0_2 a0_3 a0_4 a0_5=some (r1,r2,r3,r4,r5,r6)) :
  Calls Tryz.prog 62 #[.agg #[.int .i64 a0_0,.int .i64 a0_1,.string a0_2,.int .i64 a0_3,.string a0_4,.bool a0_5]] w fun e w'=>e=.returned (.agg #[.int .i64 r1,.int .i64 r2,.string r3,.int .i64 r4,.string r5,.bool r6])∧Below w.heap.size w w':=by
 have hu44:=Tryz.underlying44
 have HB:=am_ (Below.refl w.heap.size w)
 have H:(some (a0_0,0,a0_2,a0_3,(⟨#[]⟩:ByteArray),false))=some (r1,r2,r3,r4,r5,r6):=h
 clear h
 simp only [Option.some.injEq,Prod.mk.injEq] at H
 obtain ⟨rfl,rfl,rfl,rfl,rfl,rfl⟩:=H
 go_enter Tryz.func62,Tryz.ntmps62
 go_wp2_with (first|((with_reducible refine gate_dst (N:=1) rfl ?_);refine box_event ?hg (N:=1) ?hd (cs:=#[.int .i64 a0_0,.int .i64 a0_1,.string a0_2,.int .i64 a0_3,.string a0_4,.bool a0_5]) (t:=44) ?hr ?_;(case hd=>rfl);(case hg=>rfl);(case hr=>first|(go_simp;done)|(go_simp;rfl));intro gb174 hg w2 hbox hb;have n0_:=am_ (bt_ (by repeat (with_reducible first|exact HB.out|apply p3_|apply p1_|apply p2_)) hb);have n1_:=am_ (hbox);have n2_:=am_ ((by rw [hg];exact (bz_ (by repeat (with_reducible first|exact HB.out|apply p3_|apply p1_|apply p2_))):w.heap.size≤gb174));have n3_:=am_ ((by rw [hg];exact (bz_ (by repeat (with_reducible first|exact HB.out|apply p3_|apply p1_|apply p2_))):w.heap.size≤gb174));clear HB;have HB:=n0_;have BK174:=n1_;have GW174:=n2_;have GE174:=n3_;clear n0_ n1_ n2_ n3_;clear hb hbox hg)|((with_reducible refine gate_dst (N:=2) rfl ?_);refine box_event ?hg (N:=2) ?hd (cs:=#[.int .i64 0,.int .i64 0,.string (⟨#[]⟩:ByteArray),.int .i64 0,.string (⟨#[]⟩:ByteArray),.bool false]) (t:=44) ?hr ?_;(case hd=>rfl);(case hg=>rfl);(case hr=>first|(go_simp;done)|(go_simp;rfl));intro gb175 hg w3 hbox hb;have n0_:=am_ (kb_ (g:=gb174) (o:=.cells #[.int .i64 a0_0,.int .i64 a0_1,.string a0_2,.int .i64 a0_3,.string a0_4,.bool a0_5] 44 (0,0)) (by (with_reducible repeat (first|refine k2_ ?_ _|refine k3_ ?_|refine k1_ ?_ _));exact BK174.out) hb);have n1_:=am_ (bt_ (by repeat (with_reducible first|exact HB.out|apply p3_|apply p1_|apply p2_|refine bs_ ?_ GE174.out)) hb);have n2_:=am_ (hbox);have n3_:=am_ ((by rw [hg];exact (bz_ (by repeat (with_reducible first|exact HB.out|apply p3_|apply p1_|apply p2_|refine bs_ ?_ GE174.out))):w.heap.size≤gb175));have n4_:=am_ ((by rw [hg];exact (bz_ (by repeat (with_reducible first|exact HB.out|apply p3_|apply p1_|apply p2_|refine bs_ ?_ GE174.out))):w.heap.size≤gb175));have n5_:=am_ ((by rw [hg];exact Nat.ne_of_lt (blk_lt (g:=gb174) (o:=.cells #[.int .i64 a0_0,.int .i64 a0_1,.string a0_2,.int .i64 a0_3,.string a0_4,.bool a0_5] 44 (0,0)) (by (with_reducible repeat (first|refine k2_ ?_ _|refine k3_ ?_|refine k1_ ?_ _));exact BK174.out)):gb174≠gb175));have n6_:=am_ ((by rw [hg];exact Nat.ne_of_gt (blk_lt (g:=gb174) (o:=.cells #[.int .i64 a0_0,.int .i64 a0_1,.string a0_2,.int .i64 a0_3,.string a0_4,.bool a0_5] 44 (0,0)) (by (with_reducible repeat (first|refine k2_ ?_ _|refine k3_ ?_|refine k1_ ?_ _));exact BK174.out)):gb175≠gb174));clear BK174;clear HB;have BK174:=n0_;have HB:=n1_;have BK175:=n2_;have GW175:=n3_;have GE175:=n4_;have NB174_175:=n5_;have NB175_174:=n6_;clear n0_ n1_ n2_ n3_ n4_ n5_ n6_;clear hb hbox hg;have hnb4:=NB174_175.out;have hnc4:=NB175_174.out;have hcz5_0:w3.cell? ⟨gb174,0,none⟩=some (.int .i64 a0_0):=(bc_ BK174.out 0).trans rfl;have hcz5_1:w3.cell? ⟨gb174,1,none⟩=some (.int .i64 a0_1):=(bc_ BK174.out 1).trans rfl;have hcz5_2:w3.cell? ⟨gb174,2,none⟩=some (.string a0_2):=(bc_ BK174.out 2).trans rfl;have hcz5_3:w3.cell? ⟨gb174,3,none⟩=some (.int .i64 a0_3):=(bc_ BK174.out 3).trans rfl;have hcz5_4:w3.cell? ⟨gb174,4,none⟩=some (.string a0_4):=(bc_ BK174.out 4).trans rfl;have hcz5_5:w3.cell? ⟨gb174,5,none⟩=some (.bool a0_5):=(bc_ BK174.out 5).trans rfl;have hfz5_0:=bf_ BK174.out 0;have hfz5_1:=bf_ BK174.out 1;have hfz5_2:=bf_ BK174.out 2;have hfz5_3:=bf_ BK174.out 3;have hfz5_4:=bf_ BK174.out 4;have hfz5_5:=bf_ BK174.out 5;have hcz6_0:w3.cell? ⟨gb175,0,none⟩=some (.int .i64 0):=(bc_ BK175.out 0).trans rfl;have hcz6_1:w3.cell? ⟨gb175,1,none⟩=some (.int .i64 0):=(bc_ BK175.out 1).trans rfl;have hcz6_2:w3.cell? ⟨gb175,2,none⟩=some (.string (⟨#[]⟩:ByteArray)):=(bc_ BK175.out 2).trans rfl;have hcz6_3:w3.cell? ⟨gb175,3,none⟩=some (.int .i64 0):=(bc_ BK175.out 3).trans rfl;have hcz6_4:w3.cell? ⟨gb175,4,none⟩=some (.string (⟨#[]⟩:ByteArray)):=(bc_ BK175.out 4).trans rfl;have hcz6_5:w3.cell? ⟨gb175,5,none⟩=some (.bool false):=(bc_ BK175.out 5).trans rfl;have hfz6_0:=bf_ BK175.out 0;have hfz6_1:=bf_ BK175.out 1;have hfz6_2:=bf_ BK175.out 2;have hfz6_3:=bf_ BK175.out 3;have hfz6_4:=bf_ BK175.out 4;have hfz6_5:=bf_ BK175.out 5))
 refine bodyPost_ret (results_cell_row rfl _ _ gb175 44 #[.int .i64 a0_0,.int .i64 0,.string a0_2,.int .i64 a0_3,.string (⟨#[]⟩:ByteArray),.bool false] (0,0) _ rfl (by (with_reducible repeat (first|refine k2_ ?_ _|refine k3_ ?_|refine k1_ ?_ _));refine blk_put (cs:=#[.int .i64 a0_0,.int .i64 0,.string a0_2,.int .i64 a0_3,.string (⟨#[]⟩:ByteArray),.bool false]) ?_ 5 _ rfl;(with_reducible repeat (first|refine k2_ ?_ _|refine k3_ ?_|refine k1_ ?_ _));refine blk_put (cs:=#[.int .i64 a0_0,.int .i64 0,.string a0_2,.int .i64 a0_3,.string (⟨#[]⟩:ByteArray),.bool false]) ?_ 4 _ rfl;(with_reducible repeat (first|refine k2_ ?_ _|refine k3_ ?_|refine k1_ ?_ _));refine blk_put (cs:=#[.int .i64 a0_0,.int .i64 0,.string a0_2,.int .i64 0,.string (⟨#[]⟩:ByteArray),.bool false]) ?_ 3 _ rfl;(with_reducible repeat (first|refine k2_ ?_ _|refine k3_ ?_|refine k1_ ?_ _));refine blk_put (cs:=#[.int .i64 a0_0,.int .i64 0,.string (⟨#[]⟩:ByteArray),.int .i64 0,.string (⟨#[]⟩:ByteArray),.bool false]) ?_ 2 _ rfl;(with_reducible repeat (first|refine k2_ ?_ _|refine k3_ ?_|refine k1_ ?_ _));refine blk_put (cs:=#[.int .i64 a0_0,.int .i64 0,.string (⟨#[]⟩:ByteArray),.int .i64 0,.string (⟨#[]⟩:ByteArray),.bool false]) ?_ 1 _ rfl;(with_reducible repeat (first|refine k2_ ?_ _|refine k3_ ?_|refine k1_ ?_ _));refine blk_put (cs:=#[.int .i64 0,.int .i64 0,.string (⟨#[]⟩:ByteArray),.int .i64 0,.string (⟨#[]⟩:ByteArray),.bool false]) ?_ 0 _ rfl;(with_reducible repeat (first|refine k2_ ?_ _|refine k3_ ?_|refine k1_ ?_ _));exact BK175.out) Tryz.underlying44 rfl (by kernel_rfl)) rfl ?_
 exact ⟨by first|rfl|(simp [errW_none,errW_some]<;>rfl)|(simp [*,errW_none,errW_some]<;>rfl),by repeat (with_reducible first|exact HB.out|apply p3_|apply p1_|apply p2_|refine bs_ ?_ GE174.out|refine bs_ ?_ GE175.out)⟩

/-! ### pinfoldref11_lets: function 31 -/
-- BY HAND
-- 33 62
theorem pinfoldref11_lets_c.info:(Tryz.prog.info? 44).map (fun i=>(i.zero,i.size,i.bytes))=some (some (.agg #[.int .i64 0,.int .i64 0,.string ⟨#[]⟩,.int .i64 0,.string ⟨#[]⟩,.bool false]),6,64):=by kernel_rfl
/-- which of a client's leases are let go. -/
def letsP:Bool→S44→Bool
 | true,_=>true
 | false,x=>offeredX x
theorem lets_step (p:S44→Bool) (c:ByteArray) (now but:Int) (l:List S44) (i:Nat) (h:i < l.length):dropL p c now but (l.take (i+1))=dropL p c now but (l.take i) ++ [if dropX p c now but l[i]=true then freedX l[i] else l[i]]:=by
 unfold dropL
 rw [List.take_succ_eq_append_getElem h,List.map_append]
 rfl
def pinfoldref11_lets_c.f (l0:List S44) (a1:ByteArray) (a2:Int) (a3:Int) (a4:Bool):Option (List S44):=if tabFitR l0∧l0.length≤4194304 then some (dropL (letsP a4) a1 a2 a3 l0) else none
theorem pinfoldref11_lets_c.calls (A0:Option Addr) (c0:Nat) (l1:List S44) (client:ByteArray) (now:Int) (but:Int) (bd:Bool) (r:List S44) (w:World) (hr0:Kd.C k44 w A0 l1.length l1) (hc0:l1.length≤c0) (h:pinfoldref11_lets_c.f l1 client now but bd=some r) :
  Calls Tryz.prog 31 #[.slice A0 l1.length c0,.string client,.int .i64 now,.int .i64 but,.bool bd] w fun e w'=>∃ v0_:Value,e=.returned v0_∧Kd.R k44 44 w' w.heap.size (fun _=>True) v0_ r∧Below w.heap.size w w':=by
 unfold pinfoldref11_lets_c.f at h
 by_cases hs:tabFitR l1∧l1.length≤4194304
 rotate_left
 ·rw [if_neg hs] at h
  cases h
 rw [if_pos hs] at h
 have HRR:=am_ (e5_ h)
 have HR1:=am_ hr0
 have HX:=am_ hs.1.2
 have hl:=hs.2
 have HB:=am_ (Below.refl w.heap.size w)
 clear h hr0 hc0 hs
 go_enter Tryz.func31,Tryz.ntmps31
 go_wp2
 go_loopg [11,12] l1.length (fun d v11 v12 w'=>∃ i:Nat,i+d=l1.length∧v12=.int .i64 (i:Int)∧Aside0 (Below w.heap.size w w')∧Aside0 (Kd.R k44 44 w' w.heap.size (fun _=>True) v11 (dropL (letsP bd) client now but (l1.take i))))
 case atStart=>exact ⟨0,by omega,rfl,HB,⟨Kd.R_nil _ _ _ _ _⟩⟩
 case round =>
  clear HB
  obtain ⟨i,hd,rfl,HB,HO⟩:=hrel
  by_cases hlt:i < l1.length
  ·have hlz:(i:Int) < (l1.length:Int):=by omega
   obtain ⟨ad,e1,hw0,hw1,hw2,hw3,hw4,hw5⟩:=at_T44 HR1.out (i:Int) (by omega) hlz
   cases e1
   rw [Int.toNat_natCast] at hw0 hw1 hw2 hw3 hw4 hw5
   have hx0:=(HB.out.cell (wb_ w _ hw0)).trans hw0;have hx1:=(HB.out.cell (wb_ w _ hw1)).trans hw1;have hx2:=(HB.out.cell (wb_ w _ hw2)).trans hw2;have hx3:=(HB.out.cell (wb_ w _ hw3)).trans hw3;have hx4:=(HB.out.cell (wb_ w _ hw4)).trans hw4;have hx5:=(HB.out.cell (wb_ w _ hw5)).trans hw5
   have hsz:=HX.out _ (List.getElem_mem hlt)
   have hst:=lets_step (letsP bd) client now but l1 i hlt
   rw [rdLease_get l1 i hlt] at hx0 hx1 hx2 hx3 hx4 hx5
   clear hw0 hw1 hw2 hw3 hw4 hw5
   generalize l1[i]=x at hx0 hx1 hx2 hx3 hx4 hx5 hsz hst
   obtain ⟨x0,x1,x2,x3,x4,x5⟩:=x
   simp only at hx0 hx1 hx2 hx3 hx4 hx5 hsz
   obtain ⟨bh,hbh⟩:∃ b,holdsB x0 x1 x2 x3 x4 x5 client now=b:=⟨_,rfl⟩
   have hdx:dropX (letsP bd) client now but ⟨x0,x1,x2,x3,x4,x5⟩=(decide (x0≠but) && (bh && letsP bd ⟨x0,x1,x2,x3,x4,x5⟩)):=by rw [←hbh];rfl
   rw [hdx] at hst
   have CH:=am_ (fun W=>pinfoldref11_his_c.calls x0 x1 x2 x3 x4 x5 client now bh W (by unfold pinfoldref11_his_c.f;rw [if_pos hsz,hbh]))
   have CF:=am_ (fun W=>pinfoldref11_let.calls x0 x1 x2 x3 x4 x5 x0 0 x2 x3 (⟨#[]⟩:ByteArray) false W rfl)
   have hlen:(dropL (letsP bd) client now but (l1.take i)).length≤i:=by unfold dropL;rw [List.length_map,List.length_take];omega
   have LEN:=am_ (show ((dropL (letsP bd) client now but (l1.take i)).length+1) * 64≤140737488355328 by omega)
   have BX:=am_ (blk_new wr (.cells #[.int .i64 x0,.int .i64 x1,.string x2,.int .i64 x3,.string x4,.bool x5] 44))
   clear hbh hdx hsz hlen
   generalize dropL (letsP bd) client now but (l1.take i)=acc at hst HO LEN
   by_cases q0:x0=but
   ·subst q0
    have qb:(x0 == x0)=true:=by simp
    have qn:(x0 != x0)=false:=by simp
    have HST:=am_ (show dropL (letsP bd) client now x0 (l1.take (i+1))=acc ++ [(⟨x0,x1,x2,x3,x4,x5⟩:S44)] by rw [hst,decide_eq_false (fun e=>e rfl),Bool.false_and];rfl)
    clear hst CF
    go_upto_region 6 with (fail)
    replace HB:=am_ (p3_ HB.out (.cells #[.int .i64 x0,.int .i64 x1,.string x2,.int .i64 x3,.string x4,.bool x5] 44))
    replace HO:=am_ (r1_ HO.out (.cells #[.int .i64 x0,.int .i64 x1,.string x2,.int .i64 x3,.string x4,.bool x5] 44))
    clear hx0 hx1 hx2 hx3 hx4 hx5
    generalize wr.alloc (.cells #[.int .i64 x0,.int .i64 x1,.string x2,.int .i64 x3,.string x4,.bool x5] 44)=w2 at HB BX HO ⊢
    have v0:=bc_ BX.out 0;have v1:=bc_ BX.out 1;have v2:=bc_ BX.out 2;have v3:=bc_ BX.out 3;have v4:=bc_ BX.out 4;have v5:=bc_ BX.out 5
    go_wp2_with (first|((with_reducible refine gate_builtin (b:=.append) (xs:=#[.tmp 44,.tmp 46]) rfl ?_);at_builtin;refine Kd.R_append k44 (w0:=w) w.heap.size rfl (.tmp 44) (.tmp 46) 27 44 (.agg #[(.int .i64 0),(.int .i64 0),(.string ⟨#[]⟩),(.int .i64 0),(.string ⟨#[]⟩),(.bool false)]) 64 rfl Tryz.underlying27 pinfoldref11_lets_c.info rfl (by decide) (by omega) u11 acc (⟨x0,x1,x2,x3,x4,x5⟩:S44) [.int .i64 x0,.int .i64 x1,.string x2,.int .i64 x3,.string x4,.bool x5] (fun _=>True) (fun _=>False) rfl rfl ?aP (fun _ hk=>hk.elim) ?aF ?aO ?aB ?aS ?aL ?_;(case aP=>exact k44_mkM _ _ _ (⟨x0,x1,x2,x3,x4,x5⟩:S44));(case aF=>exact (fun _ _=>trivial));(case aO=>exact (by (with_reducible repeat (first|apply r1_|apply r2_|apply r3_));exact HO.out));(case aB=>exact (by repeat (with_reducible first|exact HB.out|apply p3_|apply p1_|apply p2_)));(case aS=>exact (bz_ (by repeat (with_reducible first|exact HB.out|apply p3_|apply p1_|apply p2_))));(case aL=>exact LEN.out);intro v9 w9 ho hb hg hat;replace HB:=am_ hb;replace HO:=am_ ho;clear ho hb hg hat))
    go_roundg (l1.length - (i+1))
    case measure=>first|omega|(simp;omega)
    case rel=>exact ⟨i+1,by omega,by go_num,HB,⟨by rw [HST.out];exact HO.out⟩⟩
   have qb:(x0 == but)=false:=by simpa using q0
   have qn:(x0 != but)=true:=by simpa using q0
   rw [decide_eq_true q0,Bool.true_and] at hst
   clear q0
   cases bh with
   | false =>
    have HST:=am_ (show dropL (letsP bd) client now but (l1.take (i+1))=acc ++ [(⟨x0,x1,x2,x3,x4,x5⟩:S44)] by exact hst)
    clear hst CF
    go_upto_region 6 with (fail)
    replace HB:=am_ (p3_ HB.out (.cells #[.int .i64 x0,.int .i64 x1,.string x2,.int .i64 x3,.string x4,.bool x5] 44))
    replace HO:=am_ (r1_ HO.out (.cells #[.int .i64 x0,.int .i64 x1,.string x2,.int .i64 x3,.string x4,.bool x5] 44))
    clear hx0 hx1 hx2 hx3 hx4 hx5
    generalize wr.alloc (.cells #[.int .i64 x0,.int .i64 x1,.string x2,.int .i64 x3,.string x4,.bool x5] 44)=w2 at HB BX HO ⊢
    have v0:=bc_ BX.out 0;have v1:=bc_ BX.out 1;have v2:=bc_ BX.out 2;have v3:=bc_ BX.out 3;have v4:=bc_ BX.out 4;have v5:=bc_ BX.out 5
    go_wp2_with (first|(go_at_call 33;(with_reducible refine (CH.out _).mono ?_);rintro e w3 ⟨rfl,hb2⟩;have HO3:=am_ (Kd.R_below (by (with_reducible repeat (first|apply r1_|apply r2_|apply r3_));exact HO.out) hb2);replace HO:=HO3;clear HO3;replace BX:=am_ (kb_ BX.out hb2);replace HB:=am_ (bt_ HB.out hb2);clear hb2 v0 v1 v2 v3 v4 v5;have v0:=bc_ BX.out 0;have v1:=bc_ BX.out 1;have v2:=bc_ BX.out 2;have v3:=bc_ BX.out 3;have v4:=bc_ BX.out 4;have v5:=bc_ BX.out 5)|((with_reducible refine gate_builtin (b:=.append) (xs:=#[.tmp 44,.tmp 46]) rfl ?_);at_builtin;refine Kd.R_append k44 (w0:=w) w.heap.size rfl (.tmp 44) (.tmp 46) 27 44 (.agg #[(.int .i64 0),(.int .i64 0),(.string ⟨#[]⟩),(.int .i64 0),(.string ⟨#[]⟩),(.bool false)]) 64 rfl Tryz.underlying27 pinfoldref11_lets_c.info rfl (by decide) (by omega) u11 acc (⟨x0,x1,x2,x3,x4,x5⟩:S44) [.int .i64 x0,.int .i64 x1,.string x2,.int .i64 x3,.string x4,.bool x5] (fun _=>True) (fun _=>False) rfl rfl ?aP (fun _ hk=>hk.elim) ?aF ?aO ?aB ?aS ?aL ?_;(case aP=>exact k44_mkM _ _ _ (⟨x0,x1,x2,x3,x4,x5⟩:S44));(case aF=>exact (fun _ _=>trivial));(case aO=>exact (by (with_reducible repeat (first|apply r1_|apply r2_|apply r3_));exact HO.out));(case aB=>exact (by repeat (with_reducible first|exact HB.out|apply p3_|apply p1_|apply p2_)));(case aS=>exact (bz_ (by repeat (with_reducible first|exact HB.out|apply p3_|apply p1_|apply p2_))));(case aL=>exact LEN.out);intro v9 w9 ho hb hg hat;replace HB:=am_ hb;replace HO:=am_ ho;clear ho hb hg hat))
    go_roundg (l1.length - (i+1))
    case measure=>first|omega|(simp;omega)
    case rel=>exact ⟨i+1,by omega,by go_num,HB,⟨by rw [HST.out];exact HO.out⟩⟩
   | true =>
    cases bd with
    | true =>
     have HST:=am_ (show dropL (letsP true) client now but (l1.take (i+1))=acc ++ [(⟨x0,0,x2,x3,(⟨#[]⟩:ByteArray),false⟩:S44)] by exact hst)
     clear hst
     have SZ:=am_ (show w.heap.size≤wr.heap.size from HB.out.size)
     replace HO:=am_ (Kd.R_mono (ok':=fun k=>k≠wr.heap.size) (Kd.R_bound HO.out) (fun k hk=>by have:=hk.2.2.1;omega))
     go_upto_region 6 with (fail)
     replace HB:=am_ (p3_ HB.out (.cells #[.int .i64 x0,.int .i64 x1,.string x2,.int .i64 x3,.string x4,.bool x5] 44))
     replace HO:=am_ (r1_ HO.out (.cells #[.int .i64 x0,.int .i64 x1,.string x2,.int .i64 x3,.string x4,.bool x5] 44))
     clear hx0 hx1 hx2 hx3 hx4 hx5
     generalize wr.alloc (.cells #[.int .i64 x0,.int .i64 x1,.string x2,.int .i64 x3,.string x4,.bool x5] 44)=w2 at HB BX HO ⊢
     have v0:=bc_ BX.out 0;have v1:=bc_ BX.out 1;have v2:=bc_ BX.out 2;have v3:=bc_ BX.out 3;have v4:=bc_ BX.out 4;have v5:=bc_ BX.out 5
     go_upto_region 8 with (first|(go_at_call 33;(with_reducible refine (CH.out _).mono ?_);rintro e w3 ⟨rfl,hb2⟩;have HO3:=am_ (Kd.R_below (by (with_reducible repeat (first|apply r1_|apply r2_|apply r3_));exact HO.out) hb2);replace HO:=HO3;clear HO3;replace BX:=am_ (kb_ BX.out hb2);replace HB:=am_ (bt_ HB.out hb2);clear hb2 v0 v1 v2 v3 v4 v5;have v0:=bc_ BX.out 0;have v1:=bc_ BX.out 1;have v2:=bc_ BX.out 2;have v3:=bc_ BX.out 3;have v4:=bc_ BX.out 4;have v5:=bc_ BX.out 5)|(go_at_call 62;(with_reducible refine (CF.out _).mono ?_);rintro e w5 ⟨rfl,hb2⟩;have HO3:=am_ (Kd.R_below (by (with_reducible repeat (first|apply r1_|apply r2_|apply r3_));exact HO.out) hb2);replace HO:=HO3;clear HO3;replace BX:=am_ (kb_ BX.out hb2);replace HB:=am_ (bt_ HB.out hb2);clear hb2 v0 v1 v2 v3 v4 v5;have v0:=bc_ BX.out 0;have v1:=bc_ BX.out 1;have v2:=bc_ BX.out 2;have v3:=bc_ BX.out 3;have v4:=bc_ BX.out 4;have v5:=bc_ BX.out 5;have fz0:=bf_ BX.out 0;have fz1:=bf_ BX.out 1;have fz2:=bf_ BX.out 2;have fz3:=bf_ BX.out 3;have fz4:=bf_ BX.out 4;have fz5:=bf_ BX.out 5))
     have HBW:=am_ (show Below w.heap.size w ((((((w5.setCell ⟨wr.heap.size,0,none⟩ (.int .i64 x0)).setCell ⟨wr.heap.size,1,none⟩ (.int .i64 0)).setCell ⟨wr.heap.size,2,none⟩ (.string x2)).setCell ⟨wr.heap.size,3,none⟩ (.int .i64 x3)).setCell ⟨wr.heap.size,4,none⟩ (.string (⟨#[]⟩:ByteArray))).setCell ⟨wr.heap.size,5,none⟩ (.bool false)) from by repeat (first|exact HB.out|refine bs_ ?_ SZ.out))
     have BXW:=am_ (show ((((((w5.setCell ⟨wr.heap.size,0,none⟩ (.int .i64 x0)).setCell ⟨wr.heap.size,1,none⟩ (.int .i64 0)).setCell ⟨wr.heap.size,2,none⟩ (.string x2)).setCell ⟨wr.heap.size,3,none⟩ (.int .i64 x3)).setCell ⟨wr.heap.size,4,none⟩ (.string (⟨#[]⟩:ByteArray))).setCell ⟨wr.heap.size,5,none⟩ (.bool false)).heap[wr.heap.size]?=some (.cells #[.int .i64 x0,.int .i64 0,.string x2,.int .i64 x3,.string (⟨#[]⟩:ByteArray),.bool false] 44) from by refine blk_put (cs:=#[.int .i64 x0,.int .i64 0,.string x2,.int .i64 x3,.string (⟨#[]⟩:ByteArray),.bool x5]) ?_ 5 _ rfl;refine blk_put (cs:=#[.int .i64 x0,.int .i64 0,.string x2,.int .i64 x3,.string x4,.bool x5]) ?_ 4 _ rfl;refine blk_put (cs:=#[.int .i64 x0,.int .i64 0,.string x2,.int .i64 x3,.string x4,.bool x5]) ?_ 3 _ rfl;refine blk_put (cs:=#[.int .i64 x0,.int .i64 0,.string x2,.int .i64 x3,.string x4,.bool x5]) ?_ 2 _ rfl;refine blk_put (cs:=#[.int .i64 x0,.int .i64 x1,.string x2,.int .i64 x3,.string x4,.bool x5]) ?_ 1 _ rfl;refine blk_put (cs:=#[.int .i64 x0,.int .i64 x1,.string x2,.int .i64 x3,.string x4,.bool x5]) ?_ 0 _ rfl;exact BX.out)
     have HOW:=am_ (show Kd.R k44 44 ((((((w5.setCell ⟨wr.heap.size,0,none⟩ (.int .i64 x0)).setCell ⟨wr.heap.size,1,none⟩ (.int .i64 0)).setCell ⟨wr.heap.size,2,none⟩ (.string x2)).setCell ⟨wr.heap.size,3,none⟩ (.int .i64 x3)).setCell ⟨wr.heap.size,4,none⟩ (.string (⟨#[]⟩:ByteArray))).setCell ⟨wr.heap.size,5,none⟩ (.bool false)) w.heap.size (fun k=>k≠wr.heap.size) u11 acc from (Kd.R_far (p:=⟨wr.heap.size,5,none⟩) (Kd.R_far (p:=⟨wr.heap.size,4,none⟩) (Kd.R_far (p:=⟨wr.heap.size,3,none⟩) (Kd.R_far (p:=⟨wr.heap.size,2,none⟩) (Kd.R_far (p:=⟨wr.heap.size,1,none⟩) (Kd.R_far (p:=⟨wr.heap.size,0,none⟩) HO.out (fun _ hk=>hk) (.int .i64 x0)) (fun _ hk=>hk) (.int .i64 0)) (fun _ hk=>hk) (.string x2)) (fun _ hk=>hk) (.int .i64 x3)) (fun _ hk=>hk) (.string (⟨#[]⟩:ByteArray))) (fun _ hk=>hk) (.bool false)))
     clear HB BX HO v0 v1 v2 v3 v4 v5 fz0 fz1 fz2 fz3 fz4 fz5
     generalize ((((((w5.setCell ⟨wr.heap.size,0,none⟩ (.int .i64 x0)).setCell ⟨wr.heap.size,1,none⟩ (.int .i64 0)).setCell ⟨wr.heap.size,2,none⟩ (.string x2)).setCell ⟨wr.heap.size,3,none⟩ (.int .i64 x3)).setCell ⟨wr.heap.size,4,none⟩ (.string (⟨#[]⟩:ByteArray))).setCell ⟨wr.heap.size,5,none⟩ (.bool false))=w7 at HBW BXW HOW ⊢
     have HB:=HBW;have BX:=BXW;have HO:=HOW;clear HBW BXW HOW
     have v0:=bc_ BX.out 0;have v1:=bc_ BX.out 1;have v2:=bc_ BX.out 2;have v3:=bc_ BX.out 3;have v4:=bc_ BX.out 4;have v5:=bc_ BX.out 5
     go_wp2_with (first|((with_reducible refine gate_builtin (b:=.append) (xs:=#[.tmp 44,.tmp 46]) rfl ?_);at_builtin;refine Kd.R_append k44 (w0:=w) w.heap.size rfl (.tmp 44) (.tmp 46) 27 44 (.agg #[(.int .i64 0),(.int .i64 0),(.string ⟨#[]⟩),(.int .i64 0),(.string ⟨#[]⟩),(.bool false)]) 64 rfl Tryz.underlying27 pinfoldref11_lets_c.info rfl (by decide) (by omega) u11 acc (⟨x0,0,x2,x3,(⟨#[]⟩:ByteArray),false⟩:S44) [.int .i64 x0,.int .i64 0,.string x2,.int .i64 x3,.string (⟨#[]⟩:ByteArray),.bool false] (fun k_=>k_≠wr.heap.size) (fun _=>False) rfl rfl ?aP (fun _ hk=>hk.elim) ?aF ?aO ?aB ?aS ?aL ?_;(case aP=>exact k44_mkM _ _ _ (⟨x0,0,x2,x3,(⟨#[]⟩:ByteArray),false⟩:S44));(case aF=>exact (fun k_ hk=>Kd.freshB (g:=wr.heap.size) (o:=(.cells #[.int .i64 x0,.int .i64 0,.string x2,.int .i64 x3,.string (⟨#[]⟩:ByteArray),.bool false] 44)) BX.out k_ hk));(case aO=>exact (by (with_reducible repeat (first|apply r1_|apply r2_|apply r3_));exact HO.out));(case aB=>exact (by repeat (with_reducible first|exact HB.out|apply p3_|apply p1_|apply p2_)));(case aS=>exact (bz_ (by repeat (with_reducible first|exact HB.out|apply p3_|apply p1_|apply p2_))));(case aL=>exact LEN.out);intro v9 w9 ho hb hg hat;replace HB:=am_ hb;replace HO:=am_ (Kd.R_mono ho (fun _ _=>trivial));clear ho hb hg hat))
     go_roundg (l1.length - (i+1))
     case measure=>first|omega|(simp;omega)
     case rel=>exact ⟨i+1,by omega,by go_num,HB,⟨by rw [HST.out];exact HO.out⟩⟩
    | false =>
     by_cases q1:x1=1
     ·subst q1
      have HST:=am_ (show dropL (letsP false) client now but (l1.take (i+1))=acc ++ [(⟨x0,0,x2,x3,(⟨#[]⟩:ByteArray),false⟩:S44)] by exact hst)
      clear hst
      have SZ:=am_ (show w.heap.size≤wr.heap.size from HB.out.size)
      replace HO:=am_ (Kd.R_mono (ok':=fun k=>k≠wr.heap.size) (Kd.R_bound HO.out) (fun k hk=>by have:=hk.2.2.1;omega))
      go_upto_region 6 with (fail)
      replace HB:=am_ (p3_ HB.out (.cells #[.int .i64 x0,.int .i64 1,.string x2,.int .i64 x3,.string x4,.bool x5] 44))
      replace HO:=am_ (r1_ HO.out (.cells #[.int .i64 x0,.int .i64 1,.string x2,.int .i64 x3,.string x4,.bool x5] 44))
      clear hx0 hx1 hx2 hx3 hx4 hx5
      generalize wr.alloc (.cells #[.int .i64 x0,.int .i64 1,.string x2,.int .i64 x3,.string x4,.bool x5] 44)=w2 at HB BX HO ⊢
      have v0:=bc_ BX.out 0;have v1:=bc_ BX.out 1;have v2:=bc_ BX.out 2;have v3:=bc_ BX.out 3;have v4:=bc_ BX.out 4;have v5:=bc_ BX.out 5
      go_upto_region 8 with (first|(go_at_call 33;(with_reducible refine (CH.out _).mono ?_);rintro e w3 ⟨rfl,hb2⟩;have HO3:=am_ (Kd.R_below (by (with_reducible repeat (first|apply r1_|apply r2_|apply r3_));exact HO.out) hb2);replace HO:=HO3;clear HO3;replace BX:=am_ (kb_ BX.out hb2);replace HB:=am_ (bt_ HB.out hb2);clear hb2 v0 v1 v2 v3 v4 v5;have v0:=bc_ BX.out 0;have v1:=bc_ BX.out 1;have v2:=bc_ BX.out 2;have v3:=bc_ BX.out 3;have v4:=bc_ BX.out 4;have v5:=bc_ BX.out 5)|(go_at_call 62;(with_reducible refine (CF.out _).mono ?_);rintro e w5 ⟨rfl,hb2⟩;have HO3:=am_ (Kd.R_below (by (with_reducible repeat (first|apply r1_|apply r2_|apply r3_));exact HO.out) hb2);replace HO:=HO3;clear HO3;replace BX:=am_ (kb_ BX.out hb2);replace HB:=am_ (bt_ HB.out hb2);clear hb2 v0 v1 v2 v3 v4 v5;have v0:=bc_ BX.out 0;have v1:=bc_ BX.out 1;have v2:=bc_ BX.out 2;have v3:=bc_ BX.out 3;have v4:=bc_ BX.out 4;have v5:=bc_ BX.out 5;have fz0:=bf_ BX.out 0;have fz1:=bf_ BX.out 1;have fz2:=bf_ BX.out 2;have fz3:=bf_ BX.out 3;have fz4:=bf_ BX.out 4;have fz5:=bf_ BX.out 5))
      have HBW:=am_ (show Below w.heap.size w ((((((w5.setCell ⟨wr.heap.size,0,none⟩ (.int .i64 x0)).setCell ⟨wr.heap.size,1,none⟩ (.int .i64 0)).setCell ⟨wr.heap.size,2,none⟩ (.string x2)).setCell ⟨wr.heap.size,3,none⟩ (.int .i64 x3)).setCell ⟨wr.heap.size,4,none⟩ (.string (⟨#[]⟩:ByteArray))).setCell ⟨wr.heap.size,5,none⟩ (.bool false)) from by repeat (first|exact HB.out|refine bs_ ?_ SZ.out))
      have BXW:=am_ (show ((((((w5.setCell ⟨wr.heap.size,0,none⟩ (.int .i64 x0)).setCell ⟨wr.heap.size,1,none⟩ (.int .i64 0)).setCell ⟨wr.heap.size,2,none⟩ (.string x2)).setCell ⟨wr.heap.size,3,none⟩ (.int .i64 x3)).setCell ⟨wr.heap.size,4,none⟩ (.string (⟨#[]⟩:ByteArray))).setCell ⟨wr.heap.size,5,none⟩ (.bool false)).heap[wr.heap.size]?=some (.cells #[.int .i64 x0,.int .i64 0,.string x2,.int .i64 x3,.string (⟨#[]⟩:ByteArray),.bool false] 44) from by refine blk_put (cs:=#[.int .i64 x0,.int .i64 0,.string x2,.int .i64 x3,.string (⟨#[]⟩:ByteArray),.bool x5]) ?_ 5 _ rfl;refine blk_put (cs:=#[.int .i64 x0,.int .i64 0,.string x2,.int .i64 x3,.string x4,.bool x5]) ?_ 4 _ rfl;refine blk_put (cs:=#[.int .i64 x0,.int .i64 0,.string x2,.int .i64 x3,.string x4,.bool x5]) ?_ 3 _ rfl;refine blk_put (cs:=#[.int .i64 x0,.int .i64 0,.string x2,.int .i64 x3,.string x4,.bool x5]) ?_ 2 _ rfl;refine blk_put (cs:=#[.int .i64 x0,.int .i64 1,.string x2,.int .i64 x3,.string x4,.bool x5]) ?_ 1 _ rfl;refine blk_put (cs:=#[.int .i64 x0,.int .i64 1,.string x2,.int .i64 x3,.string x4,.bool x5]) ?_ 0 _ rfl;exact BX.out)
      have HOW:=am_ (show Kd.R k44 44 ((((((w5.setCell ⟨wr.heap.size,0,none⟩ (.int .i64 x0)).setCell ⟨wr.heap.size,1,none⟩ (.int .i64 0)).setCell ⟨wr.heap.size,2,none⟩ (.string x2)).setCell ⟨wr.heap.size,3,none⟩ (.int .i64 x3)).setCell ⟨wr.heap.size,4,none⟩ (.string (⟨#[]⟩:ByteArray))).setCell ⟨wr.heap.size,5,none⟩ (.bool false)) w.heap.size (fun k=>k≠wr.heap.size) u11 acc from (Kd.R_far (p:=⟨wr.heap.size,5,none⟩) (Kd.R_far (p:=⟨wr.heap.size,4,none⟩) (Kd.R_far (p:=⟨wr.heap.size,3,none⟩) (Kd.R_far (p:=⟨wr.heap.size,2,none⟩) (Kd.R_far (p:=⟨wr.heap.size,1,none⟩) (Kd.R_far (p:=⟨wr.heap.size,0,none⟩) HO.out (fun _ hk=>hk) (.int .i64 x0)) (fun _ hk=>hk) (.int .i64 0)) (fun _ hk=>hk) (.string x2)) (fun _ hk=>hk) (.int .i64 x3)) (fun _ hk=>hk) (.string (⟨#[]⟩:ByteArray))) (fun _ hk=>hk) (.bool false)))
      clear HB BX HO v0 v1 v2 v3 v4 v5 fz0 fz1 fz2 fz3 fz4 fz5
      generalize ((((((w5.setCell ⟨wr.heap.size,0,none⟩ (.int .i64 x0)).setCell ⟨wr.heap.size,1,none⟩ (.int .i64 0)).setCell ⟨wr.heap.size,2,none⟩ (.string x2)).setCell ⟨wr.heap.size,3,none⟩ (.int .i64 x3)).setCell ⟨wr.heap.size,4,none⟩ (.string (⟨#[]⟩:ByteArray))).setCell ⟨wr.heap.size,5,none⟩ (.bool false))=w7 at HBW BXW HOW ⊢
      have HB:=HBW;have BX:=BXW;have HO:=HOW;clear HBW BXW HOW
      have v0:=bc_ BX.out 0;have v1:=bc_ BX.out 1;have v2:=bc_ BX.out 2;have v3:=bc_ BX.out 3;have v4:=bc_ BX.out 4;have v5:=bc_ BX.out 5
      go_wp2_with (first|((with_reducible refine gate_builtin (b:=.append) (xs:=#[.tmp 44,.tmp 46]) rfl ?_);at_builtin;refine Kd.R_append k44 (w0:=w) w.heap.size rfl (.tmp 44) (.tmp 46) 27 44 (.agg #[(.int .i64 0),(.int .i64 0),(.string ⟨#[]⟩),(.int .i64 0),(.string ⟨#[]⟩),(.bool false)]) 64 rfl Tryz.underlying27 pinfoldref11_lets_c.info rfl (by decide) (by omega) u11 acc (⟨x0,0,x2,x3,(⟨#[]⟩:ByteArray),false⟩:S44) [.int .i64 x0,.int .i64 0,.string x2,.int .i64 x3,.string (⟨#[]⟩:ByteArray),.bool false] (fun k_=>k_≠wr.heap.size) (fun _=>False) rfl rfl ?aP (fun _ hk=>hk.elim) ?aF ?aO ?aB ?aS ?aL ?_;(case aP=>exact k44_mkM _ _ _ (⟨x0,0,x2,x3,(⟨#[]⟩:ByteArray),false⟩:S44));(case aF=>exact (fun k_ hk=>Kd.freshB (g:=wr.heap.size) (o:=(.cells #[.int .i64 x0,.int .i64 0,.string x2,.int .i64 x3,.string (⟨#[]⟩:ByteArray),.bool false] 44)) BX.out k_ hk));(case aO=>exact (by (with_reducible repeat (first|apply r1_|apply r2_|apply r3_));exact HO.out));(case aB=>exact (by repeat (with_reducible first|exact HB.out|apply p3_|apply p1_|apply p2_)));(case aS=>exact (bz_ (by repeat (with_reducible first|exact HB.out|apply p3_|apply p1_|apply p2_))));(case aL=>exact LEN.out);intro v9 w9 ho hb hg hat;replace HB:=am_ hb;replace HO:=am_ (Kd.R_mono ho (fun _ _=>trivial));clear ho hb hg hat))
      go_roundg (l1.length - (i+1))
      case measure=>first|omega|(simp;omega)
      case rel=>exact ⟨i+1,by omega,by go_num,HB,⟨by rw [HST.out];exact HO.out⟩⟩
     have c1:(x1 == 1)=false:=by simpa using q1
     have hst2:dropL (letsP false) client now but (l1.take (i+1))=acc ++ [(⟨x0,x1,x2,x3,x4,x5⟩:S44)]:=by rw [hst,show letsP false ⟨x0,x1,x2,x3,x4,x5⟩=false from decide_eq_false q1];rfl
     clear hst q1
     have hst:=hst2
     clear hst2
     have HST:=am_ (show dropL (letsP false) client now but (l1.take (i+1))=acc ++ [(⟨x0,x1,x2,x3,x4,x5⟩:S44)] by exact hst)
     clear hst CF
     go_upto_region 6 with (fail)
     replace HB:=am_ (p3_ HB.out (.cells #[.int .i64 x0,.int .i64 x1,.string x2,.int .i64 x3,.string x4,.bool x5] 44))
     replace HO:=am_ (r1_ HO.out (.cells #[.int .i64 x0,.int .i64 x1,.string x2,.int .i64 x3,.string x4,.bool x5] 44))
     clear hx0 hx1 hx2 hx3 hx4 hx5
     generalize wr.alloc (.cells #[.int .i64 x0,.int .i64 x1,.string x2,.int .i64 x3,.string x4,.bool x5] 44)=w2 at HB BX HO ⊢
     have v0:=bc_ BX.out 0;have v1:=bc_ BX.out 1;have v2:=bc_ BX.out 2;have v3:=bc_ BX.out 3;have v4:=bc_ BX.out 4;have v5:=bc_ BX.out 5
     go_wp2_with (first|(go_at_call 33;(with_reducible refine (CH.out _).mono ?_);rintro e w3 ⟨rfl,hb2⟩;have HO3:=am_ (Kd.R_below (by (with_reducible repeat (first|apply r1_|apply r2_|apply r3_));exact HO.out) hb2);replace HO:=HO3;clear HO3;replace BX:=am_ (kb_ BX.out hb2);replace HB:=am_ (bt_ HB.out hb2);clear hb2 v0 v1 v2 v3 v4 v5;have v0:=bc_ BX.out 0;have v1:=bc_ BX.out 1;have v2:=bc_ BX.out 2;have v3:=bc_ BX.out 3;have v4:=bc_ BX.out 4;have v5:=bc_ BX.out 5)|((with_reducible refine gate_builtin (b:=.append) (xs:=#[.tmp 44,.tmp 46]) rfl ?_);at_builtin;refine Kd.R_append k44 (w0:=w) w.heap.size rfl (.tmp 44) (.tmp 46) 27 44 (.agg #[(.int .i64 0),(.int .i64 0),(.string ⟨#[]⟩),(.int .i64 0),(.string ⟨#[]⟩),(.bool false)]) 64 rfl Tryz.underlying27 pinfoldref11_lets_c.info rfl (by decide) (by omega) u11 acc (⟨x0,x1,x2,x3,x4,x5⟩:S44) [.int .i64 x0,.int .i64 x1,.string x2,.int .i64 x3,.string x4,.bool x5] (fun _=>True) (fun _=>False) rfl rfl ?aP (fun _ hk=>hk.elim) ?aF ?aO ?aB ?aS ?aL ?_;(case aP=>exact k44_mkM _ _ _ (⟨x0,x1,x2,x3,x4,x5⟩:S44));(case aF=>exact (fun _ _=>trivial));(case aO=>exact (by (with_reducible repeat (first|apply r1_|apply r2_|apply r3_));exact HO.out));(case aB=>exact (by repeat (with_reducible first|exact HB.out|apply p3_|apply p1_|apply p2_)));(case aS=>exact (bz_ (by repeat (with_reducible first|exact HB.out|apply p3_|apply p1_|apply p2_))));(case aL=>exact LEN.out);intro v9 w9 ho hb hg hat;replace HB:=am_ hb;replace HO:=am_ ho;clear ho hb hg hat))
     go_roundg (l1.length - (i+1))
     case measure=>first|omega|(simp;omega)
     case rel=>exact ⟨i+1,by omega,by go_num,HB,⟨by rw [HST.out];exact HO.out⟩⟩
  ·have HF:=am_ (show dropL (letsP bd) client now but (l1.take i)=r by rw [List.take_of_length_le (by omega)];exact HRR.out)
   have hlz:¬ (i:Int) < (l1.length:Int):=by omega
   go_wp2
   go_ret
   exact ⟨_,rfl,by rw [←HF.out];exact HO.out,HB.out⟩

/-! ### pinfoldref11_Owner: function 63 -/
-- BY HAND
-- 56
def pinfoldref11_Owner_c.f (a0_0:Int) (a0_1:Int) (l0_2:List Int) (l0_3:List S95) (a0_4:Int) (a0_5:ByteArray) (l0_6:List S93) (a1:Int):Option (ByteArray×Bool):=if confFitR l0_2 l0_3 a0_5 l0_6 then some (foundN (ownerR a0_0 a0_1 l0_2 l0_3 a0_4 a0_5 l0_6 a1),foundIs (ownerR a0_0 a0_1 l0_2 l0_3 a0_4 a0_5 l0_6 a1)) else none
theorem pinfoldref11_Owner_c.calls (a0_0:Int) (a0_1:Int) (A0_2:Option Addr) (c0_2:Nat) (l0_2:List Int) (A0_3:Option Addr) (c0_3:Nat) (l0_3:List S95) (a0_4:Int) (a0_5:ByteArray) (A0_6:Option Addr) (c0_6:Nat) (l0_6:List S93) (a1:Int) (r1:ByteArray) (r2:Bool) (w:World) (hr0_2:Kd.C (Kd.int .i64) w A0_2 l0_2.length l0_2) (hc0_2:l0_2.length≤c0_2) (hr0_3:Kd.C k95 w A0_3 l0_3.length l0_3) (hc0_3:l0_3.length≤c0_3) (hr0_6:Kd.C k93 w A0_6 l0_6.length l0_6) (hc0_6:l0_6.length≤c0_6) (h:pinfoldref11_Owner_c.f a0_0 a0_1 l0_2 l0_3 a0_4 a0_5 l0_6 a1=some (r1,r2)) :
  Calls Tryz.prog 63 #[.agg #[.int .i64 a0_0,.int .i64 a0_1,.slice A0_2 l0_2.length c0_2,.slice A0_3 l0_3.length c0_3,.int .i64 a0_4,.string a0_5,.slice A0_6 l0_6.length c0_6],.int .i64 a1] w fun e w'=>e=.returned (.tuple #[.string r1,.bool r2])∧Below w.heap.size w w':=by
 unfold pinfoldref11_Owner_c.f at h
 by_cases hs:confFitR l0_2 l0_3 a0_5 l0_6
 rotate_left
 ·rw [if_neg hs] at h
  cases h
 rw [if_pos hs] at h
 simp only [Option.some.injEq,Prod.mk.injEq] at h
 obtain ⟨hR1,hR2⟩:=h
 obtain ⟨b1,h1⟩:∃ b,confB a0_0 a0_1 l0_2 l0_3 a0_4 a0_5 l0_6=b:=⟨_,rfl⟩
 have C1:=am_ (fun W (hb:Below w.heap.size w W)=>pinfoldref11_ConfMay.calls a0_0 a0_1 A0_2 c0_2 l0_2 A0_3 c0_3 l0_3 a0_4 a0_5 A0_6 c0_6 l0_6 b1 W (c4_ hr0_2 hb) hc0_2 (c4_ hr0_3 hb) hc0_3 (c4_ hr0_6 hb) hc0_6 (by unfold pinfoldref11_ConfMay.f;rw [if_pos hs,h1]))
 obtain ⟨o,ho⟩:∃ o,findS (fun x=>x.f1 == a1) b1 l0_3=o:=⟨_,rfl⟩
 have ho2:ownerR a0_0 a0_1 l0_2 l0_3 a0_4 a0_5 l0_6 a1=o:=by rw [←ho,←h1];rfl
 rw [ho2] at hR1 hR2
 replace HR1:=am_ hR1
 replace HR2:=am_ hR2
 have HO:=am_ (show findS (fun x=>x.f1 == a1) b1 (l0_3.drop (0:Int).toNat)=o from ho)
 have hl:=hs.2.1
 have HK3:=am_ hr0_3
 have HB:=am_ (Below.refl w.heap.size w)
 have BK:=am_ (blk_new w (.cells #[.int .i64 a0_0,.int .i64 a0_1,.slice A0_2 l0_2.length c0_2,.slice A0_3 l0_3.length c0_3,.int .i64 a0_4,.string a0_5,.slice A0_6 l0_6.length c0_6] 26))
 clear hR1 hR2 ho ho2 hs h1 hr0_2 hr0_3 hr0_6 hc0_2 hc0_3 hc0_6
 go_enter Tryz.func63,Tryz.ntmps63
 go_wp2
 replace HB:=am_ (p3_ HB.out (.cells #[.int .i64 a0_0,.int .i64 a0_1,.slice A0_2 l0_2.length c0_2,.slice A0_3 l0_3.length c0_3,.int .i64 a0_4,.string a0_5,.slice A0_6 l0_6.length c0_6] 26))
 go_loopg [6] l0_3.length (fun d v w'=>∃ i:Int,0≤i∧i.toNat+d=l0_3.length∧v=.int .i64 i∧Aside0 (Below w.heap.size w w')∧Aside0 (w'.heap[w.heap.size]?=some (.cells #[.int .i64 a0_0,.int .i64 a0_1,.slice A0_2 l0_2.length c0_2,.slice A0_3 l0_3.length c0_3,.int .i64 a0_4,.string a0_5,.slice A0_6 l0_6.length c0_6] 26))∧Aside0 (findS (fun x=>x.f1 == a1) b1 (l0_3.drop i.toNat)=o))
 case atStart=>exact ⟨0,by omega,by simp,rfl,HB,BK,HO⟩
 case round =>
  clear HB BK HO
  obtain ⟨i,hi0,hd,rfl,HB,BK,HO⟩:=hrel
  have u0:=bc_ BK.out 0
  have u1:=bc_ BK.out 1
  have u2:=bc_ BK.out 2
  have u3:=bc_ BK.out 3
  have u4:=bc_ BK.out 4
  have u5:=bc_ BK.out 5
  have u6:=bc_ BK.out 6
  by_cases hlt:i < (l0_3.length:Int)
  ·cases b1 with
   | false =>
    have e1:=am_ (show (⟨#[]⟩:ByteArray)=r1 by rw [←HR1.out,←HO.out];rfl)
    have e2:=am_ (show false=r2 by rw [←HR2.out,←HO.out];rfl)
    clear HR1 HR2 HO HK3
    go_wp2_with (first|(go_at_call 56;(with_reducible refine (C1.out _ (by repeat (with_reducible first|exact HB.out|apply p3_|apply p1_|apply p2_))).mono ?_);rintro e w1 ⟨rfl,hb2⟩;replace BK:=am_ (kb_ (show _ from (by (with_reducible repeat (first|exact BK.out|refine k2_ ?_ _|refine k3_ ?_|refine k1_ ?_ _)))) hb2);replace HB:=am_ (bt_ (show Below w.heap.size w _ from (by repeat (with_reducible first|exact HB.out|apply p3_|apply p1_|apply p2_))) hb2);clear hb2;clear u0 u1 u2 u3 u4 u5 u6))
    go_ret2
    exact ⟨by rw [←e1.out,←e2.out]<;>rfl,HB.out⟩
   | true =>
   obtain ⟨ad,e1,hx0,hx1⟩:=at_T95 HK3.out i hi0 hlt
   cases e1
   have ho:=HO.out
   rw [dropRs_ l0_3 i hi0 hlt] at ho
   clear HO
   generalize rd_T95 l0_3 i=x at hx0 hx1 ho
   obtain ⟨x0,x1⟩:=x
   simp only at hx0 hx1
   unfold findS at ho
   rw [if_pos rfl,List.find?_cons] at ho
   replace hx0:=am_ hx0
   replace hx1:=am_ hx1
   by_cases q:x1=a1
   ·have qb:(x1 == a1)=true:=by simpa using q
    simp only [qb] at ho
    have e1:=am_ (show x0=r1 by rw [←HR1.out,←ho];rfl)
    have e2:=am_ (show true=r2 by rw [←HR2.out,←ho];rfl)
    clear HR1 HR2 ho q HK3
    go_wp2_with (first|(go_at_call 56;(with_reducible refine (C1.out _ (by repeat (with_reducible first|exact HB.out|apply p3_|apply p1_|apply p2_))).mono ?_);rintro e w1 ⟨rfl,hb2⟩;replace BK:=am_ (kb_ (show _ from (by (with_reducible repeat (first|exact BK.out|refine k2_ ?_ _|refine k3_ ?_|refine k1_ ?_ _)))) hb2);replace HB:=am_ (bt_ (show Below w.heap.size w _ from (by repeat (with_reducible first|exact HB.out|apply p3_|apply p1_|apply p2_))) hb2);clear hb2;clear u0 u1 u2 u3 u4 u5 u6;have u0:=bc_ BK.out 0;have u1:=bc_ BK.out 1;have u2:=bc_ BK.out 2;have u3:=bc_ BK.out 3;have u4:=bc_ BK.out 4;have u5:=bc_ BK.out 5;have u6:=bc_ BK.out 6;have y0:=(HB.out.cell (wb_ w _ hx0.out)).trans hx0.out;have y1:=(HB.out.cell (wb_ w _ hx1.out)).trans hx1.out))
    go_ret2
    exact ⟨by rw [←e1.out,←e2.out]<;>rfl,HB.out⟩
   ·have qb:(x1 == a1)=false:=by simpa using q
    simp only [qb] at ho
    have HN:=am_ (show findS (fun x=>x.f1 == a1) true (l0_3.drop (i+1).toNat)=o by rw [show (i+1).toNat=i.toNat+1 by omega];unfold findS;rw [if_pos rfl];exact ho)
    clear ho q
    go_wp2_with (first|(go_at_call 56;(with_reducible refine (C1.out _ (by repeat (with_reducible first|exact HB.out|apply p3_|apply p1_|apply p2_))).mono ?_);rintro e w1 ⟨rfl,hb2⟩;replace BK:=am_ (kb_ (show _ from (by (with_reducible repeat (first|exact BK.out|refine k2_ ?_ _|refine k3_ ?_|refine k1_ ?_ _)))) hb2);replace HB:=am_ (bt_ (show Below w.heap.size w _ from (by repeat (with_reducible first|exact HB.out|apply p3_|apply p1_|apply p2_))) hb2);clear hb2;clear u0 u1 u2 u3 u4 u5 u6;have u0:=bc_ BK.out 0;have u1:=bc_ BK.out 1;have u2:=bc_ BK.out 2;have u3:=bc_ BK.out 3;have u4:=bc_ BK.out 4;have u5:=bc_ BK.out 5;have u6:=bc_ BK.out 6;have y0:=(HB.out.cell (wb_ w _ hx0.out)).trans hx0.out;have y1:=(HB.out.cell (wb_ w _ hx1.out)).trans hx1.out))
    go_roundg (l0_3.length - (i.toNat+1))
    case measure=>first|omega|(simp;omega)
    case rel=>exact ⟨i+1,by omega,by omega,by go_num,HB,BK,HN⟩
  ·have ho:=HO.out
   rw [List.drop_eq_nil_of_le (by omega)] at ho
   have e1:=am_ (show (⟨#[]⟩:ByteArray)=r1 by rw [←HR1.out,←ho];cases b1<;>rfl)
   have e2:=am_ (show false=r2 by rw [←HR2.out,←ho];cases b1<;>rfl)
   clear HR1 HR2 ho HO HK3
   go_wp2
   go_ret2
   exact ⟨by rw [←e1.out,←e2.out]<;>rfl,HB.out⟩

end Go.Proofs.YtibalpbkmgegnaaGreatDoor.PL
