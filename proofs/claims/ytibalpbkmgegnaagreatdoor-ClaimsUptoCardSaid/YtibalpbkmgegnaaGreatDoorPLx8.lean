-- Made by wip/pr.py out of the translation (a turned copy of the kit's print; contracts by hand where said).
import Derived.Test.YtibalpbkmgegnaaGreatDoorPLx0
import Derived.Test.YtibalpbkmgegnaaGreatDoorPLx4
import Derived.Test.YtibalpbkmgegnaaGreatDoorPLx6
import Derived.Test.YtibalpbkmgegnaaGreatDoorPLx7
namespace Go.Proofs.YtibalpbkmgegnaaGreatDoor.PL
open Go.RowKit Go.Proofs.YtibalpbkmgegnaaGreatDoorW.PrintWords Go.Proofs.YtibalpbkmgegnaaGreatDoorW.PrintLast Go.Proofs.YtibalpbkmgegnaaGreatDoorW.PrintMore
-- shrunk
attribute [local go_sem] max2_int min2_int max_two min_two max_three min_three max_four min_four   -- for this text's walks alone
set_option linter.unusedVariables false
set_option linter.unusedSimpArgs false
set_option maxHeartbeats 8000000
set_option maxRecDepth 100000

/-! ### conf_static: function 69 -/
-- BY HAND
theorem dropStat (l0:List S93) (i:Int) (h0:0≤i) (h1:i < l0.length):l0.drop i.toNat=rd_T93 l0 i :: l0.drop (i.toNat+1)∧rd_T93 l0 i∈l0:=by
 have h:i.toNat < l0.length:=by omega
 have e:rd_T93 l0 i=l0[i.toNat]:=by
  unfold rd_T93
  rw [List.getD_eq_getElem?_getD,List.getElem?_eq_getElem h]
  rfl
 rw [e,List.drop_eq_getElem_cons h]
 exact ⟨rfl,List.getElem_mem h⟩
/-- where a record and a zone's name lie. -/
def conf_static.S (B g:Nat) (f0:ByteArray) (f1 f2 f3:Int) (f4 f5:ByteArray) (f6:Int) (z:ByteArray) (w':World):Prop:=w'.cell? ⟨B,0,none⟩=some (.string f0)∧w'.cell? ⟨B,1,none⟩=some (.int .i64 f1)∧w'.cell? ⟨B,2,none⟩=some (.int .i64 f2)∧w'.cell? ⟨B,3,none⟩=some (.int .i64 f3)∧w'.cell? ⟨B,4,none⟩=some (.string f4)∧w'.cell? ⟨B,5,none⟩=some (.string f5)∧w'.cell? ⟨B,6,none⟩=some (.int .i64 f6)∧w'.cell? ⟨g,5,none⟩=some (.string z)
theorem conf_static.S_below {B g:Nat} {f0:ByteArray} {f1 f2 f3:Int} {f4 f5:ByteArray} {f6:Int} {z:ByteArray} {w w2:World} (h:conf_static.S B g f0 f1 f2 f3 f4 f5 f6 z w) (hb:Below w.heap.size w w2):conf_static.S B g f0 f1 f2 f3 f4 f5 f6 z w2:=by
 obtain ⟨s0,s1,s2,s3,s4,s5,s6,s7⟩:=h
 exact ⟨(hb.cell (wb_ _ _ s0)).trans s0,(hb.cell (wb_ _ _ s1)).trans s1,(hb.cell (wb_ _ _ s2)).trans s2,(hb.cell (wb_ _ _ s3)).trans s3,(hb.cell (wb_ _ _ s4)).trans s4,(hb.cell (wb_ _ _ s5)).trans s5,(hb.cell (wb_ _ _ s6)).trans s6,(hb.cell (wb_ _ _ s7)).trans s7⟩
theorem conf_static.calls (g:Nat) (z:ByteArray) (A0:Option Addr) (c0:Nat) (l0:List S93) (w:World) (hz:w.cell? ⟨g,5,none⟩=some (.string z)) (hl:w.cell? ⟨g,6,none⟩=some (.slice A0 l0.length c0)) (hr0:Kd.C k93 w A0 l0.length l0) (hs:l0.length≤140737488351232) (hzs:z.size≤140737488351232) (hx:∀ x∈l0,x.f0.size≤140737488351232∧x.f4.size≤140737488351232) :
  Calls Tryz.prog 69 #[.pointer (some ⟨g,0,none⟩)] w fun e w'=>e=.returned (.bool (staticsB z l0))∧Below w.heap.size w w':=by
 have HR0:=am_ hr0
 have HZ:=am_ hz
 have HL:=am_ hl
 have HX:=am_ hx
 have e4:(l0.all (staticB z) && decide (l0.length≤8))=staticsB z l0:=rfl
 replace e4:=am_ e4
 obtain ⟨r,hr⟩:∃ r,staticsB z l0=r:=⟨_,rfl⟩
 rw [hr] at e4 ⊢
 clear hr0 hr hx
 go_enter Tryz.func69,Tryz.ntmps69
 go_wp2
 go_loopg [10] l0.length (fun d v9 wr=>∃ (i:Int),0≤i∧i.toNat+d=l0.length∧v9=.int .i64 i∧Aside0 (Below w.heap.size w wr)∧Aside0 (l0.all (staticB z)=(l0.drop i.toNat).all (staticB z)))
 case atStart=>exact ⟨0,by omega,by simp,rfl,⟨Below.refl _ _⟩,⟨rfl⟩⟩
 case round =>
  obtain ⟨i,hi0,hd,rfl,HB,HS⟩:=hrel
  clear hz hl
  have hgl:=wb_ w _ HZ.out
  have hgl2:g < wr.heap.size:=Nat.lt_of_lt_of_le hgl HB.out.size
  have hgne:g≠wr.heap.size:=by omega
  have hz:=(HB.out.cell (wb_ w _ HZ.out)).trans HZ.out
  have hl:=(HB.out.cell (wb_ w _ HL.out)).trans HL.out
  by_cases hlt:i < (l0.length:Int)
  ·obtain ⟨ad,e1,hx0,hx1,hx2,hx3,hx4,hx5,hx6⟩:=at_T93 HR0.out i hi0 hlt
   cases e1
   replace hx0:=(HB.out.cell (wb_ w _ hx0)).trans hx0
   replace hx1:=(HB.out.cell (wb_ w _ hx1)).trans hx1
   replace hx2:=(HB.out.cell (wb_ w _ hx2)).trans hx2
   replace hx3:=(HB.out.cell (wb_ w _ hx3)).trans hx3
   replace hx4:=(HB.out.cell (wb_ w _ hx4)).trans hx4
   replace hx5:=(HB.out.cell (wb_ w _ hx5)).trans hx5
   replace hx6:=(HB.out.cell (wb_ w _ hx6)).trans hx6
   have HD:=HS.out
   obtain ⟨hd1,hmem⟩:=dropStat l0 i hi0 hlt
   have hsz:=HX.out _ hmem
   rw [hd1,List.all_cons] at HD
   clear HS hd1 hmem
   generalize rd_T93 l0 i=x at hx0 hx1 hx2 hx3 hx4 hx5 hx6 HD hsz
   obtain ⟨f0,f1,f2,f3,f4,f5,f6⟩:=x
   simp only at hx0 hx1 hx2 hx3 hx4 hx5 hx6 hsz
   have fin:staticB z ⟨f0,f1,f2,f3,f4,f5,f6⟩=false→false=r:=fun e=>by rw [←e4.out,HD,e];rfl
   have HN:staticB z ⟨f0,f1,f2,f3,f4,f5,f6⟩=true→l0.all (staticB z)=(l0.drop (i.toNat+1)).all (staticB z):=fun e=>by rw [HD,e,Bool.true_and]
   clear HD
   by_cases qk:f1=1∨f1=5∨f1=16
   ·obtain ⟨b1,hb1⟩:∃ b,rrB f0 f1 f2 f3 f4 f5 f6=b:=⟨_,rfl⟩
    obtain ⟨b2,hb2⟩:∃ b,underB (bytesOf f0) (bytesOf z)=b:=⟨_,rfl⟩
    have C1:=am_ (fun W=>rr_May.calls f0 f1 f2 f3 f4 f5 f6 b1 W (by unfold rr_May.f;rw [if_pos ⟨hsz.1,hsz.2,qk⟩,hb1]))
    have C2:=am_ (fun W=>name_Under_c.calls f0 z b2 W (by unfold name_Under_c.f;rw [if_pos ⟨hsz.1,hzs⟩,hb2]))
    have hst:staticB z ⟨f0,f1,f2,f3,f4,f5,f6⟩=(b1 && (b2 && decide (f0.toList≠z.toList))):=by
     unfold staticB
     rw [decide_eq_true qk,hb1,hb2,Bool.true_and]
    rw [hst] at fin HN
    replace fin:=am_ fin
    replace HN:=am_ HN
    clear hst hb1 hb2 hsz
    obtain ⟨b3,hb3⟩:∃ b3:Bool,(f0.toList == z.toList)=b3:=⟨_,rfl⟩
    clear hb3 b3
    obtain ⟨f1',hf1⟩:∃ x,x=f1:=⟨f1,rfl⟩
    have HC1:=am_ (show ∀W,Calls Tryz.prog 83 #[.agg #[.string f0,.int .i64 f1',.int .i64 f2,.int .i64 f3,.string f4,.string f5,.int .i64 f6]] W fun e w'=>e=.returned (.bool b1)∧Below W.heap.size W w' by rw [hf1];exact C1.out)
    rcases qk with rfl|rfl|rfl
    all_goals
     go_wp2_with fail
     have HB1:=am_ (below_drew (p3_ HB.out (.cells #[.string f0,.int .i64 f1',.int .i64 f2,.int .i64 f3,.string f4,.string f5,.int .i64 f6] 93)))
     subst hf1
    ·refine seqS (S:=conf_static.S wr.heap.size g f0 1 f2 f3 f4 f5 f6 z) 37 (by kernel_rfl) rfl rfl (by unfold conf_static.S;go_simp) ?_
     intro hHeld
     iterate 4 first|(refine seqP (v:=?_) (a':=?_) rfl rfl (by kernel_rfl) (fun _ _ _ h=>h) (Or.inl ⟨by kernel_rfl,?_⟩) ?_ ?_;rotate_left;(intro w';go_simp;with_reducible rfl);rotate_left;(simp only [Act.put,sa_,sb_,sc_,i64_w,i32_w];rfl))|(refine seqL (v:=?_) (a':=?_) rfl rfl (by kernel_rfl) (fun _ _ _ h=>h) (Or.inl ⟨by kernel_rfl,?_⟩) hHeld ?_ ?_;rotate_left;(rintro w' ⟨s0,s1,s2,s3,s4,s5,s6,s7⟩;go_simp;with_reducible rfl);rotate_left;(simp only [Act.put,sa_,sb_,sc_,i64_w,i32_w];rfl))
     iterate 3 (refine seqP (v:=undef) (a':=?_) rfl rfl (by kernel_rfl) (fun _ _ _ h=>h) (Or.inr ⟨by kernel_rfl,rfl⟩) ?_ ?_;rotate_left;(simp only [Act.put,sa_,sb_,sc_,i64_w,i32_w];rfl))
     iterate 2 first|(refine seqP (v:=?_) (a':=?_) rfl rfl (by kernel_rfl) (fun _ _ _ h=>h) (Or.inl ⟨by kernel_rfl,?_⟩) ?_ ?_;rotate_left;(intro w';go_simp;with_reducible rfl);rotate_left;(simp only [Act.put,sa_,sb_,sc_,i64_w,i32_w];rfl))|(refine seqL (v:=?_) (a':=?_) rfl rfl (by kernel_rfl) (fun _ _ _ h=>h) (Or.inl ⟨by kernel_rfl,?_⟩) hHeld ?_ ?_;rotate_left;(rintro w' ⟨s0,s1,s2,s3,s4,s5,s6,s7⟩;go_simp;with_reducible rfl);rotate_left;(simp only [Act.put,sa_,sb_,sc_,i64_w,i32_w];rfl))
     iterate 3 (refine seqP (v:=undef) (a':=?_) rfl rfl (by kernel_rfl) (fun _ _ _ h=>h) (Or.inr ⟨by kernel_rfl,rfl⟩) ?_ ?_;rotate_left;(simp only [Act.put,sa_,sb_,sc_,i64_w,i32_w];rfl))
     iterate 2 first|(refine seqP (v:=?_) (a':=?_) rfl rfl (by kernel_rfl) (fun _ _ _ h=>h) (Or.inl ⟨by kernel_rfl,?_⟩) ?_ ?_;rotate_left;(intro w';go_simp;with_reducible rfl);rotate_left;(simp only [Act.put,sa_,sb_,sc_,i64_w,i32_w];rfl))|(refine seqL (v:=?_) (a':=?_) rfl rfl (by kernel_rfl) (fun _ _ _ h=>h) (Or.inl ⟨by kernel_rfl,?_⟩) hHeld ?_ ?_;rotate_left;(rintro w' ⟨s0,s1,s2,s3,s4,s5,s6,s7⟩;go_simp;with_reducible rfl);rotate_left;(simp only [Act.put,sa_,sb_,sc_,i64_w,i32_w];rfl))
     iterate 1 first|(refine seqP (v:=?_) (a':=?_) rfl rfl (by kernel_rfl) (fun _ _ _ h=>h) (Or.inl ⟨by kernel_rfl,?_⟩) ?_ ?_;rotate_left;(intro w';go_simp;with_reducible rfl);rotate_left;(simp only [Act.put,sa_,sb_,sc_,i64_w,i32_w];rfl))|(refine seqL (v:=?_) (a':=?_) rfl rfl (by kernel_rfl) (fun _ _ _ h=>h) (Or.inl ⟨by kernel_rfl,?_⟩) hHeld ?_ ?_;rotate_left;(rintro w' ⟨s0,s1,s2,s3,s4,s5,s6,s7⟩;go_simp;with_reducible rfl);rotate_left;(simp only [Act.put,sa_,sb_,sc_,i64_w,i32_w];rfl))
     refine seqG (fn:=Tryz.f83) rfl rfl (by kernel_rfl) rfl Tryz.func83 (by kernel_rfl) (by kernel_rfl) #[.agg #[.string f0,.int .i64 1,.int .i64 f2,.int .i64 f3,.string f4,.string f5,.int .i64 f6]] (by kernel_rfl) (by (try simp only [List.map_toArray,List.map_cons,List.map_nil]);first|done|rfl) ?_
     with_reducible refine (C1.out _).mono ?_
     rintro e w2 ⟨rfl,hb2⟩
     have HB2:=am_ (bt_ HB1.out hb2)
     refine ⟨_,rfl,conf_static.S_below hHeld hb2,fun hHeld=>⟨?_,?_,?_⟩⟩
     rotate_left
     ·simp only [Act.put,sa_,sb_,sc_,i64_w,i32_w]
      rfl
     iterate 3 first|(refine seqP (v:=?_) (a':=?_) rfl rfl (by kernel_rfl) (fun _ _ _ h=>h) (Or.inl ⟨by kernel_rfl,?_⟩) ?_ ?_;rotate_left;(intro w';go_simp;with_reducible rfl);rotate_left;(simp only [Act.put,sa_,sb_,sc_,i64_w,i32_w];rfl))|(refine seqL (v:=?_) (a':=?_) rfl rfl (by kernel_rfl) (fun _ _ _ h=>h) (Or.inl ⟨by kernel_rfl,?_⟩) hHeld ?_ ?_;rotate_left;(rintro w' ⟨s0,s1,s2,s3,s4,s5,s6,s7⟩;go_simp;with_reducible rfl);rotate_left;(simp only [Act.put,sa_,sb_,sc_,i64_w,i32_w];rfl))
     cases b1 with
     | false =>
      iterate 8 (refine seqP (v:=undef) (a':=?_) rfl rfl (by kernel_rfl) (fun _ _ _ h=>h) (Or.inr ⟨by kernel_rfl,rfl⟩) ?_ ?_;rotate_left;(simp only [Act.put,sa_,sb_,sc_,i64_w,i32_w];rfl))
      iterate 2 first|(refine seqP (v:=?_) (a':=?_) rfl rfl (by kernel_rfl) (fun _ _ _ h=>h) (Or.inl ⟨by kernel_rfl,?_⟩) ?_ ?_;rotate_left;(intro w';go_simp;with_reducible rfl);rotate_left;(simp only [Act.put,sa_,sb_,sc_,i64_w,i32_w];rfl))|(refine seqL (v:=?_) (a':=?_) rfl rfl (by kernel_rfl) (fun _ _ _ h=>h) (Or.inl ⟨by kernel_rfl,?_⟩) hHeld ?_ ?_;rotate_left;(rintro w' ⟨s0,s1,s2,s3,s4,s5,s6,s7⟩;go_simp;with_reducible rfl);rotate_left;(simp only [Act.put,sa_,sb_,sc_,i64_w,i32_w];rfl))
      iterate 7 (refine seqP (v:=undef) (a':=?_) rfl rfl (by kernel_rfl) (fun _ _ _ h=>h) (Or.inr ⟨by kernel_rfl,rfl⟩) ?_ ?_;rotate_left;(simp only [Act.put,sa_,sb_,sc_,i64_w,i32_w];rfl))
      iterate 1 first|(refine seqP (v:=?_) (a':=?_) rfl rfl (by kernel_rfl) (fun _ _ _ h=>h) (Or.inl ⟨by kernel_rfl,?_⟩) ?_ ?_;rotate_left;(intro w';go_simp;with_reducible rfl);rotate_left;(simp only [Act.put,sa_,sb_,sc_,i64_w,i32_w];rfl))|(refine seqL (v:=?_) (a':=?_) rfl rfl (by kernel_rfl) (fun _ _ _ h=>h) (Or.inl ⟨by kernel_rfl,?_⟩) hHeld ?_ ?_;rotate_left;(rintro w' ⟨s0,s1,s2,s3,s4,s5,s6,s7⟩;go_simp;with_reducible rfl);rotate_left;(simp only [Act.put,sa_,sb_,sc_,i64_w,i32_w];rfl))
      refine seqE (by kernel_rfl) ?_
      go_wp2
      go_ret
      exact ⟨ret_bool (fin.out (by simp)),by repeat (with_reducible first|exact HB2.out|exact HB1.out|apply p3_|apply p1_|apply p2_)⟩
     | true =>
      iterate 6 first|(refine seqP (v:=?_) (a':=?_) rfl rfl (by kernel_rfl) (fun _ _ _ h=>h) (Or.inl ⟨by kernel_rfl,?_⟩) ?_ ?_;rotate_left;(intro w';go_simp;with_reducible rfl);rotate_left;(simp only [Act.put,sa_,sb_,sc_,i64_w,i32_w];rfl))|(refine seqL (v:=?_) (a':=?_) rfl rfl (by kernel_rfl) (fun _ _ _ h=>h) (Or.inl ⟨by kernel_rfl,?_⟩) hHeld ?_ ?_;rotate_left;(rintro w' ⟨s0,s1,s2,s3,s4,s5,s6,s7⟩;go_simp;with_reducible rfl);rotate_left;(simp only [Act.put,sa_,sb_,sc_,i64_w,i32_w];rfl))
      refine seqG (fn:=Tryz.f84) rfl rfl (by kernel_rfl) rfl Tryz.func84 (by kernel_rfl) (by kernel_rfl) #[.string f0,.string z] (by kernel_rfl) (by (try simp only [List.map_toArray,List.map_cons,List.map_nil]);first|done|rfl) ?_
      with_reducible refine (C2.out _).mono ?_
      rintro e w3 ⟨rfl,⟨nd,rfl⟩⟩
      skip
      refine ⟨_,rfl,conf_static.S_below hHeld (p1_ (Below.refl _ _) _),fun hHeld=>⟨?_,?_,?_⟩⟩
      rotate_left
      ·simp only [Act.put,sa_,sb_,sc_,i64_w,i32_w]
       rfl
      iterate 3 first|(refine seqP (v:=?_) (a':=?_) rfl rfl (by kernel_rfl) (fun _ _ _ h=>h) (Or.inl ⟨by kernel_rfl,?_⟩) ?_ ?_;rotate_left;(intro w';go_simp;with_reducible rfl);rotate_left;(simp only [Act.put,sa_,sb_,sc_,i64_w,i32_w];rfl))|(refine seqL (v:=?_) (a':=?_) rfl rfl (by kernel_rfl) (fun _ _ _ h=>h) (Or.inl ⟨by kernel_rfl,?_⟩) hHeld ?_ ?_;rotate_left;(rintro w' ⟨s0,s1,s2,s3,s4,s5,s6,s7⟩;go_simp;with_reducible rfl);rotate_left;(simp only [Act.put,sa_,sb_,sc_,i64_w,i32_w];rfl))
      cases b2 with
      | false =>
       iterate 7 (refine seqP (v:=undef) (a':=?_) rfl rfl (by kernel_rfl) (fun _ _ _ h=>h) (Or.inr ⟨by kernel_rfl,rfl⟩) ?_ ?_;rotate_left;(simp only [Act.put,sa_,sb_,sc_,i64_w,i32_w];rfl))
       iterate 1 first|(refine seqP (v:=?_) (a':=?_) rfl rfl (by kernel_rfl) (fun _ _ _ h=>h) (Or.inl ⟨by kernel_rfl,?_⟩) ?_ ?_;rotate_left;(intro w';go_simp;with_reducible rfl);rotate_left;(simp only [Act.put,sa_,sb_,sc_,i64_w,i32_w];rfl))|(refine seqL (v:=?_) (a':=?_) rfl rfl (by kernel_rfl) (fun _ _ _ h=>h) (Or.inl ⟨by kernel_rfl,?_⟩) hHeld ?_ ?_;rotate_left;(rintro w' ⟨s0,s1,s2,s3,s4,s5,s6,s7⟩;go_simp;with_reducible rfl);rotate_left;(simp only [Act.put,sa_,sb_,sc_,i64_w,i32_w];rfl))
       refine seqE (by kernel_rfl) ?_
       go_wp2
       go_ret
       exact ⟨ret_bool (fin.out (by simp)),by repeat (with_reducible first|exact HB2.out|exact HB1.out|apply p3_|apply p1_|apply p2_)⟩
      | true =>
       iterate 8 first|(refine seqP (v:=?_) (a':=?_) rfl rfl (by kernel_rfl) (fun _ _ _ h=>h) (Or.inl ⟨by kernel_rfl,?_⟩) ?_ ?_;rotate_left;(intro w';go_simp;with_reducible rfl);rotate_left;(simp only [Act.put,sa_,sb_,sc_,i64_w,i32_w];rfl))|(refine seqL (v:=?_) (a':=?_) rfl rfl (by kernel_rfl) (fun _ _ _ h=>h) (Or.inl ⟨by kernel_rfl,?_⟩) hHeld ?_ ?_;rotate_left;(rintro w' ⟨s0,s1,s2,s3,s4,s5,s6,s7⟩;go_simp;with_reducible rfl);rotate_left;(simp only [Act.put,sa_,sb_,sc_,i64_w,i32_w];rfl))
       refine seqE (by kernel_rfl) ?_
       generalize hq:(f0.toList == z.toList)=b3
       cases b3 with
       | true =>
        replace hq:=am_ hq
        go_wp2
        go_ret
        exact ⟨ret_bool (fin.out (by simpa using hq.out)),by repeat (with_reducible first|exact HB2.out|exact HB1.out|apply p3_|apply p1_|apply p2_)⟩
       | false =>
        have HS2:=am_ (HN.out (by simpa using hq))
        replace hq:=am_ hq
        go_wp2
        go_roundg (l0.length - (i.toNat+1))
        case measure=>first|omega|(simp;omega)
        case rel =>
         have e2:(i+1).toNat=i.toNat+1:=by omega
         exact ⟨i+1,by omega,by omega,by go_num,⟨by repeat (with_reducible first|exact HB2.out|exact HB1.out|apply p3_|apply p1_|apply p2_)⟩,⟨by rw [e2];exact HS2.out⟩⟩
    ·refine seqS (S:=conf_static.S wr.heap.size g f0 5 f2 f3 f4 f5 f6 z) 37 (by kernel_rfl) rfl rfl (by unfold conf_static.S;go_simp) ?_
     intro hHeld
     iterate 4 first|(refine seqP (v:=?_) (a':=?_) rfl rfl (by kernel_rfl) (fun _ _ _ h=>h) (Or.inl ⟨by kernel_rfl,?_⟩) ?_ ?_;rotate_left;(intro w';go_simp;with_reducible rfl);rotate_left;(simp only [Act.put,sa_,sb_,sc_,i64_w,i32_w];rfl))|(refine seqL (v:=?_) (a':=?_) rfl rfl (by kernel_rfl) (fun _ _ _ h=>h) (Or.inl ⟨by kernel_rfl,?_⟩) hHeld ?_ ?_;rotate_left;(rintro w' ⟨s0,s1,s2,s3,s4,s5,s6,s7⟩;go_simp;with_reducible rfl);rotate_left;(simp only [Act.put,sa_,sb_,sc_,i64_w,i32_w];rfl))
     iterate 3 first|(refine seqP (v:=?_) (a':=?_) rfl rfl (by kernel_rfl) (fun _ _ _ h=>h) (Or.inl ⟨by kernel_rfl,?_⟩) ?_ ?_;rotate_left;(intro w';go_simp;with_reducible rfl);rotate_left;(simp only [Act.put,sa_,sb_,sc_,i64_w,i32_w];rfl))|(refine seqL (v:=?_) (a':=?_) rfl rfl (by kernel_rfl) (fun _ _ _ h=>h) (Or.inl ⟨by kernel_rfl,?_⟩) hHeld ?_ ?_;rotate_left;(rintro w' ⟨s0,s1,s2,s3,s4,s5,s6,s7⟩;go_simp;with_reducible rfl);rotate_left;(simp only [Act.put,sa_,sb_,sc_,i64_w,i32_w];rfl))
     iterate 2 first|(refine seqP (v:=?_) (a':=?_) rfl rfl (by kernel_rfl) (fun _ _ _ h=>h) (Or.inl ⟨by kernel_rfl,?_⟩) ?_ ?_;rotate_left;(intro w';go_simp;with_reducible rfl);rotate_left;(simp only [Act.put,sa_,sb_,sc_,i64_w,i32_w];rfl))|(refine seqL (v:=?_) (a':=?_) rfl rfl (by kernel_rfl) (fun _ _ _ h=>h) (Or.inl ⟨by kernel_rfl,?_⟩) hHeld ?_ ?_;rotate_left;(rintro w' ⟨s0,s1,s2,s3,s4,s5,s6,s7⟩;go_simp;with_reducible rfl);rotate_left;(simp only [Act.put,sa_,sb_,sc_,i64_w,i32_w];rfl))
     iterate 3 (refine seqP (v:=undef) (a':=?_) rfl rfl (by kernel_rfl) (fun _ _ _ h=>h) (Or.inr ⟨by kernel_rfl,rfl⟩) ?_ ?_;rotate_left;(simp only [Act.put,sa_,sb_,sc_,i64_w,i32_w];rfl))
     iterate 2 first|(refine seqP (v:=?_) (a':=?_) rfl rfl (by kernel_rfl) (fun _ _ _ h=>h) (Or.inl ⟨by kernel_rfl,?_⟩) ?_ ?_;rotate_left;(intro w';go_simp;with_reducible rfl);rotate_left;(simp only [Act.put,sa_,sb_,sc_,i64_w,i32_w];rfl))|(refine seqL (v:=?_) (a':=?_) rfl rfl (by kernel_rfl) (fun _ _ _ h=>h) (Or.inl ⟨by kernel_rfl,?_⟩) hHeld ?_ ?_;rotate_left;(rintro w' ⟨s0,s1,s2,s3,s4,s5,s6,s7⟩;go_simp;with_reducible rfl);rotate_left;(simp only [Act.put,sa_,sb_,sc_,i64_w,i32_w];rfl))
     iterate 1 first|(refine seqP (v:=?_) (a':=?_) rfl rfl (by kernel_rfl) (fun _ _ _ h=>h) (Or.inl ⟨by kernel_rfl,?_⟩) ?_ ?_;rotate_left;(intro w';go_simp;with_reducible rfl);rotate_left;(simp only [Act.put,sa_,sb_,sc_,i64_w,i32_w];rfl))|(refine seqL (v:=?_) (a':=?_) rfl rfl (by kernel_rfl) (fun _ _ _ h=>h) (Or.inl ⟨by kernel_rfl,?_⟩) hHeld ?_ ?_;rotate_left;(rintro w' ⟨s0,s1,s2,s3,s4,s5,s6,s7⟩;go_simp;with_reducible rfl);rotate_left;(simp only [Act.put,sa_,sb_,sc_,i64_w,i32_w];rfl))
     refine seqG (fn:=Tryz.f83) rfl rfl (by kernel_rfl) rfl Tryz.func83 (by kernel_rfl) (by kernel_rfl) #[.agg #[.string f0,.int .i64 5,.int .i64 f2,.int .i64 f3,.string f4,.string f5,.int .i64 f6]] (by kernel_rfl) (by (try simp only [List.map_toArray,List.map_cons,List.map_nil]);first|done|rfl) ?_
     with_reducible refine (C1.out _).mono ?_
     rintro e w2 ⟨rfl,hb2⟩
     have HB2:=am_ (bt_ HB1.out hb2)
     refine ⟨_,rfl,conf_static.S_below hHeld hb2,fun hHeld=>⟨?_,?_,?_⟩⟩
     rotate_left
     ·simp only [Act.put,sa_,sb_,sc_,i64_w,i32_w]
      rfl
     iterate 3 first|(refine seqP (v:=?_) (a':=?_) rfl rfl (by kernel_rfl) (fun _ _ _ h=>h) (Or.inl ⟨by kernel_rfl,?_⟩) ?_ ?_;rotate_left;(intro w';go_simp;with_reducible rfl);rotate_left;(simp only [Act.put,sa_,sb_,sc_,i64_w,i32_w];rfl))|(refine seqL (v:=?_) (a':=?_) rfl rfl (by kernel_rfl) (fun _ _ _ h=>h) (Or.inl ⟨by kernel_rfl,?_⟩) hHeld ?_ ?_;rotate_left;(rintro w' ⟨s0,s1,s2,s3,s4,s5,s6,s7⟩;go_simp;with_reducible rfl);rotate_left;(simp only [Act.put,sa_,sb_,sc_,i64_w,i32_w];rfl))
     cases b1 with
     | false =>
      iterate 8 (refine seqP (v:=undef) (a':=?_) rfl rfl (by kernel_rfl) (fun _ _ _ h=>h) (Or.inr ⟨by kernel_rfl,rfl⟩) ?_ ?_;rotate_left;(simp only [Act.put,sa_,sb_,sc_,i64_w,i32_w];rfl))
      iterate 2 first|(refine seqP (v:=?_) (a':=?_) rfl rfl (by kernel_rfl) (fun _ _ _ h=>h) (Or.inl ⟨by kernel_rfl,?_⟩) ?_ ?_;rotate_left;(intro w';go_simp;with_reducible rfl);rotate_left;(simp only [Act.put,sa_,sb_,sc_,i64_w,i32_w];rfl))|(refine seqL (v:=?_) (a':=?_) rfl rfl (by kernel_rfl) (fun _ _ _ h=>h) (Or.inl ⟨by kernel_rfl,?_⟩) hHeld ?_ ?_;rotate_left;(rintro w' ⟨s0,s1,s2,s3,s4,s5,s6,s7⟩;go_simp;with_reducible rfl);rotate_left;(simp only [Act.put,sa_,sb_,sc_,i64_w,i32_w];rfl))
      iterate 7 (refine seqP (v:=undef) (a':=?_) rfl rfl (by kernel_rfl) (fun _ _ _ h=>h) (Or.inr ⟨by kernel_rfl,rfl⟩) ?_ ?_;rotate_left;(simp only [Act.put,sa_,sb_,sc_,i64_w,i32_w];rfl))
      iterate 1 first|(refine seqP (v:=?_) (a':=?_) rfl rfl (by kernel_rfl) (fun _ _ _ h=>h) (Or.inl ⟨by kernel_rfl,?_⟩) ?_ ?_;rotate_left;(intro w';go_simp;with_reducible rfl);rotate_left;(simp only [Act.put,sa_,sb_,sc_,i64_w,i32_w];rfl))|(refine seqL (v:=?_) (a':=?_) rfl rfl (by kernel_rfl) (fun _ _ _ h=>h) (Or.inl ⟨by kernel_rfl,?_⟩) hHeld ?_ ?_;rotate_left;(rintro w' ⟨s0,s1,s2,s3,s4,s5,s6,s7⟩;go_simp;with_reducible rfl);rotate_left;(simp only [Act.put,sa_,sb_,sc_,i64_w,i32_w];rfl))
      refine seqE (by kernel_rfl) ?_
      go_wp2
      go_ret
      exact ⟨ret_bool (fin.out (by simp)),by repeat (with_reducible first|exact HB2.out|exact HB1.out|apply p3_|apply p1_|apply p2_)⟩
     | true =>
      iterate 6 first|(refine seqP (v:=?_) (a':=?_) rfl rfl (by kernel_rfl) (fun _ _ _ h=>h) (Or.inl ⟨by kernel_rfl,?_⟩) ?_ ?_;rotate_left;(intro w';go_simp;with_reducible rfl);rotate_left;(simp only [Act.put,sa_,sb_,sc_,i64_w,i32_w];rfl))|(refine seqL (v:=?_) (a':=?_) rfl rfl (by kernel_rfl) (fun _ _ _ h=>h) (Or.inl ⟨by kernel_rfl,?_⟩) hHeld ?_ ?_;rotate_left;(rintro w' ⟨s0,s1,s2,s3,s4,s5,s6,s7⟩;go_simp;with_reducible rfl);rotate_left;(simp only [Act.put,sa_,sb_,sc_,i64_w,i32_w];rfl))
      refine seqG (fn:=Tryz.f84) rfl rfl (by kernel_rfl) rfl Tryz.func84 (by kernel_rfl) (by kernel_rfl) #[.string f0,.string z] (by kernel_rfl) (by (try simp only [List.map_toArray,List.map_cons,List.map_nil]);first|done|rfl) ?_
      with_reducible refine (C2.out _).mono ?_
      rintro e w3 ⟨rfl,⟨nd,rfl⟩⟩
      skip
      refine ⟨_,rfl,conf_static.S_below hHeld (p1_ (Below.refl _ _) _),fun hHeld=>⟨?_,?_,?_⟩⟩
      rotate_left
      ·simp only [Act.put,sa_,sb_,sc_,i64_w,i32_w]
       rfl
      iterate 3 first|(refine seqP (v:=?_) (a':=?_) rfl rfl (by kernel_rfl) (fun _ _ _ h=>h) (Or.inl ⟨by kernel_rfl,?_⟩) ?_ ?_;rotate_left;(intro w';go_simp;with_reducible rfl);rotate_left;(simp only [Act.put,sa_,sb_,sc_,i64_w,i32_w];rfl))|(refine seqL (v:=?_) (a':=?_) rfl rfl (by kernel_rfl) (fun _ _ _ h=>h) (Or.inl ⟨by kernel_rfl,?_⟩) hHeld ?_ ?_;rotate_left;(rintro w' ⟨s0,s1,s2,s3,s4,s5,s6,s7⟩;go_simp;with_reducible rfl);rotate_left;(simp only [Act.put,sa_,sb_,sc_,i64_w,i32_w];rfl))
      cases b2 with
      | false =>
       iterate 7 (refine seqP (v:=undef) (a':=?_) rfl rfl (by kernel_rfl) (fun _ _ _ h=>h) (Or.inr ⟨by kernel_rfl,rfl⟩) ?_ ?_;rotate_left;(simp only [Act.put,sa_,sb_,sc_,i64_w,i32_w];rfl))
       iterate 1 first|(refine seqP (v:=?_) (a':=?_) rfl rfl (by kernel_rfl) (fun _ _ _ h=>h) (Or.inl ⟨by kernel_rfl,?_⟩) ?_ ?_;rotate_left;(intro w';go_simp;with_reducible rfl);rotate_left;(simp only [Act.put,sa_,sb_,sc_,i64_w,i32_w];rfl))|(refine seqL (v:=?_) (a':=?_) rfl rfl (by kernel_rfl) (fun _ _ _ h=>h) (Or.inl ⟨by kernel_rfl,?_⟩) hHeld ?_ ?_;rotate_left;(rintro w' ⟨s0,s1,s2,s3,s4,s5,s6,s7⟩;go_simp;with_reducible rfl);rotate_left;(simp only [Act.put,sa_,sb_,sc_,i64_w,i32_w];rfl))
       refine seqE (by kernel_rfl) ?_
       go_wp2
       go_ret
       exact ⟨ret_bool (fin.out (by simp)),by repeat (with_reducible first|exact HB2.out|exact HB1.out|apply p3_|apply p1_|apply p2_)⟩
      | true =>
       iterate 8 first|(refine seqP (v:=?_) (a':=?_) rfl rfl (by kernel_rfl) (fun _ _ _ h=>h) (Or.inl ⟨by kernel_rfl,?_⟩) ?_ ?_;rotate_left;(intro w';go_simp;with_reducible rfl);rotate_left;(simp only [Act.put,sa_,sb_,sc_,i64_w,i32_w];rfl))|(refine seqL (v:=?_) (a':=?_) rfl rfl (by kernel_rfl) (fun _ _ _ h=>h) (Or.inl ⟨by kernel_rfl,?_⟩) hHeld ?_ ?_;rotate_left;(rintro w' ⟨s0,s1,s2,s3,s4,s5,s6,s7⟩;go_simp;with_reducible rfl);rotate_left;(simp only [Act.put,sa_,sb_,sc_,i64_w,i32_w];rfl))
       refine seqE (by kernel_rfl) ?_
       generalize hq:(f0.toList == z.toList)=b3
       cases b3 with
       | true =>
        replace hq:=am_ hq
        go_wp2
        go_ret
        exact ⟨ret_bool (fin.out (by simpa using hq.out)),by repeat (with_reducible first|exact HB2.out|exact HB1.out|apply p3_|apply p1_|apply p2_)⟩
       | false =>
        have HS2:=am_ (HN.out (by simpa using hq))
        replace hq:=am_ hq
        go_wp2
        go_roundg (l0.length - (i.toNat+1))
        case measure=>first|omega|(simp;omega)
        case rel =>
         have e2:(i+1).toNat=i.toNat+1:=by omega
         exact ⟨i+1,by omega,by omega,by go_num,⟨by repeat (with_reducible first|exact HB2.out|exact HB1.out|apply p3_|apply p1_|apply p2_)⟩,⟨by rw [e2];exact HS2.out⟩⟩
    ·refine seqS (S:=conf_static.S wr.heap.size g f0 16 f2 f3 f4 f5 f6 z) 37 (by kernel_rfl) rfl rfl (by unfold conf_static.S;go_simp) ?_
     intro hHeld
     iterate 14 first|(refine seqP (v:=?_) (a':=?_) rfl rfl (by kernel_rfl) (fun _ _ _ h=>h) (Or.inl ⟨by kernel_rfl,?_⟩) ?_ ?_;rotate_left;(intro w';go_simp;with_reducible rfl);rotate_left;(simp only [Act.put,sa_,sb_,sc_,i64_w,i32_w];rfl))|(refine seqL (v:=?_) (a':=?_) rfl rfl (by kernel_rfl) (fun _ _ _ h=>h) (Or.inl ⟨by kernel_rfl,?_⟩) hHeld ?_ ?_;rotate_left;(rintro w' ⟨s0,s1,s2,s3,s4,s5,s6,s7⟩;go_simp;with_reducible rfl);rotate_left;(simp only [Act.put,sa_,sb_,sc_,i64_w,i32_w];rfl))
     iterate 1 first|(refine seqP (v:=?_) (a':=?_) rfl rfl (by kernel_rfl) (fun _ _ _ h=>h) (Or.inl ⟨by kernel_rfl,?_⟩) ?_ ?_;rotate_left;(intro w';go_simp;with_reducible rfl);rotate_left;(simp only [Act.put,sa_,sb_,sc_,i64_w,i32_w];rfl))|(refine seqL (v:=?_) (a':=?_) rfl rfl (by kernel_rfl) (fun _ _ _ h=>h) (Or.inl ⟨by kernel_rfl,?_⟩) hHeld ?_ ?_;rotate_left;(rintro w' ⟨s0,s1,s2,s3,s4,s5,s6,s7⟩;go_simp;with_reducible rfl);rotate_left;(simp only [Act.put,sa_,sb_,sc_,i64_w,i32_w];rfl))
     refine seqG (fn:=Tryz.f83) rfl rfl (by kernel_rfl) rfl Tryz.func83 (by kernel_rfl) (by kernel_rfl) #[.agg #[.string f0,.int .i64 16,.int .i64 f2,.int .i64 f3,.string f4,.string f5,.int .i64 f6]] (by kernel_rfl) (by (try simp only [List.map_toArray,List.map_cons,List.map_nil]);first|done|rfl) ?_
     with_reducible refine (C1.out _).mono ?_
     rintro e w2 ⟨rfl,hb2⟩
     have HB2:=am_ (bt_ HB1.out hb2)
     refine ⟨_,rfl,conf_static.S_below hHeld hb2,fun hHeld=>⟨?_,?_,?_⟩⟩
     rotate_left
     ·simp only [Act.put,sa_,sb_,sc_,i64_w,i32_w]
      rfl
     iterate 3 first|(refine seqP (v:=?_) (a':=?_) rfl rfl (by kernel_rfl) (fun _ _ _ h=>h) (Or.inl ⟨by kernel_rfl,?_⟩) ?_ ?_;rotate_left;(intro w';go_simp;with_reducible rfl);rotate_left;(simp only [Act.put,sa_,sb_,sc_,i64_w,i32_w];rfl))|(refine seqL (v:=?_) (a':=?_) rfl rfl (by kernel_rfl) (fun _ _ _ h=>h) (Or.inl ⟨by kernel_rfl,?_⟩) hHeld ?_ ?_;rotate_left;(rintro w' ⟨s0,s1,s2,s3,s4,s5,s6,s7⟩;go_simp;with_reducible rfl);rotate_left;(simp only [Act.put,sa_,sb_,sc_,i64_w,i32_w];rfl))
     cases b1 with
     | false =>
      iterate 8 (refine seqP (v:=undef) (a':=?_) rfl rfl (by kernel_rfl) (fun _ _ _ h=>h) (Or.inr ⟨by kernel_rfl,rfl⟩) ?_ ?_;rotate_left;(simp only [Act.put,sa_,sb_,sc_,i64_w,i32_w];rfl))
      iterate 2 first|(refine seqP (v:=?_) (a':=?_) rfl rfl (by kernel_rfl) (fun _ _ _ h=>h) (Or.inl ⟨by kernel_rfl,?_⟩) ?_ ?_;rotate_left;(intro w';go_simp;with_reducible rfl);rotate_left;(simp only [Act.put,sa_,sb_,sc_,i64_w,i32_w];rfl))|(refine seqL (v:=?_) (a':=?_) rfl rfl (by kernel_rfl) (fun _ _ _ h=>h) (Or.inl ⟨by kernel_rfl,?_⟩) hHeld ?_ ?_;rotate_left;(rintro w' ⟨s0,s1,s2,s3,s4,s5,s6,s7⟩;go_simp;with_reducible rfl);rotate_left;(simp only [Act.put,sa_,sb_,sc_,i64_w,i32_w];rfl))
      iterate 7 (refine seqP (v:=undef) (a':=?_) rfl rfl (by kernel_rfl) (fun _ _ _ h=>h) (Or.inr ⟨by kernel_rfl,rfl⟩) ?_ ?_;rotate_left;(simp only [Act.put,sa_,sb_,sc_,i64_w,i32_w];rfl))
      iterate 1 first|(refine seqP (v:=?_) (a':=?_) rfl rfl (by kernel_rfl) (fun _ _ _ h=>h) (Or.inl ⟨by kernel_rfl,?_⟩) ?_ ?_;rotate_left;(intro w';go_simp;with_reducible rfl);rotate_left;(simp only [Act.put,sa_,sb_,sc_,i64_w,i32_w];rfl))|(refine seqL (v:=?_) (a':=?_) rfl rfl (by kernel_rfl) (fun _ _ _ h=>h) (Or.inl ⟨by kernel_rfl,?_⟩) hHeld ?_ ?_;rotate_left;(rintro w' ⟨s0,s1,s2,s3,s4,s5,s6,s7⟩;go_simp;with_reducible rfl);rotate_left;(simp only [Act.put,sa_,sb_,sc_,i64_w,i32_w];rfl))
      refine seqE (by kernel_rfl) ?_
      go_wp2
      go_ret
      exact ⟨ret_bool (fin.out (by simp)),by repeat (with_reducible first|exact HB2.out|exact HB1.out|apply p3_|apply p1_|apply p2_)⟩
     | true =>
      iterate 6 first|(refine seqP (v:=?_) (a':=?_) rfl rfl (by kernel_rfl) (fun _ _ _ h=>h) (Or.inl ⟨by kernel_rfl,?_⟩) ?_ ?_;rotate_left;(intro w';go_simp;with_reducible rfl);rotate_left;(simp only [Act.put,sa_,sb_,sc_,i64_w,i32_w];rfl))|(refine seqL (v:=?_) (a':=?_) rfl rfl (by kernel_rfl) (fun _ _ _ h=>h) (Or.inl ⟨by kernel_rfl,?_⟩) hHeld ?_ ?_;rotate_left;(rintro w' ⟨s0,s1,s2,s3,s4,s5,s6,s7⟩;go_simp;with_reducible rfl);rotate_left;(simp only [Act.put,sa_,sb_,sc_,i64_w,i32_w];rfl))
      refine seqG (fn:=Tryz.f84) rfl rfl (by kernel_rfl) rfl Tryz.func84 (by kernel_rfl) (by kernel_rfl) #[.string f0,.string z] (by kernel_rfl) (by (try simp only [List.map_toArray,List.map_cons,List.map_nil]);first|done|rfl) ?_
      with_reducible refine (C2.out _).mono ?_
      rintro e w3 ⟨rfl,⟨nd,rfl⟩⟩
      skip
      refine ⟨_,rfl,conf_static.S_below hHeld (p1_ (Below.refl _ _) _),fun hHeld=>⟨?_,?_,?_⟩⟩
      rotate_left
      ·simp only [Act.put,sa_,sb_,sc_,i64_w,i32_w]
       rfl
      iterate 3 first|(refine seqP (v:=?_) (a':=?_) rfl rfl (by kernel_rfl) (fun _ _ _ h=>h) (Or.inl ⟨by kernel_rfl,?_⟩) ?_ ?_;rotate_left;(intro w';go_simp;with_reducible rfl);rotate_left;(simp only [Act.put,sa_,sb_,sc_,i64_w,i32_w];rfl))|(refine seqL (v:=?_) (a':=?_) rfl rfl (by kernel_rfl) (fun _ _ _ h=>h) (Or.inl ⟨by kernel_rfl,?_⟩) hHeld ?_ ?_;rotate_left;(rintro w' ⟨s0,s1,s2,s3,s4,s5,s6,s7⟩;go_simp;with_reducible rfl);rotate_left;(simp only [Act.put,sa_,sb_,sc_,i64_w,i32_w];rfl))
      cases b2 with
      | false =>
       iterate 7 (refine seqP (v:=undef) (a':=?_) rfl rfl (by kernel_rfl) (fun _ _ _ h=>h) (Or.inr ⟨by kernel_rfl,rfl⟩) ?_ ?_;rotate_left;(simp only [Act.put,sa_,sb_,sc_,i64_w,i32_w];rfl))
       iterate 1 first|(refine seqP (v:=?_) (a':=?_) rfl rfl (by kernel_rfl) (fun _ _ _ h=>h) (Or.inl ⟨by kernel_rfl,?_⟩) ?_ ?_;rotate_left;(intro w';go_simp;with_reducible rfl);rotate_left;(simp only [Act.put,sa_,sb_,sc_,i64_w,i32_w];rfl))|(refine seqL (v:=?_) (a':=?_) rfl rfl (by kernel_rfl) (fun _ _ _ h=>h) (Or.inl ⟨by kernel_rfl,?_⟩) hHeld ?_ ?_;rotate_left;(rintro w' ⟨s0,s1,s2,s3,s4,s5,s6,s7⟩;go_simp;with_reducible rfl);rotate_left;(simp only [Act.put,sa_,sb_,sc_,i64_w,i32_w];rfl))
       refine seqE (by kernel_rfl) ?_
       go_wp2
       go_ret
       exact ⟨ret_bool (fin.out (by simp)),by repeat (with_reducible first|exact HB2.out|exact HB1.out|apply p3_|apply p1_|apply p2_)⟩
      | true =>
       iterate 8 first|(refine seqP (v:=?_) (a':=?_) rfl rfl (by kernel_rfl) (fun _ _ _ h=>h) (Or.inl ⟨by kernel_rfl,?_⟩) ?_ ?_;rotate_left;(intro w';go_simp;with_reducible rfl);rotate_left;(simp only [Act.put,sa_,sb_,sc_,i64_w,i32_w];rfl))|(refine seqL (v:=?_) (a':=?_) rfl rfl (by kernel_rfl) (fun _ _ _ h=>h) (Or.inl ⟨by kernel_rfl,?_⟩) hHeld ?_ ?_;rotate_left;(rintro w' ⟨s0,s1,s2,s3,s4,s5,s6,s7⟩;go_simp;with_reducible rfl);rotate_left;(simp only [Act.put,sa_,sb_,sc_,i64_w,i32_w];rfl))
       refine seqE (by kernel_rfl) ?_
       generalize hq:(f0.toList == z.toList)=b3
       cases b3 with
       | true =>
        replace hq:=am_ hq
        go_wp2
        go_ret
        exact ⟨ret_bool (fin.out (by simpa using hq.out)),by repeat (with_reducible first|exact HB2.out|exact HB1.out|apply p3_|apply p1_|apply p2_)⟩
       | false =>
        have HS2:=am_ (HN.out (by simpa using hq))
        replace hq:=am_ hq
        go_wp2
        go_roundg (l0.length - (i.toNat+1))
        case measure=>first|omega|(simp;omega)
        case rel =>
         have e2:(i+1).toNat=i.toNat+1:=by omega
         exact ⟨i+1,by omega,by omega,by go_num,⟨by repeat (with_reducible first|exact HB2.out|exact HB1.out|apply p3_|apply p1_|apply p2_)⟩,⟨by rw [e2];exact HS2.out⟩⟩
   ·have q1:(f1 != 1)=true:=by simp;omega
    have q5:(f1 != 5)=true:=by simp;omega
    have q16:(f1 != 16)=true:=by simp;omega
    have ff:=fin (by unfold staticB;rw [decide_eq_false qk];rfl)
    replace ff:=am_ ff
    clear qk hsz fin HN
    go_wp2_with fail
    go_quiet (fail)
    go_wp2
    go_ret
    exact ⟨ret_bool ff.out,by repeat (with_reducible first|exact HB.out|apply p3_|apply p1_|apply p2_)⟩
  ·have e3:l0.drop i.toNat=[]:=List.drop_eq_nil_of_le (by omega)
   have HE:=am_ (show l0.all (staticB z)=true by rw [HS.out,e3];rfl)
   clear HS
   go_wp2
   go_ret
   refine ⟨ret_bool ?_,HB.out⟩
   rw [←e4.out,HE.out,Bool.true_and]
   exact decide_eq_decide.2 (by omega)

/-! ### conf_May: function 40 -/
-- BY HAND
def conf_May.f (a0_0:Int) (a0_1:Int) (l0_2:List Int) (l0_3:List S95) (a0_4:Int) (a0_5:ByteArray) (l0_6:List S93):Option Bool:=if confFit l0_2 l0_3 a0_5 l0_6 then some (confB a0_0 a0_1 l0_2 l0_3 a0_4 a0_5 l0_6) else none
theorem conf_May.calls (a0_0:Int) (a0_1:Int) (A0_2:Option Addr) (c0_2:Nat) (l0_2:List Int) (A0_3:Option Addr) (c0_3:Nat) (l0_3:List S95) (a0_4:Int) (a0_5:ByteArray) (A0_6:Option Addr) (c0_6:Nat) (l0_6:List S93) (r:Bool) (w:World) (hr0_2:Kd.C (Kd.int .i64) w A0_2 l0_2.length l0_2) (hc0_2:l0_2.length≤c0_2) (hr0_3:Kd.C k95 w A0_3 l0_3.length l0_3) (hc0_3:l0_3.length≤c0_3) (hr0_6:Kd.C k93 w A0_6 l0_6.length l0_6) (hc0_6:l0_6.length≤c0_6) (h:conf_May.f a0_0 a0_1 l0_2 l0_3 a0_4 a0_5 l0_6=some r) :
  Calls Tryz.prog 40 #[.agg #[.int .i64 a0_0,.int .i64 a0_1,.slice A0_2 l0_2.length c0_2,.slice A0_3 l0_3.length c0_3,.int .i64 a0_4,.string a0_5,.slice A0_6 l0_6.length c0_6]] w fun e w'=>e=.returned (.bool r)∧Below w.heap.size w w':=by
 unfold conf_May.f at h
 by_cases hs:confFit l0_2 l0_3 a0_5 l0_6
 rotate_left
 ·rw [if_neg hs] at h
  cases h
 rw [if_pos hs] at h
 have HR:=am_ (e5_ h)
 obtain ⟨f2,f3,fz,f6,fx⟩:=hs
 obtain ⟨n5,h5⟩:∃ b,nameB (bytesOf a0_5)=b:=⟨_,rfl⟩
 obtain ⟨L,hL⟩:∃ b,labelsS a0_5=b:=⟨_,rfl⟩
 obtain ⟨b2,hb2⟩:∃ b,hostsB a0_0 a0_1 l0_2 8=b:=⟨_,rfl⟩
 obtain ⟨b3,hb3⟩:∃ b,reservedB a0_0 a0_1 l0_3=b:=⟨_,rfl⟩
 obtain ⟨b6,hb6⟩:∃ b,staticsB a0_5 l0_6=b:=⟨_,rfl⟩
 have CN:=am_ (fun W=>name_May_c.calls a0_5 n5 W (by unfold name_May_c.f;rw [if_pos (by omega),h5]))
 have CL:=am_ (fun W=>name_Labels_c.calls a0_5 L W (by unfold name_Labels_c.f;rw [if_pos (by omega),hL]))
 have CH:=am_ (fun W (bk:W.heap[w.heap.size]?=some (.cells #[.int .i64 a0_0,.int .i64 a0_1,.slice A0_2 l0_2.length c0_2,.slice A0_3 l0_3.length c0_3,.int .i64 a0_4,.string a0_5,.slice A0_6 l0_6.length c0_6] 26)) (hb:Below w.heap.size w W) (h2:2≤a0_0∧a0_1≤254)=>by have:=conf_hosts.calls w.heap.size a0_0 a0_1 A0_2 c0_2 l0_2 8 W ((bc_ bk 0).trans rfl) ((bc_ bk 1).trans rfl) h2 (c4_ hr0_2 hb) f2;rw [hb2] at this;exact this)
 have CR:=am_ (fun W (bk:W.heap[w.heap.size]?=some (.cells #[.int .i64 a0_0,.int .i64 a0_1,.slice A0_2 l0_2.length c0_2,.slice A0_3 l0_3.length c0_3,.int .i64 a0_4,.string a0_5,.slice A0_6 l0_6.length c0_6] 26)) (hb:Below w.heap.size w W) (h2:2≤a0_0∧a0_1≤254)=>by have:=conf_reserved.calls w.heap.size a0_0 a0_1 A0_3 c0_3 l0_3 W ((bc_ bk 0).trans rfl) ((bc_ bk 1).trans rfl) ((bc_ bk 3).trans rfl) h2 (c4_ hr0_3 hb) f3;rw [hb3] at this;exact this)
 have CS:=am_ (fun W (bk:W.heap[w.heap.size]?=some (.cells #[.int .i64 a0_0,.int .i64 a0_1,.slice A0_2 l0_2.length c0_2,.slice A0_3 l0_3.length c0_3,.int .i64 a0_4,.string a0_5,.slice A0_6 l0_6.length c0_6] 26)) (hb:Below w.heap.size w W)=>by have:=conf_static.calls w.heap.size a0_5 A0_6 c0_6 l0_6 W ((bc_ bk 5).trans rfl) ((bc_ bk 6).trans rfl) (c4_ hr0_6 hb) f6 (by omega) (fun x hx=>by have:=fx x hx;omega);rw [hb6] at this;exact this)
 have HR2:=am_ (show (decide (2≤a0_0∧a0_0≤a0_1∧a0_1≤254∧a0_1 - a0_0 < 8) && (decide (a0_5.toList≠[]) && (n5 && decide (L.length≤4))) && (decide (1≤a0_4∧a0_4≤1048576) && (b2 && (b3 && b6))))=r by rw [←HR.out,←h5,←hL,←hb2,←hb3,←hb6];rfl)
 have HB:=am_ (Below.refl w.heap.size w)
 have BK:=am_ (blk_new w (.cells #[.int .i64 a0_0,.int .i64 a0_1,.slice A0_2 l0_2.length c0_2,.slice A0_3 l0_3.length c0_3,.int .i64 a0_4,.string a0_5,.slice A0_6 l0_6.length c0_6] 26))
 clear h h5 hL hb2 hb3 hb6 HR f2 f3 fz f6 fx hr0_2 hr0_3 hr0_6 hc0_2 hc0_3 hc0_6
 go_enter Tryz.func40,Tryz.ntmps40
 go_wp2_with (first
  | (go_at_call 44;(with_reducible refine (CN.out _).mono ?_);rintro e w1 ⟨rfl,⟨nd,rfl⟩⟩)
  | (go_at_call 66;(with_reducible refine (CL.out _).mono ?_);rintro e w2 ⟨v,rfl,hR,hb2⟩;obtain ⟨A,c,rfl,hcl,hCl⟩:=Kd.R_reads hR;clear hcl hCl hR;replace BK:=am_ (kb_ (show _ from by (with_reducible repeat (first|refine k2_ ?_ _|refine k3_ ?_|refine k1_ ?_ _));exact BK.out) hb2);replace HB:=am_ (bt_ (show Below w.heap.size w _ by repeat (with_reducible first|exact HB.out|apply p3_|apply p1_|apply p2_)) hb2);clear hb2;have u0:=bc_ BK.out 0;have u1:=bc_ BK.out 1;have u2:=bc_ BK.out 2;have u3:=bc_ BK.out 3;have u4:=bc_ BK.out 4;have u5:=bc_ BK.out 5;have u6:=bc_ BK.out 6)
  | (go_at_call 67;(with_reducible refine (CH.out _ (by (with_reducible repeat (first|refine k2_ ?_ _|refine k3_ ?_|refine k1_ ?_ _));exact BK.out) (by repeat (with_reducible first|exact HB.out|apply p3_|apply p1_|apply p2_)) (by omega)).mono ?_);rintro e w3 ⟨rfl,hb2⟩;replace BK:=am_ (kb_ (show _ from (by (with_reducible repeat (first|refine k2_ ?_ _|refine k3_ ?_|refine k1_ ?_ _));exact BK.out)) hb2);replace HB:=am_ (bt_ (show Below w.heap.size w _ from (by repeat (with_reducible first|exact HB.out|apply p3_|apply p1_|apply p2_))) hb2);clear hb2)
  | (go_at_call 68;(with_reducible refine (CR.out _ (by (with_reducible repeat (first|refine k2_ ?_ _|refine k3_ ?_|refine k1_ ?_ _));exact BK.out) (by repeat (with_reducible first|exact HB.out|apply p3_|apply p1_|apply p2_)) (by omega)).mono ?_);rintro e w4 ⟨rfl,hb2⟩;replace BK:=am_ (kb_ (show _ from (by (with_reducible repeat (first|refine k2_ ?_ _|refine k3_ ?_|refine k1_ ?_ _));exact BK.out)) hb2);replace HB:=am_ (bt_ (show Below w.heap.size w _ from (by repeat (with_reducible first|exact HB.out|apply p3_|apply p1_|apply p2_))) hb2);clear hb2)
  | (go_at_call 69;(with_reducible refine (CS.out _ (by (with_reducible repeat (first|refine k2_ ?_ _|refine k3_ ?_|refine k1_ ?_ _));exact BK.out) (by repeat (with_reducible first|exact HB.out|apply p3_|apply p1_|apply p2_))).mono ?_);rintro e w5 ⟨rfl,hb2⟩;replace BK:=am_ (kb_ (show _ from (by (with_reducible repeat (first|refine k2_ ?_ _|refine k3_ ?_|refine k1_ ?_ _));exact BK.out)) hb2);replace HB:=am_ (bt_ (show Below w.heap.size w _ from (by repeat (with_reducible first|exact HB.out|apply p3_|apply p1_|apply p2_))) hb2);clear hb2))
 all_goals go_ret
 all_goals refine ⟨ret_bool ?_,?_⟩
 all_goals first
  | ((repeat (with_reducible first|exact HB.out|apply p3_|apply p1_|apply p2_));done)
  | (rw [←HR2.out];clear HR2 CN CL CH CR CS;simp [*]<;>omega)
  | (have q0:a0_5.toList.isEmpty=false:=(by simpa using (show ¬a0_5.toList=[] by assumption));rw [←HR2.out,decide_eq_true (show 2≤a0_0∧a0_0≤a0_1∧a0_1≤254∧a0_1 - a0_0 < 8 by omega),decide_eq_true (show a0_5.toList≠[] by assumption),decide_eq_true (show L.length≤4 by omega),decide_eq_true (show 1≤a0_4∧a0_4≤1048576 by omega)];simp only [*,q0,Bool.not_false,Bool.true_and])

/-! ### lease_Time: function 42 -/
def lease_Time.f (a0:Int):Option (Bool):=if a0 ≥ 0 then (some (decide (a0≤1099511627776))) else (some false)
theorem lease_Time.calls (a0:Int) (r:Bool) (w:World) (h:lease_Time.f a0=some r) :
  Calls Tryz.prog 42 #[.int .i64 a0] w fun e w'=>e=.returned (.bool r)∧Drawn0 w w':=by
 have H:(if a0 ≥ 0 then (some (decide (a0≤1099511627776))) else (some false))=some r:=h
 clear h
 by_cases c2:a0 ≥ 0
 ·rw [if_pos c2] at H
  have c2b0:decide (0≤a0)=true:=decide_eq_true c2
  clear c2
  obtain rfl:=e5_ H
  go_enter Tryz.func42,Tryz.ntmps42
  go_wp2
  go_ret
  exact ⟨by first|rfl|(simp;done)|(simp [*];done),by repeat (first|exact Drawn0.refl _|apply Drawn0.step)⟩
 rw [if_neg c2] at H
 have c2b0:decide (0≤a0)=false:=decide_eq_false c2
 clear c2
 obtain rfl:=e5_ H
 go_enter Tryz.func42,Tryz.ntmps42
 go_wp2
 go_ret
 exact ⟨by first|rfl|(simp;done)|(simp [*];done),by repeat (first|exact Drawn0.refl _|apply Drawn0.step)⟩

/-! ### lease_Time_c: function 42 -/
def lease_Time_c.f (a0:Int):Option Bool:=some (decide (0≤a0∧a0≤1099511627776))
theorem lease_Time_c.calls (a0:Int) (r:Bool) (w:World) (h:lease_Time_c.f a0=some r) :
  Calls Tryz.prog 42 #[.int .i64 a0] w fun e w'=>e=.returned (.bool r)∧Drawn0 w w':=by
 refine lease_Time.calls a0 r w ?_
 rw [←h]
 unfold lease_Time.f lease_Time_c.f
 by_cases q:a0 ≥ 0
 ·rw [if_pos q]
  congr 1
  rw [Bool.eq_iff_iff,decide_eq_true_eq,decide_eq_true_eq]
  omega
 ·rw [if_neg q]
  congr 1
  symm
  rw [decide_eq_false_iff_not]
  omega

/-- A state of type 44 at block g of W; what its slices lead to came in by w0. -/
def IsS44 (w0 W:World) (g:Nat) (f0:Int) (f1:Int) (f2:ByteArray) (f3:Int) (f4:ByteArray) (f5:Bool):Prop:=W.heap[g]?=some (.cells #[.int .i64 f0,.int .i64 f1,.string f2,.int .i64 f3,.string f4,.bool f5] 44 (0,0))∧w0.heap.size≤g
theorem IsS44.grown {w0 W:World} {g:Nat} {f0:Int} {f1:Int} {f2:ByteArray} {f3:Int} {f4:ByteArray} {f5:Bool} {W1:World} {row:Option Nat} (h:IsS44 w0 W g f0 f1 f2 f3 f4 f5) (hw:W.grownBy W1 row) (hne:some g≠row):IsS44 w0 W1 g f0 f1 f2 f3 f4 f5:=by
 obtain ⟨hb,hg⟩:=h
 exact ⟨blk_grown hb hw hne,hg⟩
theorem IsS44.own_neN {w0 W:World} {g:Nat} {f0:Int} {f1:Int} {f2:ByteArray} {f3:Int} {f4:ByteArray} {f5:Bool} {α:Type} {d:Kd α} {e:Nat} {base:Nat} {ok:Nat→Prop} {v:Value} {xs:List α} (h:IsS44 w0 W g f0 f1 f2 f3 f4 f5) (ho:Kd.N d e W base ok v xs) (ht:e≠44):some g≠v.ownBlock:=by
 obtain ⟨hb,hg⟩:=h
 exact Kd.N_ne ho hb ht
theorem IsS44.fresh {w0 W:World} {g:Nat} {f0:Int} {f1:Int} {f2:ByteArray} {f3:Int} {f4:ByteArray} {f5:Bool} (h:IsS44 w0 W g f0 f1 f2 f3 f4 f5):∀ k,W.heap.size≤k→k≠g:=by
 obtain ⟨hb,hg⟩:=h
 exact Kd.freshB hb
theorem IsS44.kept {w0 W:World} {g:Nat} {f0:Int} {f1:Int} {f2:ByteArray} {f3:Int} {f4:ByteArray} {f5:Bool} {W1:World} {S:Nat→Prop} (h:IsS44 w0 W g f0 f1 f2 f3 f4 f5) (hk:Kept W W1 S) (hne:¬ S g):IsS44 w0 W1 g f0 f1 f2 f3 f4 f5:=by
 obtain ⟨hb,hg⟩:=h
 exact ⟨blk_kept hb hk hne,hg⟩
theorem IsS44.below {w0 W:World} {g:Nat} {f0:Int} {f1:Int} {f2:ByteArray} {f3:Int} {f4:ByteArray} {f5:Bool} {W1:World} (h:IsS44 w0 W g f0 f1 f2 f3 f4 f5) (hw:Below W.heap.size W W1):IsS44 w0 W1 g f0 f1 f2 f3 f4 f5:=h.grown (grown_of_below hw none) (by simp)
theorem IsS44.alloc {w0 W:World} {g:Nat} {f0:Int} {f1:Int} {f2:ByteArray} {f3:Int} {f4:ByteArray} {f5:Bool} (h:IsS44 w0 W g f0 f1 f2 f3 f4 f5) (o:Obj):IsS44 w0 (W.alloc o) g f0 f1 f2 f3 f4 f5:=h.below (p3_ (Below.refl _ _) o)
theorem IsS44.drewN {w0 W:World} {g:Nat} {f0:Int} {f1:Int} {f2:ByteArray} {f3:Int} {f4:ByteArray} {f5:Bool} (h:IsS44 w0 W g f0 f1 f2 f3 f4 f5) (m:Nat):IsS44 w0 (W.drewN m) g f0 f1 f2 f3 f4 f5:=h
theorem IsS44.drew {w0 W:World} {g:Nat} {f0:Int} {f1:Int} {f2:ByteArray} {f3:Int} {f4:ByteArray} {f5:Bool} (h:IsS44 w0 W g f0 f1 f2 f3 f4 f5):IsS44 w0 W.drew g f0 f1 f2 f3 f4 f5:=h
theorem IsS44.at_ {w0 W:World} {g:Nat} {f0:Int} {f1:Int} {f2:ByteArray} {f3:Int} {f4:ByteArray} {f5:Bool} {w':World} {m:Nat} (hq:W.drewN m=w') (h:IsS44 w0 W g f0 f1 f2 f3 f4 f5):IsS44 w0 w' g f0 f1 f2 f3 f4 f5:=by subst hq;exact IsS44.drewN h m
theorem IsS44.apart {w0 W:World} {g:Nat} {f0:Int} {f1:Int} {f2:ByteArray} {f3:Int} {f4:ByteArray} {f5:Bool} {α:Type} {d:Kd α} {e:Nat} {base:Nat} {ok:Nat→Prop} {v:Value} {xs:List α} (h:IsS44 w0 W g f0 f1 f2 f3 f4 f5) (ho:d.R e W base ok v xs) (ht:∀ q,q∈e :: d.E→q≠44):d.R e W base (fun k=>ok k∧k≠g) v xs:=by
 obtain ⟨hb,hg⟩:=h
 exact Kd.R_types ho hb ht
theorem IsS44.own_ne {w0 W:World} {g:Nat} {f0:Int} {f1:Int} {f2:ByteArray} {f3:Int} {f4:ByteArray} {f5:Bool} {α:Type} {d:Kd α} {e:Nat} {base:Nat} {ok:Nat→Prop} {v:Value} {xs:List α} (h:IsS44 w0 W g f0 f1 f2 f3 f4 f5) (ho:d.R e W base ok v xs) (ht:e≠44):some g≠v.ownBlock:=by
 obtain ⟨hb,hg⟩:=h
 exact Kd.R_ne ho hb ht
theorem IsS44.apartQ {w0 W:World} {g:Nat} {f0:Int} {f1:Int} {f2:ByteArray} {f3:Int} {f4:ByteArray} {f5:Bool} {α:Type} {d:Kd α} {e:Nat} {base:Nat} {ok:Nat→Prop} {v:Value} {xs:List α} (h:IsS44 w0 W g f0 f1 f2 f3 f4 f5) (ho:d.Q e W base ok v xs) (ht:∀ q,q∈e :: d.E→q≠44):d.Q e W base (fun k=>ok k∧k≠g) v xs:=by
 obtain ⟨hb,hg⟩:=h
 exact Kd.Q_types ho hb ht
theorem IsS44.own_neQ {w0 W:World} {g:Nat} {f0:Int} {f1:Int} {f2:ByteArray} {f3:Int} {f4:ByteArray} {f5:Bool} {α:Type} {d:Kd α} {e:Nat} {base:Nat} {ok:Nat→Prop} {v:Value} {xs:List α} (h:IsS44 w0 W g f0 f1 f2 f3 f4 f5) (ho:d.Q e W base ok v xs) (ht:e≠44):some g≠v.ownBlock:=by
 obtain ⟨hb,hg⟩:=h
 exact Kd.Q_ne ho hb ht
theorem IsS44.apartS {w0 W:World} {g:Nat} {f0:Int} {f1:Int} {f2:ByteArray} {f3:Int} {f4:ByteArray} {f5:Bool} {α:Type} {d:Kd α} {e:Nat} {base:Nat} {ok:Nat→Prop} {v:Value} {xs:List α} (h:IsS44 w0 W g f0 f1 f2 f3 f4 f5) (ho:d.S e W base ok v xs) (ht:∀ q,q∈e :: d.E→q≠44):d.S e W base (fun k=>ok k∧k≠g) v xs:=by
 obtain ⟨hb,hg⟩:=h
 exact Kd.S_types ho hb ht
theorem IsS44.own_neS {w0 W:World} {g:Nat} {f0:Int} {f1:Int} {f2:ByteArray} {f3:Int} {f4:ByteArray} {f5:Bool} {α:Type} {d:Kd α} {e:Nat} {base:Nat} {ok:Nat→Prop} {v:Value} {xs:List α} (h:IsS44 w0 W g f0 f1 f2 f3 f4 f5) (ho:d.S e W base ok v xs) (ht:e≠44):some g≠v.ownBlock:=by
 obtain ⟨hb,hg⟩:=h
 exact Kd.S_ne ho hb ht
theorem IsS44.lt {w0 W:World} {g:Nat} {f0:Int} {f1:Int} {f2:ByteArray} {f3:Int} {f4:ByteArray} {f5:Bool} (h:IsS44 w0 W g f0 f1 f2 f3 f4 f5):g < W.heap.size:=by
 obtain ⟨hb,hg⟩:=h
 exact blk_lt hb
theorem IsS44.ge {w0 W:World} {g:Nat} {f0:Int} {f1:Int} {f2:ByteArray} {f3:Int} {f4:ByteArray} {f5:Bool} (h:IsS44 w0 W g f0 f1 f2 f3 f4 f5):w0.heap.size≤g:=by
 obtain ⟨hb,hg⟩:=h
 exact hg
theorem IsS44.ne_blk {w0 W:World} {g:Nat} {f0:Int} {f1:Int} {f2:ByteArray} {f3:Int} {f4:ByteArray} {f5:Bool} {a:Nat} {cs:Array Value} {t:TypeId} {fr:Nat×Nat} (h:IsS44 w0 W g f0 f1 f2 f3 f4 f5) (hb2:W.heap[a]?=some (.cells cs t fr)) (ht:t≠44):g≠a:=by
 obtain ⟨hb,hg⟩:=h
 rintro rfl
 rw [hb] at hb2
 injection hb2 with hb2
 injection hb2 with _ ht2
 exact ht ht2.symm
theorem IsS44.far {w0 W:World} {g:Nat} {f0:Int} {f1:Int} {f2:ByteArray} {f3:Int} {f4:ByteArray} {f5:Bool} {p:Addr} (h:IsS44 w0 W g f0 f1 f2 f3 f4 f5) (hne:g≠p.block) (u:Value):IsS44 w0 (W.setCell p u) g f0 f1 f2 f3 f4 f5:=by
 obtain ⟨hb,hg⟩:=h
 exact ⟨blk_far hb hne u,hg⟩
theorem cellS44_0 {W:World} {g:Nat} {f0:Int} {f1:Int} {f2:ByteArray} {f3:Int} {f4:ByteArray} {f5:Bool} (h:W.heap[g]?=some (.cells #[.int .i64 f0,.int .i64 f1,.string f2,.int .i64 f3,.string f4,.bool f5] 44 (0,0))):W.cell? ⟨g,0,none⟩=some (.int .i64 f0):=(bc_ h 0).trans rfl
theorem IsS44.set_0 {w0 W:World} {g:Nat} {f0:Int} {f1:Int} {f2:ByteArray} {f3:Int} {f4:ByteArray} {f5:Bool} (h:IsS44 w0 W g f0 f1 f2 f3 f4 f5) (x:Int):IsS44 w0 (W.setCell ⟨g,0,none⟩ (.int .i64 x)) g x f1 f2 f3 f4 f5:=by
 obtain ⟨hb,hg⟩:=h
 exact ⟨by simpa using blk_set hb 0 (.int .i64 x),hg⟩
theorem cellS44_1 {W:World} {g:Nat} {f0:Int} {f1:Int} {f2:ByteArray} {f3:Int} {f4:ByteArray} {f5:Bool} (h:W.heap[g]?=some (.cells #[.int .i64 f0,.int .i64 f1,.string f2,.int .i64 f3,.string f4,.bool f5] 44 (0,0))):W.cell? ⟨g,1,none⟩=some (.int .i64 f1):=(bc_ h 1).trans rfl
theorem IsS44.set_1 {w0 W:World} {g:Nat} {f0:Int} {f1:Int} {f2:ByteArray} {f3:Int} {f4:ByteArray} {f5:Bool} (h:IsS44 w0 W g f0 f1 f2 f3 f4 f5) (x:Int):IsS44 w0 (W.setCell ⟨g,1,none⟩ (.int .i64 x)) g f0 x f2 f3 f4 f5:=by
 obtain ⟨hb,hg⟩:=h
 exact ⟨by simpa using blk_set hb 1 (.int .i64 x),hg⟩
theorem cellS44_2 {W:World} {g:Nat} {f0:Int} {f1:Int} {f2:ByteArray} {f3:Int} {f4:ByteArray} {f5:Bool} (h:W.heap[g]?=some (.cells #[.int .i64 f0,.int .i64 f1,.string f2,.int .i64 f3,.string f4,.bool f5] 44 (0,0))):W.cell? ⟨g,2,none⟩=some (.string f2):=(bc_ h 2).trans rfl
theorem IsS44.set_2 {w0 W:World} {g:Nat} {f0:Int} {f1:Int} {f2:ByteArray} {f3:Int} {f4:ByteArray} {f5:Bool} (h:IsS44 w0 W g f0 f1 f2 f3 f4 f5) (x:ByteArray):IsS44 w0 (W.setCell ⟨g,2,none⟩ (.string x)) g f0 f1 x f3 f4 f5:=by
 obtain ⟨hb,hg⟩:=h
 exact ⟨by simpa using blk_set hb 2 (.string x),hg⟩
theorem cellS44_3 {W:World} {g:Nat} {f0:Int} {f1:Int} {f2:ByteArray} {f3:Int} {f4:ByteArray} {f5:Bool} (h:W.heap[g]?=some (.cells #[.int .i64 f0,.int .i64 f1,.string f2,.int .i64 f3,.string f4,.bool f5] 44 (0,0))):W.cell? ⟨g,3,none⟩=some (.int .i64 f3):=(bc_ h 3).trans rfl
theorem IsS44.set_3 {w0 W:World} {g:Nat} {f0:Int} {f1:Int} {f2:ByteArray} {f3:Int} {f4:ByteArray} {f5:Bool} (h:IsS44 w0 W g f0 f1 f2 f3 f4 f5) (x:Int):IsS44 w0 (W.setCell ⟨g,3,none⟩ (.int .i64 x)) g f0 f1 f2 x f4 f5:=by
 obtain ⟨hb,hg⟩:=h
 exact ⟨by simpa using blk_set hb 3 (.int .i64 x),hg⟩
theorem cellS44_4 {W:World} {g:Nat} {f0:Int} {f1:Int} {f2:ByteArray} {f3:Int} {f4:ByteArray} {f5:Bool} (h:W.heap[g]?=some (.cells #[.int .i64 f0,.int .i64 f1,.string f2,.int .i64 f3,.string f4,.bool f5] 44 (0,0))):W.cell? ⟨g,4,none⟩=some (.string f4):=(bc_ h 4).trans rfl
theorem IsS44.set_4 {w0 W:World} {g:Nat} {f0:Int} {f1:Int} {f2:ByteArray} {f3:Int} {f4:ByteArray} {f5:Bool} (h:IsS44 w0 W g f0 f1 f2 f3 f4 f5) (x:ByteArray):IsS44 w0 (W.setCell ⟨g,4,none⟩ (.string x)) g f0 f1 f2 f3 x f5:=by
 obtain ⟨hb,hg⟩:=h
 exact ⟨by simpa using blk_set hb 4 (.string x),hg⟩
theorem cellS44_5 {W:World} {g:Nat} {f0:Int} {f1:Int} {f2:ByteArray} {f3:Int} {f4:ByteArray} {f5:Bool} (h:W.heap[g]?=some (.cells #[.int .i64 f0,.int .i64 f1,.string f2,.int .i64 f3,.string f4,.bool f5] 44 (0,0))):W.cell? ⟨g,5,none⟩=some (.bool f5):=(bc_ h 5).trans rfl
theorem IsS44.set_5 {w0 W:World} {g:Nat} {f0:Int} {f1:Int} {f2:ByteArray} {f3:Int} {f4:ByteArray} {f5:Bool} (h:IsS44 w0 W g f0 f1 f2 f3 f4 f5) (x:Bool):IsS44 w0 (W.setCell ⟨g,5,none⟩ (.bool x)) g f0 f1 f2 f3 f4 x:=by
 obtain ⟨hb,hg⟩:=h
 exact ⟨by simpa using blk_set hb 5 (.bool x),hg⟩
theorem IsS44.new (w0 W:World) (f0:Int) (f1:Int) (f2:ByteArray) (f3:Int) (f4:ByteArray) (f5:Bool) (hB:Below w0.heap.size w0 W):IsS44 w0 (W.alloc (.cells #[.int .i64 f0,.int .i64 f1,.string f2,.int .i64 f3,.string f4,.bool f5] 44)) W.heap.size f0 f1 f2 f3 f4 f5:=⟨by simpa using heap_alloc_new W _,hB.size⟩

/-! ### lease_state: function 85 -/
-- BY HAND
theorem lease_state.calls (g:Nat) (s0 s1:Int) (s2:ByteArray) (s3:Int) (s4:ByteArray) (s5:Bool) (r:Bool) (w:World) (hb:w.heap[g]?=some (.cells #[.int .i64 s0,.int .i64 s1,.string s2,.int .i64 s3,.string s4,.bool s5] 44)) (h:stateB s1 s2 s4 s5=r) :
  Calls Tryz.prog 85 #[.pointer (some ⟨g,0,none⟩)] w fun e w'=>e=.returned (.bool r)∧Below w.heap.size w w':=by
 unfold stateB at h
 have HR:=am_ h
 have HB:=am_ (Below.refl w.heap.size w)
 have v0:=bc_ hb 0
 have v1:=bc_ hb 1
 have v2:=bc_ hb 2
 have v3:=bc_ hb 3
 have v4:=bc_ hb 4
 have v5:=bc_ hb 5
 clear h hb
 go_enter Tryz.func85,Tryz.ntmps85
 go_wp2
 all_goals go_ret
 all_goals refine ⟨ret_bool ?_,?_⟩
 all_goals first
  | ((repeat (with_reducible first|exact HB.out|apply p3_|apply p1_|apply p2_));done)
  | (rw [←HR.out];clear HR HB v0 v1 v2 v3 v4 v5;simp_all;done)

/-! ### lease_May: function 70 -/
-- BY HAND
def lease_May.f (a0_0:Int) (a0_1:Int) (a0_2:ByteArray) (a0_3:Int) (a0_4:ByteArray) (a0_5:Bool):Option Bool:=if a0_4.size≤140737488351232 then some (leaseB a0_0 a0_1 a0_2 a0_3 a0_4 a0_5) else none
theorem lease_May.calls (a0_0:Int) (a0_1:Int) (a0_2:ByteArray) (a0_3:Int) (a0_4:ByteArray) (a0_5:Bool) (r:Bool) (w:World) (h:lease_May.f a0_0 a0_1 a0_2 a0_3 a0_4 a0_5=some r) :
  Calls Tryz.prog 70 #[.agg #[.int .i64 a0_0,.int .i64 a0_1,.string a0_2,.int .i64 a0_3,.string a0_4,.bool a0_5]] w fun e w'=>e=.returned (.bool r)∧Below w.heap.size w w':=by
 unfold lease_May.f at h
 by_cases hs:a0_4.size≤140737488351232
 rotate_left
 ·rw [if_neg hs] at h
  cases h
 rw [if_pos hs] at h
 have HR:=e5_ h
 unfold leaseB at HR
 obtain ⟨b1,h1⟩:∃ b,stateB a0_1 a0_2 a0_4 a0_5=b:=⟨_,rfl⟩
 obtain ⟨b4,h4⟩:∃ b,nameB (bytesOf a0_4)=b:=⟨_,rfl⟩
 rw [h1,h4] at HR
 have C1:=am_ (fun W (bk:W.heap[w.heap.size]?=some (.cells #[.int .i64 a0_0,.int .i64 a0_1,.string a0_2,.int .i64 a0_3,.string a0_4,.bool a0_5] 44))=>lease_state.calls w.heap.size a0_0 a0_1 a0_2 a0_3 a0_4 a0_5 b1 W bk h1)
 have C2:=am_ (fun W=>name_May_c.calls a0_4 b4 W (by unfold name_May_c.f;rw [if_pos (by omega),h4]))
 have C3:=am_ (fun x W=>lease_Time_c.calls x (decide (0≤x∧x≤1099511627776)) W rfl)
 have BK:=am_ (blk_new w (.cells #[.int .i64 a0_0,.int .i64 a0_1,.string a0_2,.int .i64 a0_3,.string a0_4,.bool a0_5] 44))
 have HB:=am_ (Below.refl w.heap.size w)
 replace HR:=am_ HR
 clear h hs h1 h4
 go_enter Tryz.func70,Tryz.ntmps70
 go_wp2_with (first
  | (go_at_call 85;(with_reducible refine (C1.out _ (by (with_reducible repeat (first|exact BK.out|refine k2_ ?_ _|refine k3_ ?_|refine k1_ ?_ _)))).mono ?_);rintro e w1 ⟨rfl,hb2⟩;replace BK:=am_ (kb_ (show _ from (by (with_reducible repeat (first|exact BK.out|refine k2_ ?_ _|refine k3_ ?_|refine k1_ ?_ _)))) hb2);replace HB:=am_ (bt_ (show Below w.heap.size w _ by repeat (with_reducible first|exact HB.out|apply p3_|apply p1_|apply p2_)) hb2);clear hb2;have u0:=bc_ BK.out 0;have u1:=bc_ BK.out 1;have u2:=bc_ BK.out 2;have u3:=bc_ BK.out 3;have u4:=bc_ BK.out 4;have u5:=bc_ BK.out 5)
  | (go_at_call 42;(with_reducible refine (C3.out _ _).mono ?_);rintro e w2 ⟨rfl,⟨nd,rfl⟩⟩)
  | (go_at_call 44;(with_reducible refine (C2.out _).mono ?_);rintro e w3 ⟨rfl,⟨nd,rfl⟩⟩))
 all_goals (try go_ret)
 all_goals refine ⟨ret_bool ?_,?_⟩
 all_goals first
  | ((repeat (with_reducible first|exact HB.out|apply p3_|apply p1_|apply p2_));done)
  | (rw [←HR.out];clear HR HB C1 C2 C3 BK;(try clear v0 v1 v2 v3 v4 v5);(try clear u0 u1 u2 u3 u4 u5);rw [Bool.eq_iff_iff];(simp_all;done))
  | (rw [←HR.out];clear HR HB C1 C2 C3 BK;simp_all<;>omega)

/-! ### table_May: function 41 -/
-- BY HAND
-- 70
def hostAheadT (l:List S44) (i:Nat):Option Int:=if i=0 then none else some (rd_T44 l ((i - 1:Nat):Int)).f0
def table_May.S (gl:Nat) (x0 x1:Int) (x2:ByteArray) (x3:Int) (x4:ByteArray) (x5:Bool) (pa:Addr) (y0:Int) (w':World):Prop:=w'.cell? ⟨gl,0,none⟩=some (.int .i64 x0)∧w'.cell? ⟨gl,1,none⟩=some (.int .i64 x1)∧w'.cell? ⟨gl,2,none⟩=some (.string x2)∧w'.cell? ⟨gl,3,none⟩=some (.int .i64 x3)∧w'.cell? ⟨gl,4,none⟩=some (.string x4)∧w'.cell? ⟨gl,5,none⟩=some (.bool x5)∧w'.cell? pa=some (.int .i64 y0)
theorem table_May.S_below {w w2:World} {gl:Nat} {x0 x1:Int} {x2:ByteArray} {x3:Int} {x4:ByteArray} {x5:Bool} {pa:Addr} {y0:Int} (h:table_May.S gl x0 x1 x2 x3 x4 x5 pa y0 w) (hb:Below w.heap.size w w2):table_May.S gl x0 x1 x2 x3 x4 x5 pa y0 w2:=by
 obtain ⟨s0,s1,s2,s3,s4,s5,s6⟩:=h
 exact ⟨(hb.cell (wb_ _ _ s0)).trans s0,(hb.cell (wb_ _ _ s1)).trans s1,(hb.cell (wb_ _ _ s2)).trans s2,(hb.cell (wb_ _ _ s3)).trans s3,(hb.cell (wb_ _ _ s4)).trans s4,(hb.cell (wb_ _ _ s5)).trans s5,(hb.cell (wb_ _ _ s6)).trans s6⟩
def table_May_c.f (l0:List S44):Option Bool:=if tabFit l0 then some (tableB l0) else none
theorem table_May_c.calls (A0:Option Addr) (c0:Nat) (l0:List S44) (r:Bool) (w:World) (hr0:Kd.C k44 w A0 l0.length l0) (hc0:l0.length≤c0) (h:table_May_c.f l0=some r) :
  Calls Tryz.prog 41 #[.slice A0 l0.length c0] w fun e w'=>e=.returned (.bool r)∧Below w.heap.size w w':=by
 unfold table_May_c.f at h
 by_cases hs:tabFit l0
 rotate_left
 ·rw [if_neg hs] at h
  cases h
 rw [if_pos hs] at h
 have HT:=am_ (show (goTab (hostAheadT l0 (0:Int).toNat) (l0.drop (0:Int).toNat) && decide (l0.length≤8))=r from e5_ h)
 have hl:=hs.1
 have HX:=am_ hs.2
 have HR:=am_ hr0
 have HB:=am_ (Below.refl w.heap.size w)
 clear h hs hr0 hc0
 go_enter Tryz.func41,Tryz.ntmps41
 go_wp2
 go_loopg [7] l0.length (fun d v w'=>∃ i:Int,0≤i∧i.toNat+d=l0.length∧v=.int .i64 i∧Aside0 (Below w.heap.size w w')∧Aside0 ((goTab (hostAheadT l0 i.toNat) (l0.drop i.toNat) && decide (l0.length≤8))=r))
 case atStart=>exact ⟨0,by omega,by simp,rfl,HB,HT⟩
 case round =>
  clear HB HT
  obtain ⟨i,hi0,hd,rfl,HB,HT⟩:=hrel
  by_cases hlt:i < (l0.length:Int)
  ·obtain ⟨ad,e1,hw0,hw1,hw2,hw3,hw4,hw5⟩:=at_T44 HR.out i hi0 hlt
   cases e1
   have hx0:=(HB.out.cell (wb_ w _ hw0)).trans hw0;have hx1:=(HB.out.cell (wb_ w _ hw1)).trans hw1;have hx2:=(HB.out.cell (wb_ w _ hw2)).trans hw2;have hx3:=(HB.out.cell (wb_ w _ hw3)).trans hw3;have hx4:=(HB.out.cell (wb_ w _ hw4)).trans hw4;have hx5:=(HB.out.cell (wb_ w _ hw5)).trans hw5
   have hd1:=dropLease l0 i hi0 hlt
   have hsz:=HX.out _ hd1.2
   have hst:=HT.out
   rw [hd1.1] at hst
   have hnx:hostAheadT l0 (i.toNat+1)=some (rd_T44 l0 i).f0:=by
    unfold hostAheadT
    rw [if_neg (by omega),Nat.add_sub_cancel,Int.toNat_of_nonneg hi0]
   have hi2:(i+1).toNat=i.toNat+1:=by omega
   have hpv:¬ i=0→∃ j y,wrap64 (i - 1)=j∧0≤j∧j < (l0.length:Int)∧hostAheadT l0 i.toNat=some y∧w.cell? (ad.add (j.toNat * 6))=some (.int .i64 y):=by
    intro h0
    have h1:wrap64 (i - 1)=i - 1:=by unfold wrap64;omega
    obtain ⟨ad2,e2,hy0,_⟩:=at_T44 HR.out (i - 1) (by omega) (by omega)
    cases e2
    refine ⟨i - 1,_,h1,by omega,by omega,?_,hy0⟩
    unfold hostAheadT
    rw [if_neg (by omega),show ((i.toNat - 1:Nat):Int)=i - 1 by omega]
   generalize rd_T44 l0 i=x at hw0 hw1 hw2 hw3 hw4 hw5 hx0 hx1 hx2 hx3 hx4 hx5 hsz hst hnx
   clear hd1 HT
   obtain ⟨x0,x1,x2,x3,x4,x5⟩:=x
   simp only at hw0 hw1 hw2 hw3 hw4 hw5 hx0 hx1 hx2 hx3 hx4 hx5 hsz hst hnx
   obtain ⟨b1,h1⟩:∃ b,leaseB x0 x1 x2 x3 x4 x5=b:=⟨_,rfl⟩
   have hst2:((b1 && (above (hostAheadT l0 i.toNat) x0 && goTab (some x0) (l0.drop (i.toNat+1)))) && decide (l0.length≤8))=r:=by rw [←h1];exact hst
   rw [←hnx,←hi2] at hst2
   clear hst hnx
   have CM:=am_ (fun W=>lease_May.calls x0 x1 x2 x3 x4 x5 b1 W (by unfold lease_May.f;rw [if_pos hsz,h1]))
   have H1:=am_ (show 0≤i+1 by omega)
   have H2:=am_ (show (i+1).toNat+(l0.length - (i.toNat+1))=l0.length by omega)
   have H3:=am_ (show l0.length - (i.toNat+1) < gk by omega)
   have H4:=am_ (show IntKind.i64.wrap (i+1)=i+1 from (i64_w _).trans (by unfold wrap64;omega))
   have H6:=am_ (fun (h:i=0)=>show i.toNat=0 by rw [h];rfl)
   have H5:=am_ (fun (h:¬ i=0)=>show 0 < i by omega)
   replace hi0:=am_ hi0
   replace hd:=am_ hd
   replace hl:=am_ hl
   have clt:=decide_eq_true hlt
   have cle:=decide_eq_true hi0.out
   have plt:=eq_true hlt
   have ple:=eq_true hi0.out
   clear h1 hlt
   cases b1 with
   | false =>
    have HF:=am_ (show false=r by rw [←hst2];rfl)
    clear hst2 hpv hi2
    go_wp2_with fail
    have HB1:=am_ (below_drew (p3_ HB.out (.cells #[.int .i64 x0,.int .i64 x1,.string x2,.int .i64 x3,.string x4,.bool x5] 44)))
    have BX1:=am_ (k3_ (blk_new wr (.cells #[.int .i64 x0,.int .i64 x1,.string x2,.int .i64 x3,.string x4,.bool x5] 44)))
    refine seqS (S:=table_May.S wr.heap.size x0 x1 x2 x3 x4 x5 ⟨wr.heap.size,0,none⟩ x0) 18 (by kernel_rfl) rfl rfl (by unfold table_May.S;exact ⟨(bc_ BX1.out 0).trans rfl,(bc_ BX1.out 1).trans rfl,(bc_ BX1.out 2).trans rfl,(bc_ BX1.out 3).trans rfl,(bc_ BX1.out 4).trans rfl,(bc_ BX1.out 5).trans rfl,(bc_ BX1.out 0).trans rfl⟩) ?_
    intro hHeld
    clear hx0 hx1 hx2 hx3 hx4 hx5 hw0 hw1 hw2 hw3 hw4 hw5 HB BX1
    iterate 1 first|(refine seqP (v:=?_) (a':=?_) rfl rfl (by kernel_rfl) (fun _ _ _ h=>h) (Or.inl ⟨by kernel_rfl,?_⟩) ?_ ?_;rotate_left;(intro w';go_simp;with_reducible rfl);rotate_left;(simp only [Act.put,sa_,sb_,sc_,i64_w,i32_w];rfl))|(refine seqL (v:=?_) (a':=?_) rfl rfl (by kernel_rfl) (fun _ _ _ h=>h) (Or.inl ⟨by kernel_rfl,?_⟩) hHeld ?_ ?_;rotate_left;(rintro w' ⟨s0,s1,s2,s3,s4,s5,s6⟩;go_simp;with_reducible rfl);rotate_left;(simp only [Act.put,sa_,sb_,sc_,i64_w,i32_w];rfl))
    refine seqG (fn:=Tryz.f70) rfl rfl (by kernel_rfl) rfl Tryz.func70 (by kernel_rfl) (by kernel_rfl) #[.agg #[.int .i64 x0,.int .i64 x1,.string x2,.int .i64 x3,.string x4,.bool x5]] (by kernel_rfl) (by (try simp only [List.map_toArray,List.map_cons,List.map_nil]);first|done|rfl) ?_
    with_reducible refine (CM.out _).mono ?_
    rintro e wg ⟨rfl,hb2⟩
    have HB2:=am_ (bt_ HB1.out hb2)
    refine ⟨_,rfl,table_May.S_below hHeld hb2,fun hHeld=>⟨?_,?_,?_⟩⟩
    rotate_left
    ·simp only [Act.put,sa_,sb_,sc_,i64_w,i32_w]
     rfl
    clear hb2 HB1 CM
    iterate 2 first|(refine seqP (v:=?_) (a':=?_) rfl rfl (by kernel_rfl) (fun _ _ _ h=>h) (Or.inl ⟨by kernel_rfl,?_⟩) ?_ ?_;rotate_left;(intro w';go_simp;with_reducible rfl);rotate_left;(simp only [Act.put,sa_,sb_,sc_,i64_w,i32_w];rfl))|(refine seqL (v:=?_) (a':=?_) rfl rfl (by kernel_rfl) (fun _ _ _ h=>h) (Or.inl ⟨by kernel_rfl,?_⟩) hHeld ?_ ?_;rotate_left;(rintro w' ⟨s0,s1,s2,s3,s4,s5,s6⟩;go_simp;with_reducible rfl);rotate_left;(simp only [Act.put,sa_,sb_,sc_,i64_w,i32_w];rfl))
    iterate 13 (refine seqP (v:=undef) (a':=?_) rfl rfl (by kernel_rfl) (fun _ _ _ h=>h) (Or.inr ⟨by kernel_rfl,rfl⟩) ?_ ?_;rotate_left;(simp only [Act.put,sa_,sb_,sc_,i64_w,i32_w];rfl))
    iterate 1 first|(refine seqP (v:=?_) (a':=?_) rfl rfl (by kernel_rfl) (fun _ _ _ h=>h) (Or.inl ⟨by kernel_rfl,?_⟩) ?_ ?_;rotate_left;(intro w';go_simp;with_reducible rfl);rotate_left;(simp only [Act.put,sa_,sb_,sc_,i64_w,i32_w];rfl))|(refine seqL (v:=?_) (a':=?_) rfl rfl (by kernel_rfl) (fun _ _ _ h=>h) (Or.inl ⟨by kernel_rfl,?_⟩) hHeld ?_ ?_;rotate_left;(rintro w' ⟨s0,s1,s2,s3,s4,s5,s6⟩;go_simp;with_reducible rfl);rotate_left;(simp only [Act.put,sa_,sb_,sc_,i64_w,i32_w];rfl))
    refine seqE (by kernel_rfl) ?_
    go_wp2
    go_ret
    exact ⟨ret_bool (HF.out),HB2.out⟩
   | true =>
   rw [Bool.true_and] at hst2
   by_cases hp:i=0
   ·have cp:decide (0 < i)=false:=decide_eq_false (by omega)
    have HN:=am_ (show (goTab (hostAheadT l0 (i+1).toNat) (l0.drop (i+1).toNat) && decide (l0.length≤8))=r by rw [←hst2,show hostAheadT l0 i.toNat=none by unfold hostAheadT;rw [if_pos (H6.out hp)],show above none x0=true from rfl,Bool.true_and])
    replace hp:=am_ hp
    clear hst2 hpv hi2
    go_wp2_with fail
    have HB1:=am_ (below_drew (p3_ HB.out (.cells #[.int .i64 x0,.int .i64 x1,.string x2,.int .i64 x3,.string x4,.bool x5] 44)))
    have BX1:=am_ (k3_ (blk_new wr (.cells #[.int .i64 x0,.int .i64 x1,.string x2,.int .i64 x3,.string x4,.bool x5] 44)))
    refine seqS (S:=table_May.S wr.heap.size x0 x1 x2 x3 x4 x5 ⟨wr.heap.size,0,none⟩ x0) 18 (by kernel_rfl) rfl rfl (by unfold table_May.S;exact ⟨(bc_ BX1.out 0).trans rfl,(bc_ BX1.out 1).trans rfl,(bc_ BX1.out 2).trans rfl,(bc_ BX1.out 3).trans rfl,(bc_ BX1.out 4).trans rfl,(bc_ BX1.out 5).trans rfl,(bc_ BX1.out 0).trans rfl⟩) ?_
    intro hHeld
    clear hx0 hx1 hx2 hx3 hx4 hx5 hw0 hw1 hw2 hw3 hw4 hw5 HB BX1
    iterate 1 first|(refine seqP (v:=?_) (a':=?_) rfl rfl (by kernel_rfl) (fun _ _ _ h=>h) (Or.inl ⟨by kernel_rfl,?_⟩) ?_ ?_;rotate_left;(intro w';go_simp;with_reducible rfl);rotate_left;(simp only [Act.put,sa_,sb_,sc_,i64_w,i32_w];rfl))|(refine seqL (v:=?_) (a':=?_) rfl rfl (by kernel_rfl) (fun _ _ _ h=>h) (Or.inl ⟨by kernel_rfl,?_⟩) hHeld ?_ ?_;rotate_left;(rintro w' ⟨s0,s1,s2,s3,s4,s5,s6⟩;go_simp;with_reducible rfl);rotate_left;(simp only [Act.put,sa_,sb_,sc_,i64_w,i32_w];rfl))
    refine seqG (fn:=Tryz.f70) rfl rfl (by kernel_rfl) rfl Tryz.func70 (by kernel_rfl) (by kernel_rfl) #[.agg #[.int .i64 x0,.int .i64 x1,.string x2,.int .i64 x3,.string x4,.bool x5]] (by kernel_rfl) (by (try simp only [List.map_toArray,List.map_cons,List.map_nil]);first|done|rfl) ?_
    with_reducible refine (CM.out _).mono ?_
    rintro e wg ⟨rfl,hb2⟩
    have HB2:=am_ (bt_ HB1.out hb2)
    refine ⟨_,rfl,table_May.S_below hHeld hb2,fun hHeld=>⟨?_,?_,?_⟩⟩
    rotate_left
    ·simp only [Act.put,sa_,sb_,sc_,i64_w,i32_w]
     rfl
    clear hb2 HB1 CM
    iterate 2 first|(refine seqP (v:=?_) (a':=?_) rfl rfl (by kernel_rfl) (fun _ _ _ h=>h) (Or.inl ⟨by kernel_rfl,?_⟩) ?_ ?_;rotate_left;(intro w';go_simp;with_reducible rfl);rotate_left;(simp only [Act.put,sa_,sb_,sc_,i64_w,i32_w];rfl))|(refine seqL (v:=?_) (a':=?_) rfl rfl (by kernel_rfl) (fun _ _ _ h=>h) (Or.inl ⟨by kernel_rfl,?_⟩) hHeld ?_ ?_;rotate_left;(rintro w' ⟨s0,s1,s2,s3,s4,s5,s6⟩;go_simp;with_reducible rfl);rotate_left;(simp only [Act.put,sa_,sb_,sc_,i64_w,i32_w];rfl))
    iterate 3 first|(refine seqP (v:=?_) (a':=?_) rfl rfl (by kernel_rfl) (fun _ _ _ h=>h) (Or.inl ⟨by kernel_rfl,?_⟩) ?_ ?_;rotate_left;(intro w';go_simp;with_reducible rfl);rotate_left;(simp only [Act.put,sa_,sb_,sc_,i64_w,i32_w];rfl))|(refine seqL (v:=?_) (a':=?_) rfl rfl (by kernel_rfl) (fun _ _ _ h=>h) (Or.inl ⟨by kernel_rfl,?_⟩) hHeld ?_ ?_;rotate_left;(rintro w' ⟨s0,s1,s2,s3,s4,s5,s6⟩;go_simp;with_reducible rfl);rotate_left;(simp only [Act.put,sa_,sb_,sc_,i64_w,i32_w];rfl))
    iterate 9 (refine seqP (v:=undef) (a':=?_) rfl rfl (by kernel_rfl) (fun _ _ _ h=>h) (Or.inr ⟨by kernel_rfl,rfl⟩) ?_ ?_;rotate_left;(simp only [Act.put,sa_,sb_,sc_,i64_w,i32_w];rfl))
    iterate 2 first|(refine seqP (v:=?_) (a':=?_) rfl rfl (by kernel_rfl) (fun _ _ _ h=>h) (Or.inl ⟨by kernel_rfl,?_⟩) ?_ ?_;rotate_left;(intro w';go_simp;with_reducible rfl);rotate_left;(simp only [Act.put,sa_,sb_,sc_,i64_w,i32_w];rfl))|(refine seqL (v:=?_) (a':=?_) rfl rfl (by kernel_rfl) (fun _ _ _ h=>h) (Or.inl ⟨by kernel_rfl,?_⟩) hHeld ?_ ?_;rotate_left;(rintro w' ⟨s0,s1,s2,s3,s4,s5,s6⟩;go_simp;with_reducible rfl);rotate_left;(simp only [Act.put,sa_,sb_,sc_,i64_w,i32_w];rfl))
    refine seqE (by kernel_rfl) ?_
    go_wp2
    go_roundg (l0.length - (i.toNat+1))
    case measure=>exact H3.out
    case rel=>exact ⟨i+1,H1.out,H2.out,by first|rfl|(rw [show wrap64 (i+1)=i+1 from (i64_w _).symm.trans H4.out]),HB2,HN⟩
   ·obtain ⟨j,y,hj,hj0,hj1,hay,hwy⟩:=hpv hp
    have cp:decide (0 < i)=true:=decide_eq_true (H5.out hp)
    have hjw:IntKind.i64.wrap (i - 1)=j:=(i64_w _).trans hj
    have pj0:=eq_true hj0
    have pj1:=eq_true hj1
    have cj0:=decide_eq_true hj0
    have cj1:=decide_eq_true hj1
    rw [hay] at hst2
    replace hp:=am_ hp
    replace hj0:=am_ hj0
    replace hj1:=am_ hj1
    by_cases hc:x0≤y
    ·have cc:decide (x0≤y)=true:=decide_eq_true hc
     have HF:=am_ (show false=r by rw [←hst2,show above (some y) x0=false from decide_eq_false (by omega)];simp)
     clear hst2 hpv hi2 hc hay
     go_wp2_with fail
     have HB1:=am_ (below_drew (p3_ HB.out (.cells #[.int .i64 x0,.int .i64 x1,.string x2,.int .i64 x3,.string x4,.bool x5] 44)))
     have BX1:=am_ (k3_ (blk_new wr (.cells #[.int .i64 x0,.int .i64 x1,.string x2,.int .i64 x3,.string x4,.bool x5] 44)))
     refine seqS (S:=table_May.S wr.heap.size x0 x1 x2 x3 x4 x5 (ad.add (j.toNat * 6)) y) 18 (by kernel_rfl) rfl rfl (by unfold table_May.S;exact ⟨(bc_ BX1.out 0).trans rfl,(bc_ BX1.out 1).trans rfl,(bc_ BX1.out 2).trans rfl,(bc_ BX1.out 3).trans rfl,(bc_ BX1.out 4).trans rfl,(bc_ BX1.out 5).trans rfl,(HB1.out.cell (wb_ w _ hwy)).trans hwy⟩) ?_
     intro hHeld
     clear hx0 hx1 hx2 hx3 hx4 hx5 hw0 hw1 hw2 hw3 hw4 hw5 HB BX1
     iterate 1 first|(refine seqP (v:=?_) (a':=?_) rfl rfl (by kernel_rfl) (fun _ _ _ h=>h) (Or.inl ⟨by kernel_rfl,?_⟩) ?_ ?_;rotate_left;(intro w';go_simp;with_reducible rfl);rotate_left;(simp only [Act.put,sa_,sb_,sc_,i64_w,i32_w];rfl))|(refine seqL (v:=?_) (a':=?_) rfl rfl (by kernel_rfl) (fun _ _ _ h=>h) (Or.inl ⟨by kernel_rfl,?_⟩) hHeld ?_ ?_;rotate_left;(rintro w' ⟨s0,s1,s2,s3,s4,s5,s6⟩;go_simp;with_reducible rfl);rotate_left;(simp only [Act.put,sa_,sb_,sc_,i64_w,i32_w];rfl))
     refine seqG (fn:=Tryz.f70) rfl rfl (by kernel_rfl) rfl Tryz.func70 (by kernel_rfl) (by kernel_rfl) #[.agg #[.int .i64 x0,.int .i64 x1,.string x2,.int .i64 x3,.string x4,.bool x5]] (by kernel_rfl) (by (try simp only [List.map_toArray,List.map_cons,List.map_nil]);first|done|rfl) ?_
     with_reducible refine (CM.out _).mono ?_
     rintro e wg ⟨rfl,hb2⟩
     have HB2:=am_ (bt_ HB1.out hb2)
     refine ⟨_,rfl,table_May.S_below hHeld hb2,fun hHeld=>⟨?_,?_,?_⟩⟩
     rotate_left
     ·simp only [Act.put,sa_,sb_,sc_,i64_w,i32_w]
      rfl
     clear hb2 HB1 CM
     iterate 2 first|(refine seqP (v:=?_) (a':=?_) rfl rfl (by kernel_rfl) (fun _ _ _ h=>h) (Or.inl ⟨by kernel_rfl,?_⟩) ?_ ?_;rotate_left;(intro w';go_simp;with_reducible rfl);rotate_left;(simp only [Act.put,sa_,sb_,sc_,i64_w,i32_w];rfl))|(refine seqL (v:=?_) (a':=?_) rfl rfl (by kernel_rfl) (fun _ _ _ h=>h) (Or.inl ⟨by kernel_rfl,?_⟩) hHeld ?_ ?_;rotate_left;(rintro w' ⟨s0,s1,s2,s3,s4,s5,s6⟩;go_simp;with_reducible rfl);rotate_left;(simp only [Act.put,sa_,sb_,sc_,i64_w,i32_w];rfl))
     iterate 14 first|(refine seqP (v:=?_) (a':=?_) rfl rfl (by kernel_rfl) (fun _ _ _ h=>h) (Or.inl ⟨by kernel_rfl,?_⟩) ?_ ?_;rotate_left;(intro w';go_simp;with_reducible rfl);rotate_left;(simp only [Act.put,sa_,sb_,sc_,i64_w,i32_w];rfl))|(refine seqL (v:=?_) (a':=?_) rfl rfl (by kernel_rfl) (fun _ _ _ h=>h) (Or.inl ⟨by kernel_rfl,?_⟩) hHeld ?_ ?_;rotate_left;(rintro w' ⟨s0,s1,s2,s3,s4,s5,s6⟩;go_simp;with_reducible rfl);rotate_left;(simp only [Act.put,sa_,sb_,sc_,i64_w,i32_w];rfl))
     refine seqE (by kernel_rfl) ?_
     go_wp2
     go_ret
     exact ⟨ret_bool (HF.out),HB2.out⟩
    ·have cc:decide (x0≤y)=false:=decide_eq_false hc
     have HN:=am_ (show (goTab (hostAheadT l0 (i+1).toNat) (l0.drop (i+1).toNat) && decide (l0.length≤8))=r by rw [←hst2,show above (some y) x0=true from decide_eq_true (by omega),Bool.true_and])
     clear hst2 hpv hi2 hc hay
     go_wp2_with fail
     have HB1:=am_ (below_drew (p3_ HB.out (.cells #[.int .i64 x0,.int .i64 x1,.string x2,.int .i64 x3,.string x4,.bool x5] 44)))
     have BX1:=am_ (k3_ (blk_new wr (.cells #[.int .i64 x0,.int .i64 x1,.string x2,.int .i64 x3,.string x4,.bool x5] 44)))
     refine seqS (S:=table_May.S wr.heap.size x0 x1 x2 x3 x4 x5 (ad.add (j.toNat * 6)) y) 18 (by kernel_rfl) rfl rfl (by unfold table_May.S;exact ⟨(bc_ BX1.out 0).trans rfl,(bc_ BX1.out 1).trans rfl,(bc_ BX1.out 2).trans rfl,(bc_ BX1.out 3).trans rfl,(bc_ BX1.out 4).trans rfl,(bc_ BX1.out 5).trans rfl,(HB1.out.cell (wb_ w _ hwy)).trans hwy⟩) ?_
     intro hHeld
     clear hx0 hx1 hx2 hx3 hx4 hx5 hw0 hw1 hw2 hw3 hw4 hw5 HB BX1
     iterate 1 first|(refine seqP (v:=?_) (a':=?_) rfl rfl (by kernel_rfl) (fun _ _ _ h=>h) (Or.inl ⟨by kernel_rfl,?_⟩) ?_ ?_;rotate_left;(intro w';go_simp;with_reducible rfl);rotate_left;(simp only [Act.put,sa_,sb_,sc_,i64_w,i32_w];rfl))|(refine seqL (v:=?_) (a':=?_) rfl rfl (by kernel_rfl) (fun _ _ _ h=>h) (Or.inl ⟨by kernel_rfl,?_⟩) hHeld ?_ ?_;rotate_left;(rintro w' ⟨s0,s1,s2,s3,s4,s5,s6⟩;go_simp;with_reducible rfl);rotate_left;(simp only [Act.put,sa_,sb_,sc_,i64_w,i32_w];rfl))
     refine seqG (fn:=Tryz.f70) rfl rfl (by kernel_rfl) rfl Tryz.func70 (by kernel_rfl) (by kernel_rfl) #[.agg #[.int .i64 x0,.int .i64 x1,.string x2,.int .i64 x3,.string x4,.bool x5]] (by kernel_rfl) (by (try simp only [List.map_toArray,List.map_cons,List.map_nil]);first|done|rfl) ?_
     with_reducible refine (CM.out _).mono ?_
     rintro e wg ⟨rfl,hb2⟩
     have HB2:=am_ (bt_ HB1.out hb2)
     refine ⟨_,rfl,table_May.S_below hHeld hb2,fun hHeld=>⟨?_,?_,?_⟩⟩
     rotate_left
     ·simp only [Act.put,sa_,sb_,sc_,i64_w,i32_w]
      rfl
     clear hb2 HB1 CM
     iterate 2 first|(refine seqP (v:=?_) (a':=?_) rfl rfl (by kernel_rfl) (fun _ _ _ h=>h) (Or.inl ⟨by kernel_rfl,?_⟩) ?_ ?_;rotate_left;(intro w';go_simp;with_reducible rfl);rotate_left;(simp only [Act.put,sa_,sb_,sc_,i64_w,i32_w];rfl))|(refine seqL (v:=?_) (a':=?_) rfl rfl (by kernel_rfl) (fun _ _ _ h=>h) (Or.inl ⟨by kernel_rfl,?_⟩) hHeld ?_ ?_;rotate_left;(rintro w' ⟨s0,s1,s2,s3,s4,s5,s6⟩;go_simp;with_reducible rfl);rotate_left;(simp only [Act.put,sa_,sb_,sc_,i64_w,i32_w];rfl))
     iterate 14 first|(refine seqP (v:=?_) (a':=?_) rfl rfl (by kernel_rfl) (fun _ _ _ h=>h) (Or.inl ⟨by kernel_rfl,?_⟩) ?_ ?_;rotate_left;(intro w';go_simp;with_reducible rfl);rotate_left;(simp only [Act.put,sa_,sb_,sc_,i64_w,i32_w];rfl))|(refine seqL (v:=?_) (a':=?_) rfl rfl (by kernel_rfl) (fun _ _ _ h=>h) (Or.inl ⟨by kernel_rfl,?_⟩) hHeld ?_ ?_;rotate_left;(rintro w' ⟨s0,s1,s2,s3,s4,s5,s6⟩;go_simp;with_reducible rfl);rotate_left;(simp only [Act.put,sa_,sb_,sc_,i64_w,i32_w];rfl))
     refine seqE (by kernel_rfl) ?_
     go_wp2
     go_roundg (l0.length - (i.toNat+1))
     case measure=>exact H3.out
     case rel=>exact ⟨i+1,H1.out,H2.out,by first|rfl|(rw [show wrap64 (i+1)=i+1 from (i64_w _).symm.trans H4.out]),HB2,HN⟩
  ·have HF:=am_ (show decide (l0.length≤8)=r by have h1:=HT.out;rw [List.drop_eq_nil_of_le (by omega)] at h1;rw [←h1,show goTab (hostAheadT l0 i.toNat) []=true from rfl,Bool.true_and])
   by_cases h8:l0.length≤8
   ·have c8:decide ((l0.length:Int)≤8)=true:=decide_eq_true (by omega)
    have HG:=am_ (show true=r by rw [←HF.out];exact (decide_eq_true h8).symm)
    clear HT HF
    go_wp2
    go_ret
    exact ⟨ret_bool HG.out,HB.out⟩
   ·have c8:decide ((l0.length:Int)≤8)=false:=decide_eq_false (by omega)
    have HG:=am_ (show false=r by rw [←HF.out];exact (decide_eq_false h8).symm)
    clear HT HF
    go_wp2
    go_ret
    exact ⟨ret_bool HG.out,HB.out⟩

/-! ### pick_May: function 15 -/
-- BY HAND
-- 40 41 42 43
theorem pick_May.calls (g:Nat) (a0_0:Int) (a0_1:Int) (A0_2:Option Addr) (c0_2:Nat) (l0_2:List Int) (A0_3:Option Addr) (c0_3:Nat) (l0_3:List S95) (a0_4:Int) (a0_5:ByteArray) (A0_6:Option Addr) (c0_6:Nat) (l0_6:List S93) (A1:Option Addr) (c1:Nat) (l1:List S44) (a2:Int) (a3:ByteArray) (r:Bool) (w:World) (bk:w.heap[g]?=some (.cells #[.int .i64 a0_0,.int .i64 a0_1,.slice A0_2 l0_2.length c0_2,.slice A0_3 l0_3.length c0_3,.int .i64 a0_4,.string a0_5,.slice A0_6 l0_6.length c0_6] 26)) (hr0_2:Kd.C (Kd.int .i64) w A0_2 l0_2.length l0_2) (hc0_2:l0_2.length≤c0_2) (hr0_3:Kd.C k95 w A0_3 l0_3.length l0_3) (hc0_3:l0_3.length≤c0_3) (hr0_6:Kd.C k93 w A0_6 l0_6.length l0_6) (hc0_6:l0_6.length≤c0_6) (hr1:Kd.C k44 w A1 l1.length l1) (hc1:l1.length≤c1) (hs:pickFit l0_2 l0_3 a0_5 l0_6 l1) (h:pickMayB a0_0 a0_1 l0_2 l0_3 a0_4 a0_5 l0_6 l1 a2 a3=r) :
  Calls Tryz.prog 15 #[.pointer (some ⟨g,0,none⟩),.slice A1 l1.length c1,.int .i64 a2,.string a3] w fun e w'=>e=.returned (.bool r)∧Below w.heap.size w w':=by
 unfold pickMayB at h
 obtain ⟨b1,h1⟩:∃ b,confB a0_0 a0_1 l0_2 l0_3 a0_4 a0_5 l0_6=b:=⟨_,rfl⟩
 obtain ⟨b2,h2⟩:∃ b,tableB l1=b:=⟨_,rfl⟩
 obtain ⟨b3,h3⟩:∃ b,decide (0≤a2∧a2≤1099511627776)=b:=⟨_,rfl⟩
 obtain ⟨b4,h4⟩:∃ b,clientB a3=b:=⟨_,rfl⟩
 rw [h1,h2,h3,h4] at h
 have C1:=am_ (fun W (hb:Below w.heap.size w W)=>conf_May.calls a0_0 a0_1 A0_2 c0_2 l0_2 A0_3 c0_3 l0_3 a0_4 a0_5 A0_6 c0_6 l0_6 b1 W (c4_ hr0_2 hb) hc0_2 (c4_ hr0_3 hb) hc0_3 (c4_ hr0_6 hb) hc0_6 (by unfold conf_May.f;rw [if_pos hs.1,h1]))
 have C2:=am_ (fun W (hb:Below w.heap.size w W)=>table_May_c.calls A1 c1 l1 b2 W (c4_ hr1 hb) hc1 (by unfold table_May_c.f;rw [if_pos hs.2,h2]))
 have C3:=am_ (fun W=>lease_Time_c.calls a2 b3 W (by unfold lease_Time_c.f;rw [h3]))
 have C4:=am_ (fun W=>ident_May_c.calls a3 b4 W (by unfold ident_May_c.f;rw [h4]))
 have HR:=am_ h
 have HB:=am_ (Below.refl w.heap.size w)
 have u0:=bc_ (am_ bk).out 0
 have u1:=bc_ (am_ bk).out 1
 have u2:=bc_ (am_ bk).out 2
 have u3:=bc_ (am_ bk).out 3
 have u4:=bc_ (am_ bk).out 4
 have u5:=bc_ (am_ bk).out 5
 have u6:=bc_ (am_ bk).out 6
 clear h h1 h2 h3 h4 bk hr0_2 hr0_3 hr0_6 hc0_2 hc0_3 hc0_6 hr1 hc1 hs
 go_enter Tryz.func15,Tryz.ntmps15
 go_wp2_with (first
  | (go_at_call 40;(with_reducible refine (C1.out _ (by repeat (with_reducible first|exact HB.out|apply p3_|apply p1_|apply p2_))).mono ?_);rintro e w1 ⟨rfl,hb2⟩;replace HB:=am_ (bt_ (show Below w.heap.size w _ from (by repeat (with_reducible first|exact HB.out|apply p3_|apply p1_|apply p2_))) hb2);clear hb2;clear u0 u1 u2 u3 u4 u5 u6)
  | (go_at_call 41;(with_reducible refine (C2.out _ (by repeat (with_reducible first|exact HB.out|apply p3_|apply p1_|apply p2_))).mono ?_);rintro e w2 ⟨rfl,hb2⟩;replace HB:=am_ (bt_ (show Below w.heap.size w _ from (by repeat (with_reducible first|exact HB.out|apply p3_|apply p1_|apply p2_))) hb2);clear hb2)
  | (go_at_call 42;(with_reducible refine (C3.out _).mono ?_);rintro e wq ⟨rfl,⟨nd,rfl⟩⟩)
  | (go_at_call 43;(with_reducible refine (C4.out _).mono ?_);rintro e wq ⟨rfl,⟨nd,rfl⟩⟩))
 all_goals (try go_ret)
 all_goals refine ⟨ret_bool ?_,?_⟩
 all_goals first
  | ((repeat (with_reducible first|exact HB.out|apply p3_|apply p1_|apply p2_));done)
  | (rw [←HR.out];clear HR HB C1 C2 C3 C4;rw [Bool.eq_iff_iff];(simp_all;done))
  | (rw [←HR.out];clear HR HB C1 C2 C3 C4;simp_all)

/-! ### lease_Early: function 16 -/
def lease_Early.f (a0:Int):Option (Bool):=(lease_Time_c.f a0).bind fun t141=>(if t141=true then (some (decide (a0≤1099510579200))) else (some false))
theorem lease_Early.calls (a0:Int) (r:Bool) (w:World) (h:lease_Early.f a0=some r) :
  Calls Tryz.prog 16 #[.int .i64 a0] w fun e w'=>e=.returned (.bool r)∧Drawn0 w w':=by
 have H:((lease_Time_c.f a0).bind fun t141=>(if t141=true then (some (decide (a0≤1099510579200))) else (some false)))=some r:=h
 clear h
 replace H:=e4_ H
 obtain ⟨t141,A20,H⟩:=H
 replace H:(if t141=true then (some (decide (a0≤1099510579200))) else (some false))=some r:=H
 have A2:=am_ A20
 clear A20
 by_cases c3:t141=true
 ·subst c3
  have H1:(some (decide (a0≤1099510579200)))=some r:=by rw [if_pos rfl] at H;exact H
  clear H
  have H:=H1
  clear H1
  obtain rfl:=e5_ H
  go_enter Tryz.func16,Tryz.ntmps16
  go_wp2_with (first|((with_reducible refine gate_callee (f:=42) rfl ?_);refine goesL_ (some 4) rfl rfl Tryz.func42 (by kernel_rfl) rfl #[.int .i64 a0] rfl (by (try simp only [List.map_toArray,List.map_cons,List.map_nil]);first|done|rfl|(simp only [List.length_drop,List.length_take];rfl)) ?_;(with_reducible refine (lease_Time_c.calls a0 true _ A2.out).mono ?_);rintro e w' ⟨rfl,⟨nd,rfl⟩⟩;refine ⟨_,rfl,?_⟩))
  go_ret
  exact ⟨by first|rfl|(simp;done)|(simp [*];done),by repeat (first|exact Drawn0.refl _|apply Drawn0.step)⟩
 replace c3:=e3_ c3
 subst c3
 have H1:(some false)=some r:=by rw [if_neg (show ¬(false=true) by decide)] at H;exact H
 clear H
 have H:=H1
 clear H1
 obtain rfl:=e5_ H
 go_enter Tryz.func16,Tryz.ntmps16
 go_wp2_with (first|((with_reducible refine gate_callee (f:=42) rfl ?_);refine goesL_ (some 4) rfl rfl Tryz.func42 (by kernel_rfl) rfl #[.int .i64 a0] rfl (by (try simp only [List.map_toArray,List.map_cons,List.map_nil]);first|done|rfl|(simp only [List.length_drop,List.length_take];rfl)) ?_;(with_reducible refine (lease_Time_c.calls a0 false _ A2.out).mono ?_);rintro e w' ⟨rfl,⟨nd,rfl⟩⟩;refine ⟨_,rfl,?_⟩))
 go_ret
 exact ⟨by first|rfl|(simp;done)|(simp [*];done),by repeat (first|exact Drawn0.refl _|apply Drawn0.step)⟩

/-! ### lease_Early_c: function 16 -/
def lease_Early_c.f (a0:Int):Option Bool:=some (decide (0≤a0∧a0≤1099510579200))
theorem lease_Early_c.calls (a0:Int) (r:Bool) (w:World) (h:lease_Early_c.f a0=some r) :
  Calls Tryz.prog 16 #[.int .i64 a0] w fun e w'=>e=.returned (.bool r)∧Drawn0 w w':=by
 refine lease_Early.calls a0 r w ?_
 rw [←h]
 unfold lease_Early.f lease_Early_c.f lease_Time_c.f
 rw [Option.bind_some]
 by_cases q:0≤a0∧a0≤1099511627776
 ·rw [if_pos (decide_eq_true q)]
  congr 1
  rw [Bool.eq_iff_iff,decide_eq_true_eq,decide_eq_true_eq]
  omega
 ·rw [if_neg (by simpa using q)]
  congr 1
  symm
  rw [decide_eq_false_iff_not]
  omega

end Go.Proofs.YtibalpbkmgegnaaGreatDoor.PL
