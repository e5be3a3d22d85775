-- Made by wip/pr.py out of the translation (a turned copy of the kit's print; contracts by hand where said).
import Derived.Test.YtibalpbkmgegnaaGreatDoorPLx0
import Derived.Test.YtibalpbkmgegnaaGreatDoorPLx4
import Derived.Test.YtibalpbkmgegnaaGreatDoorPLx7
import Derived.Test.YtibalpbkmgegnaaGreatDoorPLx8
import Derived.Test.YtibalpbkmgegnaaGreatDoorPLx9
namespace Go.Proofs.YtibalpbkmgegnaaGreatDoor.PL
open Go.RowKit Go.Proofs.YtibalpbkmgegnaaGreatDoorW.PrintWords Go.Proofs.YtibalpbkmgegnaaGreatDoorW.PrintLast Go.Proofs.YtibalpbkmgegnaaGreatDoorW.PrintMore
-- shrunk
attribute [local go_sem] max2_int min2_int max_two min_two max_three min_three max_four min_four   -- for this text's walks alone
set_option linter.unusedVariables false
set_option linter.unusedSimpArgs false
set_option maxHeartbeats 8000000
set_option maxRecDepth 100000

/-! ### conf_find: function 75 -/
-- BY HAND
-- 40
theorem conf_find.calls (p:S95→Bool) (G:Nat) (lb:Array Value) (g:Nat) (a0_0:Int) (a0_1:Int) (A0_2:Option Addr) (c0_2:Nat) (l0_2:List Int) (A0_3:Option Addr) (c0_3:Nat) (l0_3:List S95) (a0_4:Int) (a0_5:ByteArray) (A0_6:Option Addr) (c0_6:Nat) (l0_6:List S93) (b:Bool) (w:World)
  (bk:w.heap[g]?=some (.cells #[.int .i64 a0_0,.int .i64 a0_1,.slice A0_2 l0_2.length c0_2,.slice A0_3 l0_3.length c0_3,.int .i64 a0_4,.string a0_5,.slice A0_6 l0_6.length c0_6] 26))
  (hr0_2:Kd.C (Kd.int .i64) w A0_2 l0_2.length l0_2) (hc0_2:l0_2.length≤c0_2) (hr0_3:Kd.C k95 w A0_3 l0_3.length l0_3) (hc0_3:l0_3.length≤c0_3) (hr0_6:Kd.C k93 w A0_6 l0_6.length l0_6) (hc0_6:l0_6.length≤c0_6) (h:conf_May.f a0_0 a0_1 l0_2 l0_3 a0_4 a0_5 l0_6=some b)
  (hs:l0_3.length≤5864062014805)
  (eg:∀ args w,(callFunc G args).run Tryz.prog w=.ok (.enter G args) w)
  (hp:∀ (W:World) (ad:Addr) (x:S95),Below w.heap.size w W→W.cell? ad=some (.string x.f0)→W.cell? ⟨ad.block,ad.off+1,none⟩=some (.int .i64 x.f1)→Calls Tryz.prog G (#[.pointer (some ad)] ++ lb) W fun e w'=>e=.returned (.bool (p x))∧Below W.heap.size W w') :
  Calls Tryz.prog 75 #[.pointer (some ⟨g,0,none⟩),.func (.func G) #[] lb] w fun e w'=>e=.returned (.tuple #[(.agg #[.string (foundN (findS p b l0_3)),.int .i64 (foundH (findS p b l0_3))]),.bool (foundIs (findS p b l0_3))])∧Below w.heap.size w w':=by
 have HR3:=am_ hr0_3
 have BG:=am_ bk
 have HP:=am_ hp
 have CM:=am_ (fun W (hb:Below w.heap.size w W)=>conf_May.calls a0_0 a0_1 A0_2 c0_2 l0_2 A0_3 c0_3 l0_3 a0_4 a0_5 A0_6 c0_6 l0_6 b W (c4_ hr0_2 hb) hc0_2 (c4_ hr0_3 hb) hc0_3 (c4_ hr0_6 hb) hc0_6 h)
 obtain ⟨R,hR⟩:∃ R,findS p b l0_3=R:=⟨_,rfl⟩
 have HF:=am_ hR
 rw [hR]
 have hg:=blk_lt bk
 have hgne:g≠w.heap.size:=by omega
 have hz3:(w.alloc (.cells #[.string (⟨#[]⟩:ByteArray),.int .i64 0] 95)).cell? ⟨g,3,none⟩=some (.slice A0_3 l0_3.length c0_3):=(bc_ (k1_ bk _) 3).trans rfl
 clear hr0_2 hr0_3 hr0_6 hc0_2 hc0_3 hc0_6 h hp bk hR
 go_enter Tryz.func75,Tryz.ntmps75
 go_wp2
 clear hz3
 go_loopg [12] l0_3.length (fun d v9 wr=>∃ (i:Int),0≤i∧i.toNat+d=l0_3.length∧v9=.int .i64 i∧Aside0 (wr.heap[w.heap.size]?=some (.cells #[.string (⟨#[]⟩:ByteArray),.int .i64 0] 95))∧Aside0 (Below w.heap.size w wr)∧Aside0 (findS p b l0_3=findS p b (l0_3.drop i.toNat)))
 case atStart=>exact ⟨0,by omega,by simp,rfl,⟨blk_new _ _⟩,⟨p3_ (Below.refl _ _) _⟩,⟨rfl⟩⟩
 case round =>
  obtain ⟨i,hi0,hd,rfl,BZ,HB,HS⟩:=hrel
  have hge:w.heap.size≤w.heap.size:=Nat.le_refl _
  by_cases hlt:i < (l0_3.length:Int)
  ·obtain ⟨ad,e1,hx0,hx1⟩:=at_T95 HR3.out i hi0 hlt
   cases e1
   replace hx0:=(HB.out.cell (wb_ w _ hx0)).trans hx0
   replace hx1:=(HB.out.cell (wb_ w _ hx1)).trans hx1
   have HD:=HS.out
   have hd1:=(dropRes l0_3 i hi0 hlt).1
   rw [hd1] at HD
   clear HS hd1
   generalize rd_T95 l0_3 i=x at hx0 hx1 HD
   have hcall:=HP.out wr (ad.add (i.toNat * 2)) x HB.out hx0 hx1
   have HG:=am_ (kb_ BG.out HB.out)
   have v0:=bc_ HG.out 0
   have v1:=bc_ HG.out 1
   have v2:=bc_ HG.out 2
   have v3:=bc_ HG.out 3
   have v4:=bc_ HG.out 4
   have v5:=bc_ HG.out 5
   have v6:=bc_ HG.out 6
   obtain ⟨q,hq⟩:∃ q,p x=q:=⟨_,rfl⟩
   rw [hq] at hcall
   have HQ:q=true→b=true→R=some x:=fun e1 e2=>by
    rw [←HF.out,HD]
    unfold findS
    rw [if_pos e2,List.find?_cons,hq,e1]
   have HN:(q && b)=false→findS p b l0_3=findS p b (l0_3.drop (i.toNat+1)):=fun e=>by
    rw [HD]
    unfold findS
    cases b with
    | false=>rfl
    | true =>
     rw [Bool.and_true] at e
     rw [if_pos rfl,if_pos rfl,List.find?_cons,hq,e]
   clear HD hq HP
   cases q with
   | true =>
    cases b with
    | true =>
     have HQ2:=am_ (HQ rfl rfl)
     clear HQ HN HF
     go_wp2_with fail
     refine hcall.mono ?_
     rintro e w' ⟨rfl,hb'⟩
     clear hcall
     replace hx0:=(hb'.cell (wb_ _ _ hx0)).trans hx0
     replace hx1:=(hb'.cell (wb_ _ _ hx1)).trans hx1
     replace BZ:=am_ (kb_ BZ.out hb')
     replace HG:=am_ (kb_ HG.out hb')
     replace v0:=bc_ HG.out 0
     replace v1:=bc_ HG.out 1
     replace v2:=bc_ HG.out 2
     replace v3:=bc_ HG.out 3
     replace v4:=bc_ HG.out 4
     replace v5:=bc_ HG.out 5
     replace v6:=bc_ HG.out 6
     replace HB:=am_ (bt_ HB.out hb')
     clear hb'
     go_wp2_with fail
     (with_reducible refine (CM.out _ HB.out).mono ?_)
     rintro e w'' ⟨rfl,hb'⟩
     replace hx0:=(hb'.cell (wb_ _ _ hx0)).trans hx0
     replace hx1:=(hb'.cell (wb_ _ _ hx1)).trans hx1
     replace BZ:=am_ (kb_ BZ.out hb')
     replace HG:=am_ (kb_ HG.out hb')
     replace v0:=bc_ HG.out 0
     replace v1:=bc_ HG.out 1
     replace v2:=bc_ HG.out 2
     replace v3:=bc_ HG.out 3
     replace v4:=bc_ HG.out 4
     replace v5:=bc_ HG.out 5
     replace v6:=bc_ HG.out 6
     have z0:=bf_ BZ.out 0
     have z1:=bf_ BZ.out 1
     have y0:=bc_ BZ.out 0
     have y1:=bc_ BZ.out 1
     replace HB:=am_ (bt_ HB.out hb')
     clear hb'
     go_wp2
     refine bodyPost_ret (results_ct rfl _ _ w.heap.size 95 #[.string x.f0,.int .i64 x.f1] (0,0) _ rfl (blk_set (blk_set BZ.out 0 (.string x.f0)) 1 (.int .i64 x.f1)) Tryz.underlying95 rfl (by kernel_rfl)) rfl ?_
     rw [HQ2.out]
     exact ⟨rfl,(HB.out.setCell hge _).setCell hge _⟩
    | false =>
     replace HN:=am_ (HN rfl)
     clear HQ
     go_wp2_with fail
     refine hcall.mono ?_
     rintro e w' ⟨rfl,hb'⟩
     clear hcall
     replace hx0:=(hb'.cell (wb_ _ _ hx0)).trans hx0
     replace hx1:=(hb'.cell (wb_ _ _ hx1)).trans hx1
     replace BZ:=am_ (kb_ BZ.out hb')
     replace HG:=am_ (kb_ HG.out hb')
     replace v0:=bc_ HG.out 0
     replace v1:=bc_ HG.out 1
     replace v2:=bc_ HG.out 2
     replace v3:=bc_ HG.out 3
     replace v4:=bc_ HG.out 4
     replace v5:=bc_ HG.out 5
     replace v6:=bc_ HG.out 6
     replace HB:=am_ (bt_ HB.out hb')
     clear hb'
     go_wp2_with fail
     (with_reducible refine (CM.out _ HB.out).mono ?_)
     rintro e w'' ⟨rfl,hb'⟩
     replace hx0:=(hb'.cell (wb_ _ _ hx0)).trans hx0
     replace hx1:=(hb'.cell (wb_ _ _ hx1)).trans hx1
     replace BZ:=am_ (kb_ BZ.out hb')
     replace HG:=am_ (kb_ HG.out hb')
     replace v0:=bc_ HG.out 0
     replace v1:=bc_ HG.out 1
     replace v2:=bc_ HG.out 2
     replace v3:=bc_ HG.out 3
     replace v4:=bc_ HG.out 4
     replace v5:=bc_ HG.out 5
     replace v6:=bc_ HG.out 6
     have z0:=bf_ BZ.out 0
     have z1:=bf_ BZ.out 1
     have y0:=bc_ BZ.out 0
     have y1:=bc_ BZ.out 1
     replace HB:=am_ (bt_ HB.out hb')
     clear hb'
     go_wp2
     go_roundg (l0_3.length - (i.toNat+1))
     case measure=>first|omega|(simp;omega)
     case rel =>
      have e2:(i+1).toNat=i.toNat+1:=by omega
      exact ⟨i+1,by omega,by omega,by go_num,⟨BZ.out⟩,⟨HB.out⟩,⟨by rw [e2];exact HN.out⟩⟩
   | false =>
    replace HN:=am_ (HN rfl)
    clear HQ
    go_wp2_with fail
    refine hcall.mono ?_
    rintro e w' ⟨rfl,hb'⟩
    clear hcall
    replace hx0:=(hb'.cell (wb_ _ _ hx0)).trans hx0
    replace hx1:=(hb'.cell (wb_ _ _ hx1)).trans hx1
    replace BZ:=am_ (kb_ BZ.out hb')
    replace HG:=am_ (kb_ HG.out hb')
    replace v0:=bc_ HG.out 0
    replace v1:=bc_ HG.out 1
    replace v2:=bc_ HG.out 2
    replace v3:=bc_ HG.out 3
    replace v4:=bc_ HG.out 4
    replace v5:=bc_ HG.out 5
    replace v6:=bc_ HG.out 6
    replace HB:=am_ (bt_ HB.out hb')
    clear hb'
    go_wp2
    go_roundg (l0_3.length - (i.toNat+1))
    case measure=>first|omega|(simp;omega)
    case rel =>
     have e2:(i+1).toNat=i.toNat+1:=by omega
     exact ⟨i+1,by omega,by omega,by go_num,⟨BZ.out⟩,⟨HB.out⟩,⟨by rw [e2];exact HN.out⟩⟩
  ·have e3:l0_3.drop i.toNat=[]:=List.drop_eq_nil_of_le (by omega)
   have HE:R=none:=by
    rw [←HF.out,HS.out,e3]
    unfold findS
    split<;>rfl
   replace HE:=am_ HE
   clear HS HF
   have z0:=bf_ BZ.out 0
   have z1:=bf_ BZ.out 1
   have y0:=bc_ BZ.out 0
   have y1:=bc_ BZ.out 1
   go_wp2
   refine bodyPost_ret (results_ct rfl _ _ w.heap.size 95 #[.string (⟨#[]⟩:ByteArray),.int .i64 0] (0,0) _ rfl (blk_set (blk_set BZ.out 0 (.string (⟨#[]⟩:ByteArray))) 1 (.int .i64 0)) Tryz.underlying95 rfl (by kernel_rfl)) rfl ?_
   rw [HE.out]
   exact ⟨rfl,(HB.out.setCell hge _).setCell hge _⟩

/-! ### conf_Owner: function 49 -/
-- BY HAND
-- 40 75
def conf_Owner.f (a0_0:Int) (a0_1:Int) (l0_2:List Int) (l0_3:List S95) (a0_4:Int) (a0_5:ByteArray) (l0_6:List S93) (a1:Int):Option (ByteArray×Bool):=if confFit l0_2 l0_3 a0_5 l0_6 then some (foundN (ownerR a0_0 a0_1 l0_2 l0_3 a0_4 a0_5 l0_6 a1),foundIs (ownerR a0_0 a0_1 l0_2 l0_3 a0_4 a0_5 l0_6 a1)) else none
theorem conf_Owner.is_ (a1:Int) (B1:Nat) (ad:Addr) (x:S95) (w:World) (hc:w.cell? ⟨B1,0,none⟩=some (.int .i64 a1)) (h0:w.cell? ad=some (.string x.f0)) (h1:w.cell? ⟨ad.block,ad.off+1,none⟩=some (.int .i64 x.f1)) :
  Calls Tryz.prog 76 #[.pointer (some ad),.pointer (some ⟨B1,0,none⟩)] w fun e w'=>e=.returned (.bool (x.f1 == a1))∧Below w.heap.size w w':=by
 go_enter Tryz.func76,Tryz.ntmps76
 go_wp2
 go_quiet (fail)
 go_wp2
 go_ret
 exact ⟨rfl,p1_ (Below.refl _ _) _⟩
theorem conf_Owner.calls (a0_0:Int) (a0_1:Int) (A0_2:Option Addr) (c0_2:Nat) (l0_2:List Int) (A0_3:Option Addr) (c0_3:Nat) (l0_3:List S95) (a0_4:Int) (a0_5:ByteArray) (A0_6:Option Addr) (c0_6:Nat) (l0_6:List S93) (a1:Int) (r1:ByteArray) (r2:Bool) (w:World) (hr0_2:Kd.C (Kd.int .i64) w A0_2 l0_2.length l0_2) (hc0_2:l0_2.length≤c0_2) (hr0_3:Kd.C k95 w A0_3 l0_3.length l0_3) (hc0_3:l0_3.length≤c0_3) (hr0_6:Kd.C k93 w A0_6 l0_6.length l0_6) (hc0_6:l0_6.length≤c0_6) (h:conf_Owner.f a0_0 a0_1 l0_2 l0_3 a0_4 a0_5 l0_6 a1=some (r1,r2)) :
  Calls Tryz.prog 49 #[.agg #[.int .i64 a0_0,.int .i64 a0_1,.slice A0_2 l0_2.length c0_2,.slice A0_3 l0_3.length c0_3,.int .i64 a0_4,.string a0_5,.slice A0_6 l0_6.length c0_6],.int .i64 a1] w fun e w'=>e=.returned (.tuple #[.string r1,.bool r2])∧Below w.heap.size w w':=by
 unfold conf_Owner.f at h
 by_cases hs:confFit l0_2 l0_3 a0_5 l0_6
 rotate_left
 ·rw [if_neg hs] at h
  cases h
 rw [if_pos hs] at h
 simp only [Option.some.injEq,Prod.mk.injEq] at h
 obtain ⟨rfl,rfl⟩:=h
 have hm:conf_May.f a0_0 a0_1 l0_2 l0_3 a0_4 a0_5 l0_6=some (confB a0_0 a0_1 l0_2 l0_3 a0_4 a0_5 l0_6):=by
  unfold conf_May.f
  rw [if_pos hs]
 have eg:∀ args w,(callFunc 76 args).run Tryz.prog w=.ok (.enter 76 args) w:=fun args w=>enters_ Tryz.func76 (by kernel_rfl) rfl args w
 obtain ⟨W2,hW2⟩:∃ W2,(w.alloc (.cells #[.int .i64 a0_0,.int .i64 a0_1,.slice A0_2 l0_2.length c0_2,.slice A0_3 l0_3.length c0_3,.int .i64 a0_4,.string a0_5,.slice A0_6 l0_6.length c0_6] 26)).alloc (.cells #[.int .i64 a1] 3)=W2:=⟨_,rfl⟩
 have HB:=am_ (show Below w.heap.size w W2 by rw [←hW2];repeat (first|exact Below.refl _ _|apply p3_))
 have e1:W2.heap[w.heap.size]?=some (.cells #[.int .i64 a0_0,.int .i64 a0_1,.slice A0_2 l0_2.length c0_2,.slice A0_3 l0_3.length c0_3,.int .i64 a0_4,.string a0_5,.slice A0_6 l0_6.length c0_6] 26):=by
  rw [←hW2]
  exact k1_ (blk_new w _) _
 have e2:W2.heap[w.heap.size+1]?=some (.cells #[.int .i64 a1] 3):=by
  have:=blk_new (w.alloc (.cells #[.int .i64 a0_0,.int .i64 a0_1,.slice A0_2 l0_2.length c0_2,.slice A0_3 l0_3.length c0_3,.int .i64 a0_4,.string a0_5,.slice A0_6 l0_6.length c0_6] 26)) (.cells #[.int .i64 a1] 3)
  rw [hW2] at this
  simpa using this
 have HF:=conf_find.calls (fun x=>x.f1 == a1) 76 #[.pointer (some ⟨w.heap.size+1,0,none⟩)] w.heap.size a0_0 a0_1 A0_2 c0_2 l0_2 A0_3 c0_3 l0_3 a0_4 a0_5 A0_6 c0_6 l0_6 _ W2 e1 (c4_ hr0_2 HB.out) hc0_2 (c4_ hr0_3 HB.out) hc0_3 (c4_ hr0_6 HB.out) hc0_6 hm hs.2.1 eg (fun W ad x hb h0 h1=>conf_Owner.is_ a1 (w.heap.size+1) ad x W ((bc_ (kb_ e2 hb) 0).trans rfl) h0 h1)
 rw [show findS (fun x=>x.f1 == a1) (confB a0_0 a0_1 l0_2 l0_3 a0_4 a0_5 l0_6) l0_3=ownerR a0_0 a0_1 l0_2 l0_3 a0_4 a0_5 l0_6 a1 from rfl] at HF
 obtain ⟨vN,hN⟩:∃ v,foundN (ownerR a0_0 a0_1 l0_2 l0_3 a0_4 a0_5 l0_6 a1)=v:=⟨_,rfl⟩
 obtain ⟨vH,hH⟩:∃ v,foundH (ownerR a0_0 a0_1 l0_2 l0_3 a0_4 a0_5 l0_6 a1)=v:=⟨_,rfl⟩
 obtain ⟨vI,hI⟩:∃ v,foundIs (ownerR a0_0 a0_1 l0_2 l0_3 a0_4 a0_5 l0_6 a1)=v:=⟨_,rfl⟩
 rw [hN,hH,hI] at HF
 rw [hN,hI]
 replace HF:=am_ HF
 clear hN hH hI hm hs e1 e2 eg hr0_2 hr0_3 hr0_6 hc0_2 hc0_3 hc0_6
 go_enter Tryz.func49,Tryz.ntmps49
 go_wp2_with (first|(go_at_call 75;(try rw [hW2]);(with_reducible refine HF.out.mono ?_);rintro e w4 ⟨rfl,hb4⟩;replace HB:=am_ (bt_ HB.out hb4);clear hb4))
 go_ret2
 exact ⟨rfl,by repeat (with_reducible first|exact HB.out|apply p3_|apply p1_|apply p2_|refine Below.setCell ?_ (by first|exact HB.out.size|(have:=HB.out.size;simp;omega)) _)⟩

/-! ### conf_Usable: function 50 -/
-- BY HAND
def conf_Usable.f (a0_0:Int) (a0_1:Int) (l0_2:List Int) (l0_3:List S95) (a0_4:Int) (a0_5:ByteArray) (l0_6:List S93) (a1:Int):Option Bool:=if confFit l0_2 l0_3 a0_5 l0_6 then some (usableB a0_0 a0_1 l0_2 l0_3 a0_4 a0_5 l0_6 a1) else none
theorem conf_Usable.calls (a0_0:Int) (a0_1:Int) (A0_2:Option Addr) (c0_2:Nat) (l0_2:List Int) (A0_3:Option Addr) (c0_3:Nat) (l0_3:List S95) (a0_4:Int) (a0_5:ByteArray) (A0_6:Option Addr) (c0_6:Nat) (l0_6:List S93) (a1:Int) (r:Bool) (w:World) (hr0_2:Kd.C (Kd.int .i64) w A0_2 l0_2.length l0_2) (hc0_2:l0_2.length≤c0_2) (hr0_3:Kd.C k95 w A0_3 l0_3.length l0_3) (hc0_3:l0_3.length≤c0_3) (hr0_6:Kd.C k93 w A0_6 l0_6.length l0_6) (hc0_6:l0_6.length≤c0_6) (h:conf_Usable.f a0_0 a0_1 l0_2 l0_3 a0_4 a0_5 l0_6 a1=some r) :
  Calls Tryz.prog 50 #[.agg #[.int .i64 a0_0,.int .i64 a0_1,.slice A0_2 l0_2.length c0_2,.slice A0_3 l0_3.length c0_3,.int .i64 a0_4,.string a0_5,.slice A0_6 l0_6.length c0_6],.int .i64 a1] w fun e w'=>e=.returned (.bool r)∧Below w.heap.size w w':=by
 unfold conf_Usable.f at h
 by_cases hs:confFit l0_2 l0_3 a0_5 l0_6
 rotate_left
 ·rw [if_neg hs] at h
  cases h
 rw [if_pos hs] at h
 have hm:conf_May.f a0_0 a0_1 l0_2 l0_3 a0_4 a0_5 l0_6=some (confB a0_0 a0_1 l0_2 l0_3 a0_4 a0_5 l0_6):=by
  unfold conf_May.f
  rw [if_pos hs]
 have HR:(decide (a1∉l0_2) && (confB a0_0 a0_1 l0_2 l0_3 a0_4 a0_5 l0_6 && decide (a0_0≤a1∧a1≤a0_1)))=r:=e5_ h
 obtain ⟨b,hb⟩:∃ b,confB a0_0 a0_1 l0_2 l0_3 a0_4 a0_5 l0_6=b:=⟨_,rfl⟩
 rw [hb] at HR hm
 replace HR:=am_ HR
 have CM:=am_ (fun W (hb:Below w.heap.size w W)=>conf_May.calls a0_0 a0_1 A0_2 c0_2 l0_2 A0_3 c0_3 l0_3 a0_4 a0_5 A0_6 c0_6 l0_6 b W (c4_ hr0_2 hb) hc0_2 (c4_ hr0_3 hb) hc0_3 (c4_ hr0_6 hb) hc0_6 hm)
 have HR0:=am_ hr0_2
 have hl2:=hs.1
 clear h hs hm hb hr0_2 hr0_3 hr0_6 hc0_2 hc0_3 hc0_6
 go_enter Tryz.func50,Tryz.ntmps50
 go_wp2
 go_loopg [10] l0_2.length (fun d v9 wr=>∃ (i:Int),0≤i∧i.toNat+d=l0_2.length∧v9=.int .i64 i∧Aside0 (wr.heap[w.heap.size]?=some (.cells #[.int .i64 a0_0,.int .i64 a0_1,.slice A0_2 l0_2.length c0_2,.slice A0_3 l0_3.length c0_3,.int .i64 a0_4,.string a0_5,.slice A0_6 l0_6.length c0_6] 26))∧Aside0 (Below w.heap.size w wr)∧Aside0 (a1∈l0_2 ↔ a1∈l0_2.drop i.toNat))
 case atStart=>exact ⟨0,by omega,by simp,rfl,⟨blk_new _ _⟩,⟨p3_ (Below.refl _ _) _⟩,⟨Iff.rfl⟩⟩
 case round =>
  obtain ⟨i,hi0,hd,rfl,BK,HB,HS⟩:=hrel
  by_cases hlt:i < (l0_2.length:Int)
  ·obtain ⟨ad,e1,hx0⟩:=Kd.at_int HR0.out i hi0 hlt
   cases e1
   replace hx0:=(HB.out.cell (wb_ w _ hx0)).trans hx0
   have HD:=HS.out
   rw [dropInt l0_2 i hi0 hlt,List.mem_cons] at HD
   clear HS
   generalize rd l0_2 i=x at hx0 HD
   by_cases q:x=a1
   ·have hfin:false=r:=by rw [←HR.out,decide_eq_false (fun e=>e (HD.2 (.inl q.symm)))];rfl
    replace hfin:=am_ hfin
    have q1:(x == a1)=true:=by simpa using q
    clear q HD
    go_wp2
    go_ret
    exact ⟨ret_bool hfin.out,HB.out⟩
   ·have q1:(x == a1)=false:=by simpa using q
    have HN:a1∈l0_2 ↔ a1∈l0_2.drop (i.toNat+1):=HD.trans ⟨fun e=>e.resolve_left (fun e=>q e.symm),.inr⟩
    replace HN:=am_ HN
    clear q HD
    go_wp2
    go_roundg (l0_2.length - (i.toNat+1))
    case measure=>first|omega|(simp;omega)
    case rel =>
     have e2:(i+1).toNat=i.toNat+1:=by omega
     exact ⟨i+1,by omega,by omega,by go_num,⟨BK.out⟩,⟨HB.out⟩,⟨by rw [e2];exact HN.out⟩⟩
  ·have e3:l0_2.drop i.toNat=[]:=List.drop_eq_nil_of_le (by omega)
   have HE:(b && decide (a0_0≤a1∧a1≤a0_1))=r:=by
    rw [←HR.out,decide_eq_true (show a1∉l0_2 from fun e=>by have:=HS.out.1 e;rw [e3] at this;cases this)]
    rfl
   replace HE:=am_ HE
   clear HS HR
   have v0:=bc_ BK.out 0
   have v1:=bc_ BK.out 1
   have v2:=bc_ BK.out 2
   have v3:=bc_ BK.out 3
   have v4:=bc_ BK.out 4
   have v5:=bc_ BK.out 5
   have v6:=bc_ BK.out 6
   go_wp2_with (first|(go_at_call 40;(with_reducible refine (CM.out _ HB.out).mono ?_);rintro e w2 ⟨rfl,hb'⟩;replace BK:=am_ (kb_ BK.out hb');replace v0:=bc_ BK.out 0;replace v1:=bc_ BK.out 1;replace HB:=am_ (bt_ HB.out hb');clear hb'))
   all_goals go_ret
   all_goals refine ⟨ret_bool ?_,HB.out⟩
   all_goals (rw [←HE.out];clear HE CM HB BK;simp [*]<;>(intros;omega))

/-! ### conf_Lent: function 22 -/
-- BY HAND
-- 49 50
theorem conf_Lent.calls (g:Nat) (a0_0:Int) (a0_1:Int) (A0_2:Option Addr) (c0_2:Nat) (l0_2:List Int) (A0_3:Option Addr) (c0_3:Nat) (l0_3:List S95) (a0_4:Int) (a0_5:ByteArray) (A0_6:Option Addr) (c0_6:Nat) (l0_6:List S93) (host:Int) (client:ByteArray) (r:Bool) (w:World) (bk:w.heap[g]?=some (.cells #[.int .i64 a0_0,.int .i64 a0_1,.slice A0_2 l0_2.length c0_2,.slice A0_3 l0_3.length c0_3,.int .i64 a0_4,.string a0_5,.slice A0_6 l0_6.length c0_6] 26)) (hr0_2:Kd.C (Kd.int .i64) w A0_2 l0_2.length l0_2) (hc0_2:l0_2.length≤c0_2) (hr0_3:Kd.C k95 w A0_3 l0_3.length l0_3) (hc0_3:l0_3.length≤c0_3) (hr0_6:Kd.C k93 w A0_6 l0_6.length l0_6) (hc0_6:l0_6.length≤c0_6) (hs:confFit l0_2 l0_3 a0_5 l0_6) (h:lentB a0_0 a0_1 l0_2 l0_3 a0_4 a0_5 l0_6 host client=r) :
  Calls Tryz.prog 22 #[.pointer (some ⟨g,0,none⟩),.int .i64 host,.string client] w fun e w'=>e=.returned (.bool r)∧Below w.heap.size w w':=by
 unfold lentB at h
 obtain ⟨N,hN⟩:∃ v,foundN (ownerR a0_0 a0_1 l0_2 l0_3 a0_4 a0_5 l0_6 host)=v:=⟨_,rfl⟩
 obtain ⟨I,hI⟩:∃ v,foundIs (ownerR a0_0 a0_1 l0_2 l0_3 a0_4 a0_5 l0_6 host)=v:=⟨_,rfl⟩
 obtain ⟨U,hU⟩:∃ v,usableB a0_0 a0_1 l0_2 l0_3 a0_4 a0_5 l0_6 host=v:=⟨_,rfl⟩
 rw [hN,hI,hU] at h
 have C1:=am_ (fun W (hb:Below w.heap.size w W)=>conf_Owner.calls a0_0 a0_1 A0_2 c0_2 l0_2 A0_3 c0_3 l0_3 a0_4 a0_5 A0_6 c0_6 l0_6 host N I W (c4_ hr0_2 hb) hc0_2 (c4_ hr0_3 hb) hc0_3 (c4_ hr0_6 hb) hc0_6 (by unfold conf_Owner.f;rw [if_pos hs,hN,hI]))
 have C2:=am_ (fun W (hb:Below w.heap.size w W)=>conf_Usable.calls a0_0 a0_1 A0_2 c0_2 l0_2 A0_3 c0_3 l0_3 a0_4 a0_5 A0_6 c0_6 l0_6 host U W (c4_ hr0_2 hb) hc0_2 (c4_ hr0_3 hb) hc0_3 (c4_ hr0_6 hb) hc0_6 (by unfold conf_Usable.f;rw [if_pos hs,hU]))
 have HR:=am_ h
 have HB:=am_ (Below.refl w.heap.size w)
 have BG:=am_ bk
 have u0:=bc_ BG.out 0
 have u1:=bc_ BG.out 1
 have u2:=bc_ BG.out 2
 have u3:=bc_ BG.out 3
 have u4:=bc_ BG.out 4
 have u5:=bc_ BG.out 5
 have u6:=bc_ BG.out 6
 clear h hN hI hU bk hr0_2 hr0_3 hr0_6 hc0_2 hc0_3 hc0_6 hs
 go_enter Tryz.func22,Tryz.ntmps22
 go_wp2_with (first
  | (go_at_call 49;(with_reducible refine (C1.out _ (by repeat (with_reducible first|exact HB.out|apply p3_|apply p1_|apply p2_))).mono ?_);rintro e w1 ⟨rfl,hb2⟩;replace BG:=am_ (kb_ (show _ from (by (with_reducible repeat (first|exact BG.out|refine k2_ ?_ _|refine k3_ ?_|refine k1_ ?_ _)))) hb2);replace HB:=am_ (bt_ (show Below w.heap.size w _ from (by repeat (with_reducible first|exact HB.out|apply p3_|apply p1_|apply p2_))) hb2);clear hb2;have u0:=bc_ BG.out 0;have u1:=bc_ BG.out 1;have u2:=bc_ BG.out 2;have u3:=bc_ BG.out 3;have u4:=bc_ BG.out 4;have u5:=bc_ BG.out 5;have u6:=bc_ BG.out 6)
  | (go_at_call 50;(with_reducible refine (C2.out _ (by repeat (with_reducible first|exact HB.out|apply p3_|apply p1_|apply p2_))).mono ?_);rintro e w2 ⟨rfl,hb2⟩;replace HB:=am_ (bt_ (show Below w.heap.size w _ from (by repeat (with_reducible first|exact HB.out|apply p3_|apply p1_|apply p2_))) hb2);clear hb2;clear u0 u1 u2 u3 u4 u5 u6))
 all_goals (try go_ret)
 all_goals refine ⟨ret_bool ?_,?_⟩
 all_goals first
  | ((repeat (with_reducible first|exact HB.out|apply p3_|apply p1_|apply p2_));done)
  | (rw [←HR.out];clear HR HB C1 C2 BG;rw [Bool.eq_iff_iff];(simp_all;done))
  | (rw [←HR.out];clear HR HB C1 C2 BG;simp_all)

/-! ### table_With: function 23 -/
-- BY HAND
-- 41 45
instance table_With.inh:Inhabited S44:=⟨z44⟩
def table_With.enc (x:S44):List Value:=[.int .i64 x.f0,.int .i64 x.f1,.string x.f2,.int .i64 x.f3,.string x.f4,.bool x.f5]
def table_With.cf (x y:S44):Int:=wrap64 (x.f0 - y.f0)
def table_With.ren:Go.Shelf.Ren:=⟨fun i=>if i=20 then 88 else 0,fun i=>if i=3 then 3 else if i=4 then 4 else if i=22 then 27 else if i=24 then 44 else if i=25 then 84 else 0,fun i=>i⟩
theorem table_With.lays:SlLaysF0.n20 Tryz.prog table_With.ren where
 mixed:=by kernel_rfl
 f20:=⟨"slices.insertionSortCmpFunc[pinfold/api.Lease]",by decide,by kernel_rfl⟩
 t0:=by kernel_rfl
 a0:=fun w=>by kernel_rfl
 z0:=fun w=>by kernel_rfl
 v0:=fun w=>by kernel_rfl
 t3:=by kernel_rfl
 a3:=fun w=>by kernel_rfl
 z3:=fun w=>by kernel_rfl
 v3:=fun w=>by kernel_rfl
 t4:=by kernel_rfl
 a4:=fun w=>by kernel_rfl
 z4:=fun w=>by kernel_rfl
 v4:=fun w=>by kernel_rfl
 t22:=by kernel_rfl
 a22:=fun w=>by kernel_rfl
 z22:=fun w=>by kernel_rfl
 v22:=fun w=>by kernel_rfl
 t25:=by kernel_rfl
 a25:=fun w=>by kernel_rfl
 z25:=fun w=>by kernel_rfl
 v25:=fun w=>by kernel_rfl
theorem table_With.cmp (x y:S44) (W:World) :
  Calls Tryz.prog 53 #[.agg #[.int .i64 x.f0,.int .i64 x.f1,.string x.f2,.int .i64 x.f3,.string x.f4,.bool x.f5],.agg #[.int .i64 y.f0,.int .i64 y.f1,.string y.f2,.int .i64 y.f3,.string y.f4,.bool y.f5]] W fun e w'=>e=.returned (.int .i64 (table_With.cf x y))∧∃ q os',w'=Go.Sort.grow (W.drewN q) os':=by
 go_enter Tryz.func53,Tryz.ntmps53
 go_wp2
 go_ret
 refine ⟨rfl,0,#[.cells #[.int .i64 x.f0,.int .i64 x.f1,.string x.f2,.int .i64 x.f3,.string x.f4,.bool x.f5] 44,.cells #[.int .i64 y.f0,.int .i64 y.f1,.string y.f2,.int .i64 y.f3,.string y.f4,.bool y.f5] 44],?_⟩
 rfl
/-- a row's cells. -/
def table_With.Cells (cur:Array Value) (xs:List S44):Prop:=∀ t,t < xs.length * 6→cur[t]?=some ((table_With.enc (xs.toArray[t / 6]!))[t % 6]!)
theorem table_With.get (xs:List S44) (j:Nat) (h:j < xs.length):xs.toArray[j]! = xs[j]:=by
 simp [h]
theorem table_With.cells_of {w:World} {base n cap g:Nat} {ok:Nat→Prop} {xs:List S44} (h:Kd.R k44 44 w base ok (.slice (some ⟨g,0,none⟩) n cap) xs) :
  ∃cur,w.heap[g]?=some (.cells cur 44 (0,0))∧n=xs.length∧n≤cap∧cap≤maxLen∧cur.size=cap * 6∧base≤g∧ok g∧table_With.Cells cur xs:=by
 obtain ⟨h0,inner,⟨hil,hv⟩,hr⟩:=h
 rcases hv with ⟨hv,_⟩|⟨g',cap',cur,hv,hb,hc,hn,hm,hs,ht⟩
 ·cases hv
 ·have hn2:n=xs.length:=by cases hv;rfl
  obtain rfl:cap=cap':=by cases hv;rfl
  obtain rfl:g=g':=by cases hv;rfl
  refine ⟨cur,hc,hn2,by omega,hm,hs,hb,h0 g (by simp [Value.ownBlock]),fun t ht2=>?_⟩
  have hj:t / 6 < xs.length:=by omega
  have h1:=k44_openM (hr.2 (t / 6) _ (List.getElem?_eq_getElem hj))
  have h2:inner[t]?=(table_With.enc xs[t / 6])[t % 6]?:=by
   have h1':((List.drop (t / 6 * 6) inner).take 6)[t % 6]?=(table_With.enc xs[t / 6])[t % 6]?:=congrArg (fun l:List Value=>l[t % 6]?) h1
   rw [←h1']
   rw [List.getElem?_take_of_lt (by omega),List.getElem?_drop,show t / 6 * 6+t % 6=t by omega]
  have h3:cur[t]?=inner[t]?:=by
   have ht':cur.toList.take (xs.length * 6)=inner:=ht
   rw [←ht',List.getElem?_take_of_lt ht2,Array.getElem?_toList]
  have h4:t % 6 < (table_With.enc xs[t / 6]).length:=by show t % 6 < 6;omega
  rw [h3,h2,table_With.get xs _ hj,List.getElem?_eq_getElem h4,getElem!_pos (table_With.enc xs[t / 6]) (t % 6) h4]
theorem table_With.of_cells {w:World} {base n cap g:Nat} {ok:Nat→Prop} {xs:List S44} {cur:Array Value} (hc:w.heap[g]?=some (.cells cur 44 (0,0))) (hn:n=xs.length) (hcap:n≤cap) (hm:cap≤maxLen) (hs:cur.size=cap * 6) (hb:base≤g) (ho:ok g) (hx:table_With.Cells cur xs) :
  Kd.R k44 44 w base ok (.slice (some ⟨g,0,none⟩) n cap) xs:=by
 subst hn
 have hl:(cur.toList.take (xs.length * 6)).length=xs.length * 6:=by
  have hz:cur.toList.length=cap * 6:=by simpa using hs
  rw [List.length_take,hz]
  exact Nat.min_eq_left (Nat.mul_le_mul_right _ hcap)
 refine ⟨fun k hk=>?_,cur.toList.take (xs.length * 6),⟨hl,.inr ⟨g,cap,cur,rfl,hb,hc,hcap,hm,hs,rfl⟩⟩,hl,fun j p hp=>?_⟩
 ·simp only [Value.ownBlock,Option.some.injEq] at hk
  rw [←hk]
  exact ho
 ·obtain ⟨hj,rfl⟩:=List.getElem?_eq_some_iff.1 hp
  have e:((cur.toList.take (xs.length * 6)).drop (j * 6)).take 6=table_With.enc xs[j]:=by
   apply List.ext_getElem?
   intro r
   by_cases hr:r < 6
   ·have h1:=hx (j * 6+r) (by omega)
    rw [show (j * 6+r) / 6=j by omega,show (j * 6+r) % 6=r by omega,table_With.get xs j hj] at h1
    have h4:r < (table_With.enc xs[j]).length:=hr
    rw [getElem!_pos (table_With.enc xs[j]) r h4] at h1
    rw [List.getElem?_take_of_lt hr,List.getElem?_drop,List.getElem?_take_of_lt (by omega),Array.getElem?_toList,h1,List.getElem?_eq_getElem h4]
   ·rw [List.getElem?_eq_none (by rw [List.length_take];omega),List.getElem?_eq_none (by show 6≤r;omega)]
  show (k44).M _ _ _ _ (((cur.toList.take (xs.length * 6)).drop (j * 6)).take 6)
  rw [e]
  exact k44_mkM _ _ _ _
/-- the rounds of an insertion sort. -/
def table_With.outer (lt:S44→S44→Bool):Nat→Nat→Array S44→Array S44
 | 0,_,d=>d
 | m+1,i,d=>table_With.outer lt m (i+1) (Go.Sort.insInner lt 0 i d)
theorem table_With.outer_eq (lt:S44→S44→Bool) (m:Nat):∀ (i b:Nat) (d:Array S44),i+m=b→Go.Sort.insOuter lt 0 b i d=table_With.outer lt m i d:=by
 induction m with
 | zero =>
  intro i b d h
  rw [Go.Sort.insOuter,if_neg (by omega)]
  rfl
 | succ m ih =>
  intro i b d h
  rw [Go.Sort.insOuter,if_pos (by omega)]
  exact ih (i+1) b _ (by omega)
theorem table_With.size_inner (lt:S44→S44→Bool):∀ (j:Nat) (d:Array S44),(Go.Sort.insInner lt 0 j d).size=d.size
 | 0,d=>rfl
 | j+1,d=>by
  unfold Go.Sort.insInner
  split
  ·rw [table_With.size_inner lt j,Go.Sort.size_swp]
  ·rfl
theorem table_With.size_outer (lt:S44→S44→Bool):∀ (m i:Nat) (d:Array S44),(table_With.outer lt m i d).size=d.size
 | 0,_,d=>rfl
 | m+1,i,d=>by rw [table_With.outer,table_With.size_outer lt m,table_With.size_inner]
def table_With.srt (xs:List S44):List S44:=(table_With.outer (ltOf table_With.cf) (xs.length - 1) 1 xs.toArray).toList
theorem table_With.srt_length (xs:List S44):(table_With.srt xs).length=xs.length:=by
 unfold table_With.srt
 rw [Array.length_toList,table_With.size_outer]
 rfl
/-- what a sort leaves. -/
def table_With.Done (W:World) (g cap:Nat) (xs:List S44) (w':World):Prop:=∃ cur',w'.heap[g]?=some (.cells cur' 44 (0,0))∧cur'.size=cap * 6∧table_With.Cells cur' xs∧W.grownBy w' (some g)
theorem table_With.done {W:World} {g cap m:Nat} {cur:Array Value} {dk:Array S44} {os:Array Obj} (hc:W.heap[g]?=some (.cells cur 44 (0,0))) (hcap:dk.size≤cap) (hs:cur.size=cap * 6) :
  table_With.Done W g cap dk.toList (sortWorldK table_With.enc 6 W g 0 m dk os):=by
 have hlt:g < W.heap.size:=(Array.getElem?_eq_some_iff.1 hc).1
 have hb:(sortWorldK table_With.enc 6 W g 0 m dk os).heap=(W.heap.modify g (Go.Sort.onCells (Go.Sort.putCells id 0 (Go.Sort.flatK table_With.enc 6 dk)))) ++ os:=rfl
 refine ⟨Go.Sort.putCells id 0 (Go.Sort.flatK table_With.enc 6 dk) cur,?_,?_,fun t ht=>?_,⟨rfl,rfl,rfl,?_,fun k hk hne=>?_⟩⟩
 ·rw [hb,Array.getElem?_append_left (by simpa using hlt),Array.getElem?_modify,if_pos rfl,hc]
  rfl
 ·unfold Go.Sort.putCells
  simpa using hs
 ·have htl:t < dk.size * 6:=by simpa using ht
  have hcur:t < cur.size:=by omega
  unfold Go.Sort.putCells
  rw [Array.getElem?_mapIdx,Array.getElem?_eq_getElem hcur]
  simp only [Option.map_some,Go.Sort.size_flatK,Nat.zero_add,Nat.zero_le,true_and,Nat.sub_zero,id_eq]
  rw [if_pos htl,Go.Sort.get_flatK _ _ _ _ htl]
 ·rw [hb]
  simp
 ·have hkg:g≠k:=fun e=>hne (by rw [e])
  rw [hb,Array.getElem?_append_left (by simpa using hk),Array.getElem?_modify,if_neg hkg]
theorem table_With.stable (xs:List S44) (g cap:Nat) (cur:Array Value) (W:World) (hc:W.heap[g]?=some (.cells cur 44 (0,0))) (hcap:xs.length≤cap) (hs:cur.size=cap * 6) (hx:table_With.Cells cur xs) (hn:xs.length≤19) (hn0:0 < xs.length) :
  Calls Tryz.prog 77 #[.slice (some ⟨g,0,none⟩) xs.length cap,.int .i64 xs.length,.func (.func 53) #[] #[]] W fun e w'=>e=.returned (.tuple #[])∧table_With.Done W g cap (table_With.srt xs) w':=by
 have eg:∀ args w,(callFunc 53 args).run Tryz.prog w=.ok (.enter 53 args) w:=enters_of Tryz.func53 (by kernel_rfl) rfl
 have hH:Go.Sort.HoldsK table_With.enc 6 W g 0 xs.toArray:=fun j hj=>by
  have hj2:j < xs.length * 6:=by simpa using hj
  rw [Nat.zero_add]
  refine ⟨?_,bf_ hc j⟩
  rw [bc_ hc j,hx j hj2,Go.Sort.get_flatK _ _ _ _ (by simpa using hj2)]
  rfl
 have hI:=AnyQ.insertionSortCmpFunc table_With.lays 6 (fun w=>by kernel_rfl) (fun w=>by kernel_rfl) table_With.enc (fun x=>rfl) (fun x v hv=>by
  simp only [table_With.enc,List.mem_cons,List.mem_nil_iff,or_false] at hv
  rcases hv with rfl|rfl|rfl|rfl|rfl|rfl<;>rfl) table_With.cf 53 #[] g 0 cap 0 xs.length xs.toArray W eg (fun m os dk _ x y=>table_With.cmp x y _) hH (Array.getElem?_eq_some_iff.1 hc).1 (Nat.zero_le _) (by simp) (by simp;omega)
 have hD:∀ m os,table_With.Done W g cap (table_With.srt xs) (sortWorldK table_With.enc 6 W g 0 m (Go.Sort.insertionSort (ltOf table_With.cf) xs.toArray 0 xs.length) os):=fun m os=>by
  have e:Go.Sort.insertionSort (ltOf table_With.cf) xs.toArray 0 xs.length=table_With.outer (ltOf table_With.cf) (xs.length - 1) 1 xs.toArray:=table_With.outer_eq _ _ 1 _ _ (by omega)
  rw [e]
  exact table_With.done hc (by rw [table_With.size_outer];simpa using hcap) hs
 replace hI:=am_ (show Calls Tryz.prog 88 #[.slice (some ⟨g,0,none⟩) xs.length cap,.int .i64 0,.int .i64 xs.length,.func (.func 53) #[] #[]] W fun e w'=>e=.returned (.tuple #[])∧table_With.Done W g cap (table_With.srt xs) w' from hI.mono (by
  rintro e w' ⟨rfl,m,os,rfl⟩
  exact ⟨rfl,hD m os⟩))
 clear hD hH eg hc hx hs
 have d1:decide ((20:Int)≤(xs.length:Int))=false:=decide_eq_false (by omega)
 have d2:decide ((20:Int) < (xs.length:Int))=false:=decide_eq_false (by omega)
 go_enter Tryz.func77,Tryz.ntmps77
 go_wp2
 refine wp_loop_rounds 1 ?_
 rw [rounds_succ]
 go_wp2_with (first|(go_at_call 88;refine hI.out.mono ?_;rintro e w' ⟨rfl,hd⟩))
 refine wp_loop_rounds 1 ?_
 rw [rounds_succ]
 go_wp2
 go_end0
 exact ⟨rfl,hd⟩
theorem table_With.sort (xs:List S44) (g cap:Nat) (cur:Array Value) (W:World) (hc:W.heap[g]?=some (.cells cur 44 (0,0))) (hcap:xs.length≤cap) (hs:cur.size=cap * 6) (hx:table_With.Cells cur xs) (hn:xs.length≤19) (hn0:0 < xs.length) :
  Calls Tryz.prog 52 #[.slice (some ⟨g,0,none⟩) xs.length cap,.func (.func 53) #[] #[]] W fun e w'=>e=.returned (.tuple #[])∧table_With.Done W g cap (table_With.srt xs) w':=by
 have hI:=am_ (table_With.stable xs g cap cur W hc hcap hs hx hn hn0)
 clear hc hs hx
 go_enter Tryz.func52,Tryz.ntmps52
 go_wp2_with (first|(go_at_call 77;refine hI.out.mono ?_;rintro e w' ⟨rfl,hd⟩))
 go_end0
 exact ⟨rfl,hd⟩
theorem table_With.nil1 (c:Nat) (w:World):(binOp .eql 27 (.slice none 0 c) (.slice none 0 0)).run Tryz.prog w=.ok (.bool true) w:=by kernel_rfl
theorem table_With.nil2 (ad:Addr) (n c:Nat) (w:World):(binOp .eql 27 (.slice (some ad) n c) (.slice none 0 0)).run Tryz.prog w=.ok (.bool false) w:=by kernel_rfl
theorem table_With.info:(Tryz.prog.info? 44).map (fun i=>(i.zero,i.size,i.bytes))=some (some (.agg #[.int .i64 0,.int .i64 0,.string ⟨#[]⟩,.int .i64 0,.string ⟨#[]⟩,.bool false]),6,64):=by kernel_rfl
theorem table_With.clone (A0:Option Addr) (c0:Nat) (l0:List (S44)) (w:World) (hr0:Kd.C k44 w A0 l0.length l0) (hc0:l0.length≤c0) (hs:l0.length≤1000) :
  Calls Tryz.prog 51 #[.slice A0 l0.length c0] w fun e w'=>∃ v:Value,e=.returned v∧Kd.R k44 44 w' w.heap.size (fun _=>True) v l0∧Below w.heap.size w w':=by
 have HR:=am_ hr0
 have HC:=am_ hc0
 cases A0 with
 | none =>
  have hn:l0=[]:=by
   cases l0 with
   | nil=>rfl
   | cons x r =>
    obtain ⟨ad,e,_⟩:=hr0.2.2 (by simp)
    cases e
  clear hr0 hc0
  subst hn
  have he:=table_With.nil1 c0
  go_enter Tryz.func51,Tryz.ntmps51
  go_wp2
  go_ret
  exact ⟨_,rfl,Kd.R_nil _ _ _ _ _,Below.refl _ _⟩
 | some ad =>
  clear hr0 hc0
  have he:=table_With.nil2 ad l0.length c0
  go_enter Tryz.func51,Tryz.ntmps51
  go_wp2_with (first
   | ((with_reducible refine gate_dst (N:=5) rfl ?_);refine Kd.R_lit k44 _ 44 ?hg (N:=5) ?hd (xs:=([]:List S44)) (inner:=[]) (ok:=fun _=>True) (okp:=fun _=>True) ?hr ?hp (fun _ hk=>hk) trivial (Below.refl _ _) (Nat.le_refl _) (by simp) ?_;(case hd=>rfl);(case hg=>rfl);(case hr=>first|(go_simp;done)|(go_simp;rfl));(case hp=>exact (Reps.none _ _));intro v104 w5 ho6 hb hg_ hnew_;clear hg_ hnew_;have HO:=am_ ho6;have HB:=am_ hb;clear hb ho6)
   | ((with_reducible refine gate_builtin (b:=.append) (xs:=#[.tmp 5,.tmp 6]) rfl ?_);at_builtin;refine Kd.R_append_rows k44 (w0:=w) w.heap.size rfl (.tmp 5) (.tmp 6) 27 44 (.agg #[.int .i64 0,.int .i64 0,.string ⟨#[]⟩,.int .i64 0,.string ⟨#[]⟩,.bool false]) 64 rfl Tryz.underlying27 table_With.info rfl (by decide) (by omega) v104 [] l0 _ _ _ (fun _=>True) (fun _=>False) rfl rfl ?aO ?aR (fun _ _ h=>h) (fun _ h=>h.elim) ?aF ?aB ?aS ?aL ?_;(case aR=>exact c4_ HR.out HB.out);(case aB=>exact HB.out);(case aF=>exact (fun _ _=>trivial));(case aO=>exact HO.out);(case aS=>exact HB.out.size);(case aL=>simp;omega);intro v107 w9 ho hb hg hat;rw [List.nil_append] at ho;clear hg hat))
  go_ret
  exact ⟨_,rfl,ho,hb⟩
theorem table_With.set_cells {cur:Array Value} {l0:List S44} (hx:table_With.Cells cur l0) (ii:Nat) (hi:ii < l0.length) (hs:l0.length * 6≤cur.size) (x:S44) :
  table_With.Cells ((((((cur.setIfInBounds (ii * 6) (.int .i64 x.f0)).setIfInBounds (ii * 6+1) (.int .i64 x.f1)).setIfInBounds (ii * 6+2) (.string x.f2)).setIfInBounds (ii * 6+3) (.int .i64 x.f3)).setIfInBounds (ii * 6+4) (.string x.f4)).setIfInBounds (ii * 6+5) (.bool x.f5)) (l0.set ii x):=by
 intro t ht
 rw [List.length_set] at ht
 have h0:=hx t ht
 have hj:t / 6 < l0.length:=by omega
 by_cases e:t / 6=ii
 ·have hg:(l0.set ii x).toArray[t / 6]! = x:=by
   rw [table_With.get _ _ (by rw [List.length_set];exact hj),List.getElem_set,if_pos e.symm]
  rw [hg]
  obtain ⟨r,hr,hr6⟩:∃ r,t=ii * 6+r∧r < 6:=⟨t - ii * 6,by omega,by omega⟩
  subst hr
  rw [show (ii * 6+r) % 6=r by omega]
  have hk:ii * 6+6≤cur.size:=by omega
  match r,hr6 with
  | 0,_=>(have h9:ii * 6 < cur.size:=(by omega));simp [Array.getElem?_setIfInBounds,h9,table_With.enc]
  | 1,_=>(have h9:ii * 6+1 < cur.size:=(by omega));simp [Array.getElem?_setIfInBounds,h9,table_With.enc]
  | 2,_=>(have h9:ii * 6+2 < cur.size:=(by omega));simp [Array.getElem?_setIfInBounds,h9,table_With.enc]
  | 3,_=>(have h9:ii * 6+3 < cur.size:=(by omega));simp [Array.getElem?_setIfInBounds,h9,table_With.enc]
  | 4,_=>(have h9:ii * 6+4 < cur.size:=(by omega));simp [Array.getElem?_setIfInBounds,h9,table_With.enc]
  | 5,_=>(have h9:ii * 6+5 < cur.size:=(by omega));simp [Array.getElem?_setIfInBounds,h9,table_With.enc]
  | q+6,h=>omega
 ·have hg:(l0.set ii x).toArray[t / 6]! = l0.toArray[t / 6]! := by
   rw [table_With.get _ _ (by rw [List.length_set];exact hj),table_With.get _ _ hj,List.getElem_set,if_neg (fun h=>e h.symm)]
  rw [hg,←h0]
  simp only [Array.getElem?_setIfInBounds,Array.size_setIfInBounds]
  rw [if_neg (by omega),if_neg (by omega),if_neg (by omega),if_neg (by omega),if_neg (by omega),if_neg (by omega)]
/-- what leaves become with one more. -/
def table_With.out (l0:List S44) (x:S44):List S44:=if table_at.idx (fun y=>y.f0 == x.f0) l0 ≥ 0 then l0.set (table_at.idx (fun y=>y.f0 == x.f0) l0).toNat x else table_With.srt (l0 ++ [x])
def table_With.f (l0:List S44) (a1_0:Int) (a1_1:Int) (a1_2:ByteArray) (a1_3:Int) (a1_4:ByteArray) (a1_5:Bool):Option (List S44×Int) :=
 if l0.length≤18 then ((table_May_c.f l0).bind fun m=>if m=true then ((table_May_c.f (table_With.out l0 (⟨a1_0,a1_1,a1_2,a1_3,a1_4,a1_5⟩:S44))).bind fun q=>if q=true then some (table_With.out l0 (⟨a1_0,a1_1,a1_2,a1_3,a1_4,a1_5⟩:S44),0) else some ([],1300)) else some ([],1300)) else none
theorem table_With.calls (A0:Option Addr) (c0:Nat) (l0:List (S44)) (a1_0:Int) (a1_1:Int) (a1_2:ByteArray) (a1_3:Int) (a1_4:ByteArray) (a1_5:Bool) (r1:List (S44)) (r2:Int) (w:World) (hr0:Kd.C k44 w A0 l0.length l0) (hc0:l0.length≤c0) (h:table_With.f l0 a1_0 a1_1 a1_2 a1_3 a1_4 a1_5=some (r1,r2)) :
  Calls Tryz.prog 23 #[.slice A0 l0.length c0,.agg #[.int .i64 a1_0,.int .i64 a1_1,.string a1_2,.int .i64 a1_3,.string a1_4,.bool a1_5]] w fun e w'=>∃ v0_:Value,e=.returned (.tuple #[v0_,.int .i64 r2])∧Kd.R k44 44 w' w.heap.size (fun _=>True) v0_ r1∧Below w.heap.size w w':=by
 have HR:=am_ hr0
 have HC:=am_ hc0
 clear hr0 hc0
 unfold table_With.f at h
 by_cases hs:l0.length≤18
 rotate_left
 ·rw [if_neg hs] at h
  cases h
 rw [if_pos hs] at h
 replace h:=Option.bind_eq_some_iff.1 h
 obtain ⟨m,hm,h⟩:=h
 have HM:=am_ (fun W hr=>table_May_c.calls A0 c0 l0 m W hr HC.out hm)
 clear hm
 have HCL:=am_ (fun W hr=>table_With.clone A0 c0 l0 W hr HC.out (by omega))
 have HAT:=am_ (fun W hr=>table_at.calls A0 c0 l0 a1_0 (table_at.idx (fun y=>y.f0 == a1_0) l0) W hr HC.out (by unfold table_at.f;rw [if_pos (by omega)]))
 unfold table_With.out at h
 by_cases hi:table_at.idx (fun y=>y.f0 == a1_0) l0 ≥ 0
 ·rw [if_pos (show table_at.idx (fun y=>y.f0 == ((⟨a1_0,a1_1,a1_2,a1_3,a1_4,a1_5⟩:S44)).f0) l0 ≥ 0 from hi)] at h
  have hlt:=(table_at.idx_lt (fun y=>y.f0 == a1_0) l0).1
  replace h:((if m=true then ((table_May_c.f (l0.set (table_at.idx (fun y=>y.f0 == a1_0) l0).toNat (⟨a1_0,a1_1,a1_2,a1_3,a1_4,a1_5⟩:S44))).bind fun q=>if q=true then some (l0.set (table_at.idx (fun y=>y.f0 == a1_0) l0).toNat (⟨a1_0,a1_1,a1_2,a1_3,a1_4,a1_5⟩:S44),(0:Int)) else some ([],1300)) else some ([],1300)):Option (List S44×Int))=some (r1,r2):=h
  obtain ⟨ii,hii⟩:∃ ii:Nat,table_at.idx (fun y=>y.f0 == a1_0) l0=(ii:Int):=⟨(table_at.idx (fun y=>y.f0 == a1_0) l0).toNat,by omega⟩
  rw [hii] at h hlt
  rw [hii] at HAT
  rw [Int.toNat_natCast] at h
  have hib:decide ((0:Int)≤(ii:Int))=true:=decide_eq_true (by omega)
  have hil:ii < l0.length:=by omega
  have hilz:(ii:Int) < (l0.length:Int):=hlt
  clear hi hii hlt
  cases m with
  | false =>
   rw [if_neg (by decide)] at h
   simp only [Option.some.injEq,Prod.mk.injEq] at h
   obtain ⟨rfl,rfl⟩:=h
   go_enter Tryz.func23,Tryz.ntmps23
   go_wp2_with (first
    | (go_at_call 51;refine (HCL.out _ (c4_ HR.out (p3_ (Below.refl _ _) _))).mono ?_;rintro e w1 ⟨v,rfl,hv,hb1⟩;have HV:=am_ (Kd.R_lower hv (show w.heap.size≤_ by first|(simp;done)|exact Nat.le_succ _));have HVB:=am_ hv;have E1:=am_ (kb_ (blk_new w (.cells #[.int .i64 a1_0,.int .i64 a1_1,.string a1_2,.int .i64 a1_3,.string a1_4,.bool a1_5] 44)) hb1);have HB:=am_ (bt_ (p3_ (Below.refl _ _) _) hb1);have u0:=bc_ E1.out 0;clear hb1 hv)
    | (go_at_call 45;refine (HAT.out _ (c4_ HR.out HB.out)).mono ?_;rintro e w2 ⟨rfl,hb2⟩;have HVB2:=Kd.R_below HVB.out hb2;have E2:=am_ (kb_ E1.out hb2);have HB2:=am_ (bt_ HB.out hb2);have x0:=bc_ E2.out 0;have x1:=bc_ E2.out 1;have x2:=bc_ E2.out 2;have x3:=bc_ E2.out 3;have x4:=bc_ E2.out 4;have x5:=bc_ E2.out 5;obtain ⟨g,cap,rfl,hbg,_,_⟩:=Kd.R_form HVB2 (by omega);obtain ⟨cur,hc,_,hcap,hmx,hsz,_,_,hx⟩:=table_With.cells_of HVB2;have hbg0:w.heap.size≤g:=Nat.le_trans (by first|(simp;done)|exact Nat.le_succ _) hbg;have hgne:w.heap.size≠g:=Nat.ne_of_lt (Nat.lt_of_lt_of_le (by simp) hbg);have y0:=bc_ hc (ii * 6);have yh0:=hx (ii * 6+0) (by omega);have z0:=bf_ hc (ii * 6);have y1:=bc_ hc (ii * 6+1);have yh1:=hx (ii * 6+1) (by omega);have z1:=bf_ hc (ii * 6+1);have y2:=bc_ hc (ii * 6+2);have yh2:=hx (ii * 6+2) (by omega);have z2:=bf_ hc (ii * 6+2);have y3:=bc_ hc (ii * 6+3);have yh3:=hx (ii * 6+3) (by omega);have z3:=bf_ hc (ii * 6+3);have y4:=bc_ hc (ii * 6+4);have yh4:=hx (ii * 6+4) (by omega);have z4:=bf_ hc (ii * 6+4);have y5:=bc_ hc (ii * 6+5);have yh5:=hx (ii * 6+5) (by omega);have z5:=bf_ hc (ii * 6+5);rw [Nat.add_zero] at yh0;rw [yh0] at y0;rw [yh1] at y1;rw [yh2] at y2;rw [yh3] at y3;rw [yh4] at y4;rw [yh5] at y5;clear yh0 yh1 yh2 yh3 yh4 yh5;have HC3:=am_ (blk_set (blk_set (blk_set (blk_set (blk_set (blk_set hc (ii * 6) (.int .i64 a1_0)) (ii * 6+1) (.int .i64 a1_1)) (ii * 6+2) (.string a1_2)) (ii * 6+3) (.int .i64 a1_3)) (ii * 6+4) (.string a1_4)) (ii * 6+5) (.bool a1_5));have HX3:=am_ (table_With.set_cells hx ii hil (by omega) (⟨a1_0,a1_1,a1_2,a1_3,a1_4,a1_5⟩:S44));have HB4:=am_ (show Below w.heap.size w ((((((w2.setCell ⟨g,ii * 6,none⟩ (.int .i64 a1_0)).setCell ⟨g,ii * 6+1,none⟩ (.int .i64 a1_1)).setCell ⟨g,ii * 6+2,none⟩ (.string a1_2)).setCell ⟨g,ii * 6+3,none⟩ (.int .i64 a1_3)).setCell ⟨g,ii * 6+4,none⟩ (.string a1_4)).setCell ⟨g,ii * 6+5,none⟩ (.bool a1_5)) from ((((((HB2.out.setCell hbg0 _).setCell hbg0 _).setCell hbg0 _).setCell hbg0 _).setCell hbg0 _).setCell hbg0 _));have HV4:=am_ (show Kd.R k44 44 ((((((w2.setCell ⟨g,ii * 6,none⟩ (.int .i64 a1_0)).setCell ⟨g,ii * 6+1,none⟩ (.int .i64 a1_1)).setCell ⟨g,ii * 6+2,none⟩ (.string a1_2)).setCell ⟨g,ii * 6+3,none⟩ (.int .i64 a1_3)).setCell ⟨g,ii * 6+4,none⟩ (.string a1_4)).setCell ⟨g,ii * 6+5,none⟩ (.bool a1_5)) w.heap.size (fun _=>True) (.slice (some ⟨g,0,none⟩) l0.length cap) (l0.set ii (⟨a1_0,a1_1,a1_2,a1_3,a1_4,a1_5⟩:S44)) from table_With.of_cells HC3.out (List.length_set).symm hcap hmx (by simpa using hsz) hbg0 trivial HX3.out);have HN:=am_ hcap;clear hb2 HVB2 hx hc hcap hmx hsz hbg HC3 HX3)
    | (go_at_call 41;with_reducible refine (HM.out _ (c4_ HR.out HB4.out)).mono ?_;rintro e w5 ⟨rfl,hb5⟩;have HB5:=am_ (bt_ HB4.out hb5);have HV5:=am_ (Kd.R_below HV4.out hb5);clear hb5))
   go_ret2
   exact ⟨_,rfl,Kd.R_nil _ _ _ _ _,HB5.out⟩
  | true =>
   rw [if_pos rfl] at h
   replace h:=Option.bind_eq_some_iff.1 h
   obtain ⟨q,hq,h⟩:=h
   have HQ:=am_ (show ∀(W:World) (A:Option Addr) (c:Nat),Kd.C k44 W A l0.length (l0.set ii (⟨a1_0,a1_1,a1_2,a1_3,a1_4,a1_5⟩:S44))→l0.length≤c→Calls Tryz.prog 41 #[.slice A l0.length c] W fun e w'=>e=.returned (.bool q)∧Below W.heap.size W w' from fun W A c hr hc=>by
    have:=table_May_c.calls A c (l0.set ii (⟨a1_0,a1_1,a1_2,a1_3,a1_4,a1_5⟩:S44)) q W (by rw [List.length_set];exact hr) (by rw [List.length_set];exact hc) hq
    rw [List.length_set] at this
    exact this)
   clear hq
   cases q with
   | false =>
    rw [if_neg (by decide)] at h
    simp only [Option.some.injEq,Prod.mk.injEq] at h
    obtain ⟨rfl,rfl⟩:=h
    go_enter Tryz.func23,Tryz.ntmps23
    go_wp2_with (first
     | (go_at_call 51;refine (HCL.out _ (c4_ HR.out (p3_ (Below.refl _ _) _))).mono ?_;rintro e w1 ⟨v,rfl,hv,hb1⟩;have HV:=am_ (Kd.R_lower hv (show w.heap.size≤_ by first|(simp;done)|exact Nat.le_succ _));have HVB:=am_ hv;have E1:=am_ (kb_ (blk_new w (.cells #[.int .i64 a1_0,.int .i64 a1_1,.string a1_2,.int .i64 a1_3,.string a1_4,.bool a1_5] 44)) hb1);have HB:=am_ (bt_ (p3_ (Below.refl _ _) _) hb1);have u0:=bc_ E1.out 0;clear hb1 hv)
     | (go_at_call 45;refine (HAT.out _ (c4_ HR.out HB.out)).mono ?_;rintro e w2 ⟨rfl,hb2⟩;have HVB2:=Kd.R_below HVB.out hb2;have E2:=am_ (kb_ E1.out hb2);have HB2:=am_ (bt_ HB.out hb2);have x0:=bc_ E2.out 0;have x1:=bc_ E2.out 1;have x2:=bc_ E2.out 2;have x3:=bc_ E2.out 3;have x4:=bc_ E2.out 4;have x5:=bc_ E2.out 5;obtain ⟨g,cap,rfl,hbg,_,_⟩:=Kd.R_form HVB2 (by omega);obtain ⟨cur,hc,_,hcap,hmx,hsz,_,_,hx⟩:=table_With.cells_of HVB2;have hbg0:w.heap.size≤g:=Nat.le_trans (by first|(simp;done)|exact Nat.le_succ _) hbg;have hgne:w.heap.size≠g:=Nat.ne_of_lt (Nat.lt_of_lt_of_le (by simp) hbg);have y0:=bc_ hc (ii * 6);have yh0:=hx (ii * 6+0) (by omega);have z0:=bf_ hc (ii * 6);have y1:=bc_ hc (ii * 6+1);have yh1:=hx (ii * 6+1) (by omega);have z1:=bf_ hc (ii * 6+1);have y2:=bc_ hc (ii * 6+2);have yh2:=hx (ii * 6+2) (by omega);have z2:=bf_ hc (ii * 6+2);have y3:=bc_ hc (ii * 6+3);have yh3:=hx (ii * 6+3) (by omega);have z3:=bf_ hc (ii * 6+3);have y4:=bc_ hc (ii * 6+4);have yh4:=hx (ii * 6+4) (by omega);have z4:=bf_ hc (ii * 6+4);have y5:=bc_ hc (ii * 6+5);have yh5:=hx (ii * 6+5) (by omega);have z5:=bf_ hc (ii * 6+5);rw [Nat.add_zero] at yh0;rw [yh0] at y0;rw [yh1] at y1;rw [yh2] at y2;rw [yh3] at y3;rw [yh4] at y4;rw [yh5] at y5;clear yh0 yh1 yh2 yh3 yh4 yh5;have HC3:=am_ (blk_set (blk_set (blk_set (blk_set (blk_set (blk_set hc (ii * 6) (.int .i64 a1_0)) (ii * 6+1) (.int .i64 a1_1)) (ii * 6+2) (.string a1_2)) (ii * 6+3) (.int .i64 a1_3)) (ii * 6+4) (.string a1_4)) (ii * 6+5) (.bool a1_5));have HX3:=am_ (table_With.set_cells hx ii hil (by omega) (⟨a1_0,a1_1,a1_2,a1_3,a1_4,a1_5⟩:S44));have HB4:=am_ (show Below w.heap.size w ((((((w2.setCell ⟨g,ii * 6,none⟩ (.int .i64 a1_0)).setCell ⟨g,ii * 6+1,none⟩ (.int .i64 a1_1)).setCell ⟨g,ii * 6+2,none⟩ (.string a1_2)).setCell ⟨g,ii * 6+3,none⟩ (.int .i64 a1_3)).setCell ⟨g,ii * 6+4,none⟩ (.string a1_4)).setCell ⟨g,ii * 6+5,none⟩ (.bool a1_5)) from ((((((HB2.out.setCell hbg0 _).setCell hbg0 _).setCell hbg0 _).setCell hbg0 _).setCell hbg0 _).setCell hbg0 _));have HV4:=am_ (show Kd.R k44 44 ((((((w2.setCell ⟨g,ii * 6,none⟩ (.int .i64 a1_0)).setCell ⟨g,ii * 6+1,none⟩ (.int .i64 a1_1)).setCell ⟨g,ii * 6+2,none⟩ (.string a1_2)).setCell ⟨g,ii * 6+3,none⟩ (.int .i64 a1_3)).setCell ⟨g,ii * 6+4,none⟩ (.string a1_4)).setCell ⟨g,ii * 6+5,none⟩ (.bool a1_5)) w.heap.size (fun _=>True) (.slice (some ⟨g,0,none⟩) l0.length cap) (l0.set ii (⟨a1_0,a1_1,a1_2,a1_3,a1_4,a1_5⟩:S44)) from table_With.of_cells HC3.out (List.length_set).symm hcap hmx (by simpa using hsz) hbg0 trivial HX3.out);have HN:=am_ hcap;clear hb2 HVB2 hx hc hcap hmx hsz hbg HC3 HX3)
     | (go_at_call 41;with_reducible refine (HM.out _ (c4_ HR.out HB4.out)).mono ?_;rintro e w5 ⟨rfl,hb5⟩;have HB5:=am_ (bt_ HB4.out hb5);have HV5:=am_ (Kd.R_below HV4.out hb5);clear hb5)
     | (go_at_call 41;with_reducible refine (HQ.out _ _ _ (by have:=(Kd.R_reads' HV5.out).2.2;rw [List.length_set] at this;exact this) HN.out).mono ?_;rintro e w6 ⟨rfl,hb6⟩;have HB6:=am_ (bt_ HB5.out hb6);have HV6:=am_ (Kd.R_below HV5.out hb6);clear hb6))
    go_ret2
    exact ⟨_,rfl,Kd.R_nil _ _ _ _ _,HB6.out⟩
   | true =>
    rw [if_pos rfl] at h
    simp only [Option.some.injEq,Prod.mk.injEq] at h
    obtain ⟨rfl,rfl⟩:=h
    go_enter Tryz.func23,Tryz.ntmps23
    go_wp2_with (first
     | (go_at_call 51;refine (HCL.out _ (c4_ HR.out (p3_ (Below.refl _ _) _))).mono ?_;rintro e w1 ⟨v,rfl,hv,hb1⟩;have HV:=am_ (Kd.R_lower hv (show w.heap.size≤_ by first|(simp;done)|exact Nat.le_succ _));have HVB:=am_ hv;have E1:=am_ (kb_ (blk_new w (.cells #[.int .i64 a1_0,.int .i64 a1_1,.string a1_2,.int .i64 a1_3,.string a1_4,.bool a1_5] 44)) hb1);have HB:=am_ (bt_ (p3_ (Below.refl _ _) _) hb1);have u0:=bc_ E1.out 0;clear hb1 hv)
     | (go_at_call 45;refine (HAT.out _ (c4_ HR.out HB.out)).mono ?_;rintro e w2 ⟨rfl,hb2⟩;have HVB2:=Kd.R_below HVB.out hb2;have E2:=am_ (kb_ E1.out hb2);have HB2:=am_ (bt_ HB.out hb2);have x0:=bc_ E2.out 0;have x1:=bc_ E2.out 1;have x2:=bc_ E2.out 2;have x3:=bc_ E2.out 3;have x4:=bc_ E2.out 4;have x5:=bc_ E2.out 5;obtain ⟨g,cap,rfl,hbg,_,_⟩:=Kd.R_form HVB2 (by omega);obtain ⟨cur,hc,_,hcap,hmx,hsz,_,_,hx⟩:=table_With.cells_of HVB2;have hbg0:w.heap.size≤g:=Nat.le_trans (by first|(simp;done)|exact Nat.le_succ _) hbg;have hgne:w.heap.size≠g:=Nat.ne_of_lt (Nat.lt_of_lt_of_le (by simp) hbg);have y0:=bc_ hc (ii * 6);have yh0:=hx (ii * 6+0) (by omega);have z0:=bf_ hc (ii * 6);have y1:=bc_ hc (ii * 6+1);have yh1:=hx (ii * 6+1) (by omega);have z1:=bf_ hc (ii * 6+1);have y2:=bc_ hc (ii * 6+2);have yh2:=hx (ii * 6+2) (by omega);have z2:=bf_ hc (ii * 6+2);have y3:=bc_ hc (ii * 6+3);have yh3:=hx (ii * 6+3) (by omega);have z3:=bf_ hc (ii * 6+3);have y4:=bc_ hc (ii * 6+4);have yh4:=hx (ii * 6+4) (by omega);have z4:=bf_ hc (ii * 6+4);have y5:=bc_ hc (ii * 6+5);have yh5:=hx (ii * 6+5) (by omega);have z5:=bf_ hc (ii * 6+5);rw [Nat.add_zero] at yh0;rw [yh0] at y0;rw [yh1] at y1;rw [yh2] at y2;rw [yh3] at y3;rw [yh4] at y4;rw [yh5] at y5;clear yh0 yh1 yh2 yh3 yh4 yh5;have HC3:=am_ (blk_set (blk_set (blk_set (blk_set (blk_set (blk_set hc (ii * 6) (.int .i64 a1_0)) (ii * 6+1) (.int .i64 a1_1)) (ii * 6+2) (.string a1_2)) (ii * 6+3) (.int .i64 a1_3)) (ii * 6+4) (.string a1_4)) (ii * 6+5) (.bool a1_5));have HX3:=am_ (table_With.set_cells hx ii hil (by omega) (⟨a1_0,a1_1,a1_2,a1_3,a1_4,a1_5⟩:S44));have HB4:=am_ (show Below w.heap.size w ((((((w2.setCell ⟨g,ii * 6,none⟩ (.int .i64 a1_0)).setCell ⟨g,ii * 6+1,none⟩ (.int .i64 a1_1)).setCell ⟨g,ii * 6+2,none⟩ (.string a1_2)).setCell ⟨g,ii * 6+3,none⟩ (.int .i64 a1_3)).setCell ⟨g,ii * 6+4,none⟩ (.string a1_4)).setCell ⟨g,ii * 6+5,none⟩ (.bool a1_5)) from ((((((HB2.out.setCell hbg0 _).setCell hbg0 _).setCell hbg0 _).setCell hbg0 _).setCell hbg0 _).setCell hbg0 _));have HV4:=am_ (show Kd.R k44 44 ((((((w2.setCell ⟨g,ii * 6,none⟩ (.int .i64 a1_0)).setCell ⟨g,ii * 6+1,none⟩ (.int .i64 a1_1)).setCell ⟨g,ii * 6+2,none⟩ (.string a1_2)).setCell ⟨g,ii * 6+3,none⟩ (.int .i64 a1_3)).setCell ⟨g,ii * 6+4,none⟩ (.string a1_4)).setCell ⟨g,ii * 6+5,none⟩ (.bool a1_5)) w.heap.size (fun _=>True) (.slice (some ⟨g,0,none⟩) l0.length cap) (l0.set ii (⟨a1_0,a1_1,a1_2,a1_3,a1_4,a1_5⟩:S44)) from table_With.of_cells HC3.out (List.length_set).symm hcap hmx (by simpa using hsz) hbg0 trivial HX3.out);have HN:=am_ hcap;clear hb2 HVB2 hx hc hcap hmx hsz hbg HC3 HX3)
     | (go_at_call 41;with_reducible refine (HM.out _ (c4_ HR.out HB4.out)).mono ?_;rintro e w5 ⟨rfl,hb5⟩;have HB5:=am_ (bt_ HB4.out hb5);have HV5:=am_ (Kd.R_below HV4.out hb5);clear hb5)
     | (go_at_call 41;with_reducible refine (HQ.out _ _ _ (by have:=(Kd.R_reads' HV5.out).2.2;rw [List.length_set] at this;exact this) HN.out).mono ?_;rintro e w6 ⟨rfl,hb6⟩;have HB6:=am_ (bt_ HB5.out hb6);have HV6:=am_ (Kd.R_below HV5.out hb6);clear hb6))
    go_ret2
    exact ⟨_,rfl,HV6.out,HB6.out⟩
 ·have hi2:¬ (table_at.idx (fun y=>y.f0 == ((⟨a1_0,a1_1,a1_2,a1_3,a1_4,a1_5⟩:S44)).f0) l0 ≥ 0):=hi
  rw [if_neg hi2] at h
  have hib:decide ((0:Int)≤table_at.idx (fun y=>y.f0 == a1_0) l0)=false:=decide_eq_false hi
  clear hi hi2
  generalize table_at.idx (fun y=>y.f0 == a1_0) l0=i at HAT hib
  obtain ⟨xs,hxs⟩:∃ xs,l0 ++ [(⟨a1_0,a1_1,a1_2,a1_3,a1_4,a1_5⟩:S44)]=xs:=⟨_,rfl⟩
  rw [hxs] at h
  have HXL:=am_ (show xs.length=l0.length+1 by rw [←hxs];simp)
  cases m with
  | false =>
   rw [if_neg (by decide)] at h
   simp only [Option.some.injEq,Prod.mk.injEq] at h
   obtain ⟨rfl,rfl⟩:=h
   go_enter Tryz.func23,Tryz.ntmps23
   go_wp2_with (first
    | (go_at_call 51;refine (HCL.out _ (c4_ HR.out (p3_ (Below.refl _ _) _))).mono ?_;rintro e w1 ⟨v,rfl,hv,hb1⟩;have HV:=am_ (Kd.R_lower hv (show w.heap.size≤_ by first|(simp;done)|exact Nat.le_succ _));have HVB:=am_ hv;have E1:=am_ (kb_ (blk_new w (.cells #[.int .i64 a1_0,.int .i64 a1_1,.string a1_2,.int .i64 a1_3,.string a1_4,.bool a1_5] 44)) hb1);have HB:=am_ (bt_ (p3_ (Below.refl _ _) _) hb1);have u0:=bc_ E1.out 0;clear hb1 hv)
    | (go_at_call 45;refine (HAT.out _ (c4_ HR.out HB.out)).mono ?_;rintro e w2 ⟨rfl,hb2⟩;have HV2:=am_ (Kd.R_below HV.out hb2);have HVB2:=am_ (Kd.R_below HVB.out hb2);have E2:=am_ (kb_ E1.out hb2);have HB2:=am_ (bt_ HB.out hb2);have x0:=bc_ E2.out 0;have x1:=bc_ E2.out 1;have x2:=bc_ E2.out 2;have x3:=bc_ E2.out 3;have x4:=bc_ E2.out 4;have x5:=bc_ E2.out 5;clear hb2)
    | ((with_reducible refine gate_builtin (b:=.append) (xs:=#[.tmp 20,.tmp 22]) rfl ?_);at_builtin;refine Kd.R_append k44 (w0:=w) w.heap.size rfl (.tmp 20) (.tmp 22) 27 44 (.agg #[.int .i64 0,.int .i64 0,.string ⟨#[]⟩,.int .i64 0,.string ⟨#[]⟩,.bool false]) 64 rfl Tryz.underlying27 table_With.info rfl (by decide) (by omega) v l0 (⟨a1_0,a1_1,a1_2,a1_3,a1_4,a1_5⟩:S44) [.int .i64 a1_0,.int .i64 a1_1,.string a1_2,.int .i64 a1_3,.string a1_4,.bool a1_5] (fun _=>True) (fun _=>False) rfl rfl ?aP (fun _ hk=>hk.elim) ?aF ?aO ?aB ?aS ?aL ?_;(case aP=>exact k44_mkM _ _ _ (⟨a1_0,a1_1,a1_2,a1_3,a1_4,a1_5⟩:S44));(case aF=>exact fun _ _=>trivial);(case aO=>exact HV2.out);(case aB=>exact HB2.out);(case aS=>exact HB2.out.size);(case aL=>omega);intro v1 w3 ho hb hg hat;rw [hxs] at ho;obtain ⟨g,cap,rfl,hbg,_,_⟩:=Kd.R_form ho (by have:=HXL.out;omega);obtain ⟨cur,hc,_,hcap,hmx,hsz,_,_,hx⟩:=table_With.cells_of ho;have HB3:=am_ hb;have HC3:=am_ hc;have HX3:=am_ hx;have HG:=am_ hbg;have HN:=am_ hcap;have HMX:=am_ hmx;have HSZ:=am_ hsz;clear ho hb hg hat hc hx hbg hcap hmx hsz)
    | (go_at_call 52;refine (table_With.sort xs g cap cur w3 HC3.out HN.out HSZ.out HX3.out (by have:=HXL.out;omega) (by have:=HXL.out;omega)).mono ?_;rintro e w4 ⟨rfl,cur',hc',hs',hx',hg'⟩;have HB4:=am_ (HB3.out.grown hg' HB3.out.size (fun k hk=>by cases hk;exact HG.out));have HV4:=am_ (table_With.of_cells (base:=w.heap.size) (ok:=fun _=>True) hc' (table_With.srt_length xs).symm HN.out HMX.out hs' HG.out trivial hx');clear hc' hs' hx' hg')
    | (go_at_call 41;with_reducible refine (HM.out _ (c4_ HR.out HB4.out)).mono ?_;rintro e w5 ⟨rfl,hb5⟩;have HB5:=am_ (bt_ HB4.out hb5);have HV5:=am_ (Kd.R_below HV4.out hb5);clear hb5))
   go_ret2
   exact ⟨_,rfl,Kd.R_nil _ _ _ _ _,HB5.out⟩
  | true =>
   rw [if_pos rfl] at h
   replace h:=Option.bind_eq_some_iff.1 h
   obtain ⟨q,hq,h⟩:=h
   have HQ:=am_ (show ∀(W:World) (A:Option Addr) (c:Nat),Kd.C k44 W A xs.length (table_With.srt xs)→xs.length≤c→Calls Tryz.prog 41 #[.slice A xs.length c] W fun e w'=>e=.returned (.bool q)∧Below W.heap.size W w' from fun W A c hr hc=>by
    have:=table_May_c.calls A c (table_With.srt xs) q W (by rw [table_With.srt_length];exact hr) (by rw [table_With.srt_length];exact hc) hq
    rw [table_With.srt_length] at this
    exact this)
   clear hq
   cases q with
   | false =>
    rw [if_neg (by decide)] at h
    simp only [Option.some.injEq,Prod.mk.injEq] at h
    obtain ⟨rfl,rfl⟩:=h
    go_enter Tryz.func23,Tryz.ntmps23
    go_wp2_with (first
     | (go_at_call 51;refine (HCL.out _ (c4_ HR.out (p3_ (Below.refl _ _) _))).mono ?_;rintro e w1 ⟨v,rfl,hv,hb1⟩;have HV:=am_ (Kd.R_lower hv (show w.heap.size≤_ by first|(simp;done)|exact Nat.le_succ _));have HVB:=am_ hv;have E1:=am_ (kb_ (blk_new w (.cells #[.int .i64 a1_0,.int .i64 a1_1,.string a1_2,.int .i64 a1_3,.string a1_4,.bool a1_5] 44)) hb1);have HB:=am_ (bt_ (p3_ (Below.refl _ _) _) hb1);have u0:=bc_ E1.out 0;clear hb1 hv)
     | (go_at_call 45;refine (HAT.out _ (c4_ HR.out HB.out)).mono ?_;rintro e w2 ⟨rfl,hb2⟩;have HV2:=am_ (Kd.R_below HV.out hb2);have HVB2:=am_ (Kd.R_below HVB.out hb2);have E2:=am_ (kb_ E1.out hb2);have HB2:=am_ (bt_ HB.out hb2);have x0:=bc_ E2.out 0;have x1:=bc_ E2.out 1;have x2:=bc_ E2.out 2;have x3:=bc_ E2.out 3;have x4:=bc_ E2.out 4;have x5:=bc_ E2.out 5;clear hb2)
     | ((with_reducible refine gate_builtin (b:=.append) (xs:=#[.tmp 20,.tmp 22]) rfl ?_);at_builtin;refine Kd.R_append k44 (w0:=w) w.heap.size rfl (.tmp 20) (.tmp 22) 27 44 (.agg #[.int .i64 0,.int .i64 0,.string ⟨#[]⟩,.int .i64 0,.string ⟨#[]⟩,.bool false]) 64 rfl Tryz.underlying27 table_With.info rfl (by decide) (by omega) v l0 (⟨a1_0,a1_1,a1_2,a1_3,a1_4,a1_5⟩:S44) [.int .i64 a1_0,.int .i64 a1_1,.string a1_2,.int .i64 a1_3,.string a1_4,.bool a1_5] (fun _=>True) (fun _=>False) rfl rfl ?aP (fun _ hk=>hk.elim) ?aF ?aO ?aB ?aS ?aL ?_;(case aP=>exact k44_mkM _ _ _ (⟨a1_0,a1_1,a1_2,a1_3,a1_4,a1_5⟩:S44));(case aF=>exact fun _ _=>trivial);(case aO=>exact HV2.out);(case aB=>exact HB2.out);(case aS=>exact HB2.out.size);(case aL=>omega);intro v1 w3 ho hb hg hat;rw [hxs] at ho;obtain ⟨g,cap,rfl,hbg,_,_⟩:=Kd.R_form ho (by have:=HXL.out;omega);obtain ⟨cur,hc,_,hcap,hmx,hsz,_,_,hx⟩:=table_With.cells_of ho;have HB3:=am_ hb;have HC3:=am_ hc;have HX3:=am_ hx;have HG:=am_ hbg;have HN:=am_ hcap;have HMX:=am_ hmx;have HSZ:=am_ hsz;clear ho hb hg hat hc hx hbg hcap hmx hsz)
     | (go_at_call 52;refine (table_With.sort xs g cap cur w3 HC3.out HN.out HSZ.out HX3.out (by have:=HXL.out;omega) (by have:=HXL.out;omega)).mono ?_;rintro e w4 ⟨rfl,cur',hc',hs',hx',hg'⟩;have HB4:=am_ (HB3.out.grown hg' HB3.out.size (fun k hk=>by cases hk;exact HG.out));have HV4:=am_ (table_With.of_cells (base:=w.heap.size) (ok:=fun _=>True) hc' (table_With.srt_length xs).symm HN.out HMX.out hs' HG.out trivial hx');clear hc' hs' hx' hg')
     | (go_at_call 41;with_reducible refine (HM.out _ (c4_ HR.out HB4.out)).mono ?_;rintro e w5 ⟨rfl,hb5⟩;have HB5:=am_ (bt_ HB4.out hb5);have HV5:=am_ (Kd.R_below HV4.out hb5);clear hb5)
     | (go_at_call 41;with_reducible refine (HQ.out _ _ _ (by have:=(Kd.R_reads' HV5.out).2.2;rw [table_With.srt_length] at this;exact this) HN.out).mono ?_;rintro e w6 ⟨rfl,hb6⟩;have HB6:=am_ (bt_ HB5.out hb6);have HV6:=am_ (Kd.R_below HV5.out hb6);clear hb6))
    go_ret2
    exact ⟨_,rfl,Kd.R_nil _ _ _ _ _,HB6.out⟩
   | true =>
    rw [if_pos rfl] at h
    simp only [Option.some.injEq,Prod.mk.injEq] at h
    obtain ⟨rfl,rfl⟩:=h
    go_enter Tryz.func23,Tryz.ntmps23
    go_wp2_with (first
     | (go_at_call 51;refine (HCL.out _ (c4_ HR.out (p3_ (Below.refl _ _) _))).mono ?_;rintro e w1 ⟨v,rfl,hv,hb1⟩;have HV:=am_ (Kd.R_lower hv (show w.heap.size≤_ by first|(simp;done)|exact Nat.le_succ _));have HVB:=am_ hv;have E1:=am_ (kb_ (blk_new w (.cells #[.int .i64 a1_0,.int .i64 a1_1,.string a1_2,.int .i64 a1_3,.string a1_4,.bool a1_5] 44)) hb1);have HB:=am_ (bt_ (p3_ (Below.refl _ _) _) hb1);have u0:=bc_ E1.out 0;clear hb1 hv)
     | (go_at_call 45;refine (HAT.out _ (c4_ HR.out HB.out)).mono ?_;rintro e w2 ⟨rfl,hb2⟩;have HV2:=am_ (Kd.R_below HV.out hb2);have HVB2:=am_ (Kd.R_below HVB.out hb2);have E2:=am_ (kb_ E1.out hb2);have HB2:=am_ (bt_ HB.out hb2);have x0:=bc_ E2.out 0;have x1:=bc_ E2.out 1;have x2:=bc_ E2.out 2;have x3:=bc_ E2.out 3;have x4:=bc_ E2.out 4;have x5:=bc_ E2.out 5;clear hb2)
     | ((with_reducible refine gate_builtin (b:=.append) (xs:=#[.tmp 20,.tmp 22]) rfl ?_);at_builtin;refine Kd.R_append k44 (w0:=w) w.heap.size rfl (.tmp 20) (.tmp 22) 27 44 (.agg #[.int .i64 0,.int .i64 0,.string ⟨#[]⟩,.int .i64 0,.string ⟨#[]⟩,.bool false]) 64 rfl Tryz.underlying27 table_With.info rfl (by decide) (by omega) v l0 (⟨a1_0,a1_1,a1_2,a1_3,a1_4,a1_5⟩:S44) [.int .i64 a1_0,.int .i64 a1_1,.string a1_2,.int .i64 a1_3,.string a1_4,.bool a1_5] (fun _=>True) (fun _=>False) rfl rfl ?aP (fun _ hk=>hk.elim) ?aF ?aO ?aB ?aS ?aL ?_;(case aP=>exact k44_mkM _ _ _ (⟨a1_0,a1_1,a1_2,a1_3,a1_4,a1_5⟩:S44));(case aF=>exact fun _ _=>trivial);(case aO=>exact HV2.out);(case aB=>exact HB2.out);(case aS=>exact HB2.out.size);(case aL=>omega);intro v1 w3 ho hb hg hat;rw [hxs] at ho;obtain ⟨g,cap,rfl,hbg,_,_⟩:=Kd.R_form ho (by have:=HXL.out;omega);obtain ⟨cur,hc,_,hcap,hmx,hsz,_,_,hx⟩:=table_With.cells_of ho;have HB3:=am_ hb;have HC3:=am_ hc;have HX3:=am_ hx;have HG:=am_ hbg;have HN:=am_ hcap;have HMX:=am_ hmx;have HSZ:=am_ hsz;clear ho hb hg hat hc hx hbg hcap hmx hsz)
     | (go_at_call 52;refine (table_With.sort xs g cap cur w3 HC3.out HN.out HSZ.out HX3.out (by have:=HXL.out;omega) (by have:=HXL.out;omega)).mono ?_;rintro e w4 ⟨rfl,cur',hc',hs',hx',hg'⟩;have HB4:=am_ (HB3.out.grown hg' HB3.out.size (fun k hk=>by cases hk;exact HG.out));have HV4:=am_ (table_With.of_cells (base:=w.heap.size) (ok:=fun _=>True) hc' (table_With.srt_length xs).symm HN.out HMX.out hs' HG.out trivial hx');clear hc' hs' hx' hg')
     | (go_at_call 41;with_reducible refine (HM.out _ (c4_ HR.out HB4.out)).mono ?_;rintro e w5 ⟨rfl,hb5⟩;have HB5:=am_ (bt_ HB4.out hb5);have HV5:=am_ (Kd.R_below HV4.out hb5);clear hb5)
     | (go_at_call 41;with_reducible refine (HQ.out _ _ _ (by have:=(Kd.R_reads' HV5.out).2.2;rw [table_With.srt_length] at this;exact this) HN.out).mono ?_;rintro e w6 ⟨rfl,hb6⟩;have HB6:=am_ (bt_ HB5.out hb6);have HV6:=am_ (Kd.R_below HV5.out hb6);clear hb6))
    go_ret2
    exact ⟨_,rfl,HV6.out,HB6.out⟩

/-! ### lease_Freed: function 54 -/
def lease_Freed.f (a0_0:Int) (a0_1:Int) (a0_2:ByteArray) (a0_3:Int) (a0_4:ByteArray) (a0_5:Bool):Option (Int×Int×ByteArray×Int×ByteArray×Bool):=some (a0_0,0,a0_2,a0_3,(⟨#[]⟩:ByteArray),false)
theorem lease_Freed.calls (a0_0:Int) (a0_1:Int) (a0_2:ByteArray) (a0_3:Int) (a0_4:ByteArray) (a0_5:Bool) (r1:Int) (r2:Int) (r3:ByteArray) (r4:Int) (r5:ByteArray) (r6:Bool) (w:World) (h:lease_Freed.f a0_0 a0_1 a0_2 a0_3 a0_4 a0_5=some (r1,r2,r3,r4,r5,r6)) :
  Calls Tryz.prog 54 #[.agg #[.int .i64 a0_0,.int .i64 a0_1,.string a0_2,.int .i64 a0_3,.string a0_4,.bool a0_5]] w fun e w'=>e=.returned (.agg #[.int .i64 r1,.int .i64 r2,.string r3,.int .i64 r4,.string r5,.bool r6])∧Below w.heap.size w w':=by
 have hu44:=Tryz.underlying44
 have HB:=am_ (Below.refl w.heap.size w)
 have H:(some (a0_0,0,a0_2,a0_3,(⟨#[]⟩:ByteArray),false))=some (r1,r2,r3,r4,r5,r6):=h
 clear h
 simp only [Option.some.injEq,Prod.mk.injEq] at H
 obtain ⟨rfl,rfl,rfl,rfl,rfl,rfl⟩:=H
 go_enter Tryz.func54,Tryz.ntmps54
 go_wp2_with (first|((with_reducible refine gate_dst (N:=1) rfl ?_);refine box_event ?hg (N:=1) ?hd (cs:=#[.int .i64 a0_0,.int .i64 a0_1,.string a0_2,.int .i64 a0_3,.string a0_4,.bool a0_5]) (t:=44) ?hr ?_;(case hd=>rfl);(case hg=>rfl);(case hr=>first|(go_simp;done)|(go_simp;rfl));intro gb145 hg w2 hbox hb;have n0_:=am_ (bt_ (by repeat (with_reducible first|exact HB.out|apply p3_|apply p1_|apply p2_)) hb);have n1_:=am_ (hbox);have n2_:=am_ ((by rw [hg];exact (bz_ (by repeat (with_reducible first|exact HB.out|apply p3_|apply p1_|apply p2_))):w.heap.size≤gb145));have n3_:=am_ ((by rw [hg];exact (bz_ (by repeat (with_reducible first|exact HB.out|apply p3_|apply p1_|apply p2_))):w.heap.size≤gb145));clear HB;have HB:=n0_;have BK145:=n1_;have GW145:=n2_;have GE145:=n3_;clear n0_ n1_ n2_ n3_;clear hb hbox hg)|((with_reducible refine gate_dst (N:=2) rfl ?_);refine box_event ?hg (N:=2) ?hd (cs:=#[.int .i64 0,.int .i64 0,.string (⟨#[]⟩:ByteArray),.int .i64 0,.string (⟨#[]⟩:ByteArray),.bool false]) (t:=44) ?hr ?_;(case hd=>rfl);(case hg=>rfl);(case hr=>first|(go_simp;done)|(go_simp;rfl));intro gb146 hg w3 hbox hb;have n0_:=am_ (kb_ (g:=gb145) (o:=.cells #[.int .i64 a0_0,.int .i64 a0_1,.string a0_2,.int .i64 a0_3,.string a0_4,.bool a0_5] 44 (0,0)) (by (with_reducible repeat (first|refine k2_ ?_ _|refine k3_ ?_|refine k1_ ?_ _));exact BK145.out) hb);have n1_:=am_ (bt_ (by repeat (with_reducible first|exact HB.out|apply p3_|apply p1_|apply p2_|refine bs_ ?_ GE145.out)) hb);have n2_:=am_ (hbox);have n3_:=am_ ((by rw [hg];exact (bz_ (by repeat (with_reducible first|exact HB.out|apply p3_|apply p1_|apply p2_|refine bs_ ?_ GE145.out))):w.heap.size≤gb146));have n4_:=am_ ((by rw [hg];exact (bz_ (by repeat (with_reducible first|exact HB.out|apply p3_|apply p1_|apply p2_|refine bs_ ?_ GE145.out))):w.heap.size≤gb146));have n5_:=am_ ((by rw [hg];exact Nat.ne_of_lt (blk_lt (g:=gb145) (o:=.cells #[.int .i64 a0_0,.int .i64 a0_1,.string a0_2,.int .i64 a0_3,.string a0_4,.bool a0_5] 44 (0,0)) (by (with_reducible repeat (first|refine k2_ ?_ _|refine k3_ ?_|refine k1_ ?_ _));exact BK145.out)):gb145≠gb146));have n6_:=am_ ((by rw [hg];exact Nat.ne_of_gt (blk_lt (g:=gb145) (o:=.cells #[.int .i64 a0_0,.int .i64 a0_1,.string a0_2,.int .i64 a0_3,.string a0_4,.bool a0_5] 44 (0,0)) (by (with_reducible repeat (first|refine k2_ ?_ _|refine k3_ ?_|refine k1_ ?_ _));exact BK145.out)):gb146≠gb145));clear BK145;clear HB;have BK145:=n0_;have HB:=n1_;have BK146:=n2_;have GW146:=n3_;have GE146:=n4_;have NB145_146:=n5_;have NB146_145:=n6_;clear n0_ n1_ n2_ n3_ n4_ n5_ n6_;clear hb hbox hg;have hnb4:=NB145_146.out;have hnc4:=NB146_145.out;have hcz5_0:w3.cell? ⟨gb145,0,none⟩=some (.int .i64 a0_0):=(bc_ BK145.out 0).trans rfl;have hcz5_1:w3.cell? ⟨gb145,1,none⟩=some (.int .i64 a0_1):=(bc_ BK145.out 1).trans rfl;have hcz5_2:w3.cell? ⟨gb145,2,none⟩=some (.string a0_2):=(bc_ BK145.out 2).trans rfl;have hcz5_3:w3.cell? ⟨gb145,3,none⟩=some (.int .i64 a0_3):=(bc_ BK145.out 3).trans rfl;have hcz5_4:w3.cell? ⟨gb145,4,none⟩=some (.string a0_4):=(bc_ BK145.out 4).trans rfl;have hcz5_5:w3.cell? ⟨gb145,5,none⟩=some (.bool a0_5):=(bc_ BK145.out 5).trans rfl;have hfz5_0:=bf_ BK145.out 0;have hfz5_1:=bf_ BK145.out 1;have hfz5_2:=bf_ BK145.out 2;have hfz5_3:=bf_ BK145.out 3;have hfz5_4:=bf_ BK145.out 4;have hfz5_5:=bf_ BK145.out 5;have hcz6_0:w3.cell? ⟨gb146,0,none⟩=some (.int .i64 0):=(bc_ BK146.out 0).trans rfl;have hcz6_1:w3.cell? ⟨gb146,1,none⟩=some (.int .i64 0):=(bc_ BK146.out 1).trans rfl;have hcz6_2:w3.cell? ⟨gb146,2,none⟩=some (.string (⟨#[]⟩:ByteArray)):=(bc_ BK146.out 2).trans rfl;have hcz6_3:w3.cell? ⟨gb146,3,none⟩=some (.int .i64 0):=(bc_ BK146.out 3).trans rfl;have hcz6_4:w3.cell? ⟨gb146,4,none⟩=some (.string (⟨#[]⟩:ByteArray)):=(bc_ BK146.out 4).trans rfl;have hcz6_5:w3.cell? ⟨gb146,5,none⟩=some (.bool false):=(bc_ BK146.out 5).trans rfl;have hfz6_0:=bf_ BK146.out 0;have hfz6_1:=bf_ BK146.out 1;have hfz6_2:=bf_ BK146.out 2;have hfz6_3:=bf_ BK146.out 3;have hfz6_4:=bf_ BK146.out 4;have hfz6_5:=bf_ BK146.out 5))
 refine bodyPost_ret (results_cell_row rfl _ _ gb146 44 #[.int .i64 a0_0,.int .i64 0,.string a0_2,.int .i64 a0_3,.string (⟨#[]⟩:ByteArray),.bool false] (0,0) _ rfl (by (with_reducible repeat (first|refine k2_ ?_ _|refine k3_ ?_|refine k1_ ?_ _));refine blk_put (cs:=#[.int .i64 a0_0,.int .i64 0,.string a0_2,.int .i64 a0_3,.string (⟨#[]⟩:ByteArray),.bool false]) ?_ 5 _ rfl;(with_reducible repeat (first|refine k2_ ?_ _|refine k3_ ?_|refine k1_ ?_ _));refine blk_put (cs:=#[.int .i64 a0_0,.int .i64 0,.string a0_2,.int .i64 a0_3,.string (⟨#[]⟩:ByteArray),.bool false]) ?_ 4 _ rfl;(with_reducible repeat (first|refine k2_ ?_ _|refine k3_ ?_|refine k1_ ?_ _));refine blk_put (cs:=#[.int .i64 a0_0,.int .i64 0,.string a0_2,.int .i64 0,.string (⟨#[]⟩:ByteArray),.bool false]) ?_ 3 _ rfl;(with_reducible repeat (first|refine k2_ ?_ _|refine k3_ ?_|refine k1_ ?_ _));refine blk_put (cs:=#[.int .i64 a0_0,.int .i64 0,.string (⟨#[]⟩:ByteArray),.int .i64 0,.string (⟨#[]⟩:ByteArray),.bool false]) ?_ 2 _ rfl;(with_reducible repeat (first|refine k2_ ?_ _|refine k3_ ?_|refine k1_ ?_ _));refine blk_put (cs:=#[.int .i64 a0_0,.int .i64 0,.string (⟨#[]⟩:ByteArray),.int .i64 0,.string (⟨#[]⟩:ByteArray),.bool false]) ?_ 1 _ rfl;(with_reducible repeat (first|refine k2_ ?_ _|refine k3_ ?_|refine k1_ ?_ _));refine blk_put (cs:=#[.int .i64 0,.int .i64 0,.string (⟨#[]⟩:ByteArray),.int .i64 0,.string (⟨#[]⟩:ByteArray),.bool false]) ?_ 0 _ rfl;(with_reducible repeat (first|refine k2_ ?_ _|refine k3_ ?_|refine k1_ ?_ _));exact BK146.out) Tryz.underlying44 rfl (by kernel_rfl)) rfl ?_
 exact ⟨by first|rfl|(simp [errW_none,errW_some]<;>rfl)|(simp [*,errW_none,errW_some]<;>rfl),by repeat (with_reducible first|exact HB.out|apply p3_|apply p1_|apply p2_|refine bs_ ?_ GE145.out|refine bs_ ?_ GE146.out)⟩

end Go.Proofs.YtibalpbkmgegnaaGreatDoor.PL
