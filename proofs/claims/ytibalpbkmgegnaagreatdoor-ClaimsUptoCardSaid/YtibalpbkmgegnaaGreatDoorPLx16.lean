-- Made by wip/pr.py out of the translation (a turned copy of the kit's print; contracts by hand where said).
import Derived.Test.YtibalpbkmgegnaaGreatDoorPLx0
import Derived.Test.YtibalpbkmgegnaaGreatDoorPLx4
import Derived.Test.YtibalpbkmgegnaaGreatDoorPLx5
import Derived.Test.YtibalpbkmgegnaaGreatDoorPLx13
import Derived.Test.YtibalpbkmgegnaaGreatDoorPLx14
import Derived.Test.YtibalpbkmgegnaaGreatDoorPLx15
namespace Go.Proofs.YtibalpbkmgegnaaGreatDoor.PL
open Go.RowKit Go.Proofs.YtibalpbkmgegnaaGreatDoorW.PrintWords Go.Proofs.YtibalpbkmgegnaaGreatDoorW.PrintLast Go.Proofs.YtibalpbkmgegnaaGreatDoorW.PrintMore
-- shrunk
attribute [local go_sem] max2_int min2_int max_two min_two max_three min_three max_four min_four   -- for this text's walks alone
set_option linter.unusedVariables false
set_option linter.unusedSimpArgs false
set_option maxHeartbeats 8000000
set_option maxRecDepth 100000

/-! ### pinfoldref11_Usable: function 64 -/
-- BY HAND
-- 56
def pinfoldref11_Usable_c.f (a0_0:Int) (a0_1:Int) (l0_2:List Int) (l0_3:List S95) (a0_4:Int) (a0_5:ByteArray) (l0_6:List S93) (a1:Int):Option Bool:=if confFitR l0_2 l0_3 a0_5 l0_6 then some (usableB a0_0 a0_1 l0_2 l0_3 a0_4 a0_5 l0_6 a1) else none
theorem pinfoldref11_Usable_c.calls (a0_0:Int) (a0_1:Int) (A0_2:Option Addr) (c0_2:Nat) (l0_2:List Int) (A0_3:Option Addr) (c0_3:Nat) (l0_3:List S95) (a0_4:Int) (a0_5:ByteArray) (A0_6:Option Addr) (c0_6:Nat) (l0_6:List S93) (a1:Int) (r:Bool) (w:World) (hr0_2:Kd.C (Kd.int .i64) w A0_2 l0_2.length l0_2) (hc0_2:l0_2.length≤c0_2) (hr0_3:Kd.C k95 w A0_3 l0_3.length l0_3) (hc0_3:l0_3.length≤c0_3) (hr0_6:Kd.C k93 w A0_6 l0_6.length l0_6) (hc0_6:l0_6.length≤c0_6) (h:pinfoldref11_Usable_c.f a0_0 a0_1 l0_2 l0_3 a0_4 a0_5 l0_6 a1=some r) :
  Calls Tryz.prog 64 #[.agg #[.int .i64 a0_0,.int .i64 a0_1,.slice A0_2 l0_2.length c0_2,.slice A0_3 l0_3.length c0_3,.int .i64 a0_4,.string a0_5,.slice A0_6 l0_6.length c0_6],.int .i64 a1] w fun e w'=>e=.returned (.bool r)∧Below w.heap.size w w':=by
 unfold pinfoldref11_Usable_c.f at h
 by_cases hs:confFitR l0_2 l0_3 a0_5 l0_6
 rotate_left
 ·rw [if_neg hs] at h
  cases h
 rw [if_pos hs] at h
 have HR:(decide (a1∉l0_2) && (confB a0_0 a0_1 l0_2 l0_3 a0_4 a0_5 l0_6 && decide (a0_0≤a1∧a1≤a0_1)))=r:=e5_ h
 obtain ⟨b1,h1⟩:∃ b,confB a0_0 a0_1 l0_2 l0_3 a0_4 a0_5 l0_6=b:=⟨_,rfl⟩
 rw [h1] at HR
 have C1:=am_ (fun W (hb:Below w.heap.size w W)=>pinfoldref11_ConfMay.calls a0_0 a0_1 A0_2 c0_2 l0_2 A0_3 c0_3 l0_3 a0_4 a0_5 A0_6 c0_6 l0_6 b1 W (c4_ hr0_2 hb) hc0_2 (c4_ hr0_3 hb) hc0_3 (c4_ hr0_6 hb) hc0_6 (by unfold pinfoldref11_ConfMay.f;rw [if_pos hs,h1]))
 have hl:=hs.1
 have HK2:=am_ hr0_2
 have HB:=am_ (Below.refl w.heap.size w)
 have BK:=am_ (blk_new w (.cells #[.int .i64 a0_0,.int .i64 a0_1,.slice A0_2 l0_2.length c0_2,.slice A0_3 l0_3.length c0_3,.int .i64 a0_4,.string a0_5,.slice A0_6 l0_6.length c0_6] 26))
 have u0:=bc_ BK.out 0
 have u1:=bc_ BK.out 1
 have u2:=bc_ BK.out 2
 have u3:=bc_ BK.out 3
 have u4:=bc_ BK.out 4
 have u5:=bc_ BK.out 5
 have u6:=bc_ BK.out 6
 clear h hs h1 hr0_2 hr0_3 hr0_6 hc0_2 hc0_3 hc0_6
 by_cases hin:b1=true∧a0_0≤a1∧a1≤a0_1
 rotate_left
 ·have HF:=am_ (show false=r by
   rw [←HR,show (b1 && decide (a0_0≤a1∧a1≤a0_1))=false by
    rw [Bool.eq_false_iff]
    intro e
    rw [Bool.and_eq_true,decide_eq_true_eq] at e
    exact hin e,Bool.and_false])
  clear HR HK2
  cases b1 with
  | false =>
   clear hin
   go_enter Tryz.func64,Tryz.ntmps64
   go_wp2_with (first|(go_at_call 56;(with_reducible refine (C1.out _ (by repeat (with_reducible first|exact HB.out|apply p3_|apply p1_|apply p2_))).mono ?_);rintro e w1 ⟨rfl,hb2⟩;replace BK:=am_ (kb_ (show _ from (by (with_reducible repeat (first|exact BK.out|refine k2_ ?_ _|refine k3_ ?_|refine k1_ ?_ _)))) hb2);replace HB:=am_ (bt_ (show Below w.heap.size w _ from (by repeat (with_reducible first|exact HB.out|apply p3_|apply p1_|apply p2_))) hb2);clear hb2;clear u0 u1 u2 u3 u4 u5 u6;have u0:=bc_ BK.out 0;have u1:=bc_ BK.out 1;have u2:=bc_ BK.out 2;have u3:=bc_ BK.out 3;have u4:=bc_ BK.out 4;have u5:=bc_ BK.out 5;have u6:=bc_ BK.out 6))
   go_ret
   exact ⟨ret_bool HF.out,HB.out⟩
  | true =>
   by_cases q1:a1 < a0_0
   ·have q1b:decide (a1 < a0_0)=true:=decide_eq_true q1
    clear hin q1
    go_enter Tryz.func64,Tryz.ntmps64
    go_wp2_with (first|(go_at_call 56;(with_reducible refine (C1.out _ (by repeat (with_reducible first|exact HB.out|apply p3_|apply p1_|apply p2_))).mono ?_);rintro e w1 ⟨rfl,hb2⟩;replace BK:=am_ (kb_ (show _ from (by (with_reducible repeat (first|exact BK.out|refine k2_ ?_ _|refine k3_ ?_|refine k1_ ?_ _)))) hb2);replace HB:=am_ (bt_ (show Below w.heap.size w _ from (by repeat (with_reducible first|exact HB.out|apply p3_|apply p1_|apply p2_))) hb2);clear hb2;clear u0 u1 u2 u3 u4 u5 u6;have u0:=bc_ BK.out 0;have u1:=bc_ BK.out 1;have u2:=bc_ BK.out 2;have u3:=bc_ BK.out 3;have u4:=bc_ BK.out 4;have u5:=bc_ BK.out 5;have u6:=bc_ BK.out 6))
    go_ret
    exact ⟨ret_bool HF.out,HB.out⟩
   ·have q1b:decide (a1 < a0_0)=false:=decide_eq_false q1
    have q2b:decide (a0_1 < a1)=true:=decide_eq_true (by
     refine Int.not_le.1 (fun e=>hin ⟨rfl,by omega,e⟩))
    clear hin q1
    go_enter Tryz.func64,Tryz.ntmps64
    go_wp2_with (first|(go_at_call 56;(with_reducible refine (C1.out _ (by repeat (with_reducible first|exact HB.out|apply p3_|apply p1_|apply p2_))).mono ?_);rintro e w1 ⟨rfl,hb2⟩;replace BK:=am_ (kb_ (show _ from (by (with_reducible repeat (first|exact BK.out|refine k2_ ?_ _|refine k3_ ?_|refine k1_ ?_ _)))) hb2);replace HB:=am_ (bt_ (show Below w.heap.size w _ from (by repeat (with_reducible first|exact HB.out|apply p3_|apply p1_|apply p2_))) hb2);clear hb2;clear u0 u1 u2 u3 u4 u5 u6;have u0:=bc_ BK.out 0;have u1:=bc_ BK.out 1;have u2:=bc_ BK.out 2;have u3:=bc_ BK.out 3;have u4:=bc_ BK.out 4;have u5:=bc_ BK.out 5;have u6:=bc_ BK.out 6))
    go_ret
    exact ⟨ret_bool HF.out,HB.out⟩
 obtain ⟨rfl,q1,q2⟩:=hin
 have q1b:decide (a1 < a0_0)=false:=decide_eq_false (by omega)
 have q2b:decide (a0_1 < a1)=false:=decide_eq_false (by omega)
 have HN:=am_ (show decide (a1∉l0_2.drop (0:Int).toNat)=r by rw [←HR,decide_eq_true (show a0_0≤a1∧a1≤a0_1 from ⟨q1,q2⟩),Bool.and_self,Bool.and_true];rfl)
 clear HR q1 q2
 go_enter Tryz.func64,Tryz.ntmps64
 go_wp2_with (first|(go_at_call 56;(with_reducible refine (C1.out _ (by repeat (with_reducible first|exact HB.out|apply p3_|apply p1_|apply p2_))).mono ?_);rintro e w1 ⟨rfl,hb2⟩;replace BK:=am_ (kb_ (show _ from (by (with_reducible repeat (first|exact BK.out|refine k2_ ?_ _|refine k3_ ?_|refine k1_ ?_ _)))) hb2);replace HB:=am_ (bt_ (show Below w.heap.size w _ from (by repeat (with_reducible first|exact HB.out|apply p3_|apply p1_|apply p2_))) hb2);clear hb2;clear u0 u1 u2 u3 u4 u5 u6;have u0:=bc_ BK.out 0;have u1:=bc_ BK.out 1;have u2:=bc_ BK.out 2;have u3:=bc_ BK.out 3;have u4:=bc_ BK.out 4;have u5:=bc_ BK.out 5;have u6:=bc_ BK.out 6))
 clear u0 u1 u2 u3 u4 u5 u6 C1 q1b q2b
 go_loopg [5] l0_2.length (fun d v w'=>∃ i:Int,0≤i∧i.toNat+d=l0_2.length∧v=.int .i64 i∧Aside0 (Below w.heap.size w w')∧Aside0 (w'.heap[w.heap.size]?=some (.cells #[.int .i64 a0_0,.int .i64 a0_1,.slice A0_2 l0_2.length c0_2,.slice A0_3 l0_3.length c0_3,.int .i64 a0_4,.string a0_5,.slice A0_6 l0_6.length c0_6] 26))∧Aside0 (decide (a1∉l0_2.drop i.toNat)=r))
 case atStart=>exact ⟨0,by omega,by simp,rfl,HB,BK,HN⟩
 case round =>
  clear HB BK HN
  obtain ⟨i,hi0,hd,rfl,HB,BK,HN⟩:=hrel
  have u0:=bc_ BK.out 0
  have u1:=bc_ BK.out 1
  have u2:=bc_ BK.out 2
  have u3:=bc_ BK.out 3
  have u4:=bc_ BK.out 4
  have u5:=bc_ BK.out 5
  have u6:=bc_ BK.out 6
  have hn:=HN.out
  clear HN
  by_cases hlt:i < (l0_2.length:Int)
  ·obtain ⟨ad,e1,hx0⟩:=Kd.at_int HK2.out i hi0 hlt
   cases e1
   replace hx0:=(HB.out.cell (wb_ w _ hx0)).trans hx0
   rw [dropIn_ l0_2 i hi0 hlt] at hn
   generalize rd l0_2 i=x at hx0 hn
   by_cases q:x=a1
   ·have qb:(x == a1)=true:=by simpa using q
    have HF:=am_ (show false=r by rw [←hn,eq_comm,decide_eq_false_iff_not];exact fun e=>e (by rw [q];exact List.mem_cons_self))
    clear hn q
    go_wp2
    go_ret
    exact ⟨ret_bool HF.out,HB.out⟩
   ·have qb:(x == a1)=false:=by simpa using q
    have HN:=am_ (show decide (a1∉l0_2.drop (i+1).toNat)=r by
     rw [←hn,show (i+1).toNat=i.toNat+1 by omega,decide_eq_decide,List.mem_cons,not_or]
     exact ⟨fun e=>⟨fun e2=>q e2.symm,e⟩,fun e=>e.2⟩)
    clear hn q
    go_wp2
    go_roundg (l0_2.length - (i.toNat+1))
    case measure=>first|omega|(simp;omega)
    case rel=>exact ⟨i+1,by omega,by omega,by go_num,HB,BK,HN⟩
  ·rw [List.drop_eq_nil_of_le (by omega)] at hn
   have HF:=am_ (show true=r by rw [←hn];rfl)
   clear hn
   go_wp2
   go_ret
   exact ⟨ret_bool HF.out,HB.out⟩

/-! ### pinfoldref11_mayHave: function 32 -/
-- BY HAND
-- 63 64
def pinfoldref11_mayHave_c.f (a0_0:Int) (a0_1:Int) (l0_2:List Int) (l0_3:List S95) (a0_4:Int) (a0_5:ByteArray) (l0_6:List S93) (host:Int) (client:ByteArray):Option Bool:=if confFitR l0_2 l0_3 a0_5 l0_6 then some (lentB a0_0 a0_1 l0_2 l0_3 a0_4 a0_5 l0_6 host client) else none
theorem pinfoldref11_mayHave_c.calls (a0_0:Int) (a0_1:Int) (A0_2:Option Addr) (c0_2:Nat) (l0_2:List Int) (A0_3:Option Addr) (c0_3:Nat) (l0_3:List S95) (a0_4:Int) (a0_5:ByteArray) (A0_6:Option Addr) (c0_6:Nat) (l0_6:List S93) (host:Int) (client:ByteArray) (r:Bool) (w:World) (hr0_2:Kd.C (Kd.int .i64) w A0_2 l0_2.length l0_2) (hc0_2:l0_2.length≤c0_2) (hr0_3:Kd.C k95 w A0_3 l0_3.length l0_3) (hc0_3:l0_3.length≤c0_3) (hr0_6:Kd.C k93 w A0_6 l0_6.length l0_6) (hc0_6:l0_6.length≤c0_6) (h:pinfoldref11_mayHave_c.f a0_0 a0_1 l0_2 l0_3 a0_4 a0_5 l0_6 host client=some r) :
  Calls Tryz.prog 32 #[.agg #[.int .i64 a0_0,.int .i64 a0_1,.slice A0_2 l0_2.length c0_2,.slice A0_3 l0_3.length c0_3,.int .i64 a0_4,.string a0_5,.slice A0_6 l0_6.length c0_6],.int .i64 host,.string client] w fun e w'=>e=.returned (.bool r)∧Below w.heap.size w w':=by
 unfold pinfoldref11_mayHave_c.f at h
 by_cases hs:confFitR l0_2 l0_3 a0_5 l0_6
 rotate_left
 ·rw [if_neg hs] at h
  cases h
 rw [if_pos hs] at h
 replace h:=e5_ h
 unfold lentB at h
 obtain ⟨N,hN⟩:∃ v,foundN (ownerR a0_0 a0_1 l0_2 l0_3 a0_4 a0_5 l0_6 host)=v:=⟨_,rfl⟩
 obtain ⟨I,hI⟩:∃ v,foundIs (ownerR a0_0 a0_1 l0_2 l0_3 a0_4 a0_5 l0_6 host)=v:=⟨_,rfl⟩
 obtain ⟨U,hU⟩:∃ v,usableB a0_0 a0_1 l0_2 l0_3 a0_4 a0_5 l0_6 host=v:=⟨_,rfl⟩
 rw [hN,hI,hU] at h
 have C1:=am_ (fun W (hb:Below w.heap.size w W)=>pinfoldref11_Owner_c.calls a0_0 a0_1 A0_2 c0_2 l0_2 A0_3 c0_3 l0_3 a0_4 a0_5 A0_6 c0_6 l0_6 host N I W (c4_ hr0_2 hb) hc0_2 (c4_ hr0_3 hb) hc0_3 (c4_ hr0_6 hb) hc0_6 (by unfold pinfoldref11_Owner_c.f;rw [if_pos hs,hN,hI]))
 have C2:=am_ (fun W (hb:Below w.heap.size w W)=>pinfoldref11_Usable_c.calls a0_0 a0_1 A0_2 c0_2 l0_2 A0_3 c0_3 l0_3 a0_4 a0_5 A0_6 c0_6 l0_6 host U W (c4_ hr0_2 hb) hc0_2 (c4_ hr0_3 hb) hc0_3 (c4_ hr0_6 hb) hc0_6 (by unfold pinfoldref11_Usable_c.f;rw [if_pos hs,hU]))
 have HR:=am_ h
 have HB:=am_ (Below.refl w.heap.size w)
 have BK:=am_ (blk_new w (.cells #[.int .i64 a0_0,.int .i64 a0_1,.slice A0_2 l0_2.length c0_2,.slice A0_3 l0_3.length c0_3,.int .i64 a0_4,.string a0_5,.slice A0_6 l0_6.length c0_6] 26))
 have u0:=bc_ BK.out 0
 have u1:=bc_ BK.out 1
 have u2:=bc_ BK.out 2
 have u3:=bc_ BK.out 3
 have u4:=bc_ BK.out 4
 have u5:=bc_ BK.out 5
 have u6:=bc_ BK.out 6
 clear h hN hI hU hr0_2 hr0_3 hr0_6 hc0_2 hc0_3 hc0_6 hs
 go_enter Tryz.func32,Tryz.ntmps32
 go_wp2_with (first
  | (go_at_call 63;(with_reducible refine (C1.out _ (by repeat (with_reducible first|exact HB.out|apply p3_|apply p1_|apply p2_))).mono ?_);rintro e w1 ⟨rfl,hb2⟩;replace BK:=am_ (kb_ (show _ from (by (with_reducible repeat (first|exact BK.out|refine k2_ ?_ _|refine k3_ ?_|refine k1_ ?_ _)))) hb2);replace HB:=am_ (bt_ (show Below w.heap.size w _ from (by repeat (with_reducible first|exact HB.out|apply p3_|apply p1_|apply p2_))) hb2);clear hb2;clear u0 u1 u2 u3 u4 u5 u6;have u0:=bc_ BK.out 0;have u1:=bc_ BK.out 1;have u2:=bc_ BK.out 2;have u3:=bc_ BK.out 3;have u4:=bc_ BK.out 4;have u5:=bc_ BK.out 5;have u6:=bc_ BK.out 6)
  | (go_at_call 64;(with_reducible refine (C2.out _ (by repeat (with_reducible first|exact HB.out|apply p3_|apply p1_|apply p2_))).mono ?_);rintro e w2 ⟨rfl,hb2⟩;replace HB:=am_ (bt_ (show Below w.heap.size w _ from (by repeat (with_reducible first|exact HB.out|apply p3_|apply p1_|apply p2_))) hb2);clear hb2;clear u0 u1 u2 u3 u4 u5 u6))
 all_goals (try go_ret)
 all_goals refine ⟨ret_bool ?_,?_⟩
 all_goals first
  | ((repeat (with_reducible first|exact HB.out|apply p3_|apply p1_|apply p2_));done)
  | (rw [←HR.out];clear HR HB C1 C2 BK;rw [Bool.eq_iff_iff];(simp_all;done))
  | (rw [←HR.out];clear HR HB C1 C2 BK;simp_all)

/-! ### pinfoldref11_Full: function 65 -/
def pinfoldref11_Full.j0:Nat→ByteArray→Bool→Int→Int→List Int→List (S95)→Int→ByteArray→List (S93)→Option (ByteArray)
 | 0,_,_,_,_,_,_,_,_,_=>none
 | k+1,x1,x16,x177000,x177001,x177002,x177003,x177004,x177005,x177006=>if x16=true then (some (⟨#[]⟩:ByteArray)) else ((pinfoldref1_Labels_c.f x1).bind fun t179=>(if (t179.length:Int)=1 then (if x1.size+1≤9223372036854775807 then (if (x1 ++ (⟨#[46]⟩:ByteArray)).size+x177005.size≤9223372036854775807 then (if ((x1 ++ (⟨#[46]⟩:ByteArray)) ++ x177005).toList=x177005.toList then (some (⟨#[]⟩:ByteArray)) else ((pinfoldref1_Under_c.f ((x1 ++ (⟨#[46]⟩:ByteArray)) ++ x177005) x177005).bind fun t182=>(if t182=true then (some ((x1 ++ (⟨#[46]⟩:ByteArray)) ++ x177005)) else (some (⟨#[]⟩:ByteArray))))) else (none)) else (none)) else (if x1.toList=x177005.toList then (some (⟨#[]⟩:ByteArray)) else ((pinfoldref1_Under_c.f x1 x177005).bind fun t183=>(if t183=true then (some x1) else (some (⟨#[]⟩:ByteArray)))))))
def pinfoldref11_Full.f (k:Nat) (a0_0:Int) (a0_1:Int) (l0_2:List Int) (l0_3:List (S95)) (a0_4:Int) (a0_5:ByteArray) (l0_6:List (S93)) (a1:ByteArray):Option (ByteArray):=(pinfoldref11_ConfMay.f a0_0 a0_1 l0_2 l0_3 a0_4 a0_5 l0_6).bind fun t177=>(if t177=true then (if a1.toList=([]:List UInt8) then (pinfoldref11_Full.j0 k a1 true a0_0 a0_1 l0_2 l0_3 a0_4 a0_5 l0_6) else ((pinfoldref1_NameMay_c.f a1).bind fun t178=>(pinfoldref11_Full.j0 k a1 (!t178) a0_0 a0_1 l0_2 l0_3 a0_4 a0_5 l0_6))) else (pinfoldref11_Full.j0 k a1 true a0_0 a0_1 l0_2 l0_3 a0_4 a0_5 l0_6))
theorem pinfoldref11_Full.mono_l:∀ k,(∀y0 y1 y2 y3 y4 y5 y6 y7 y8,LeO (pinfoldref11_Full.j0 k y0 y1 y2 y3 y4 y5 y6 y7 y8) (pinfoldref11_Full.j0 (k+1) y0 y1 y2 y3 y4 y5 y6 y7 y8))
 | 0=>fun _ _ _ _ _ _ _ _ _ r h=>by simp [pinfoldref11_Full.j0] at h
 | k+1=>by
  have ih0:=pinfoldref11_Full.mono_l k
  ·intro y0 y1 y2 y3 y4 y5 y6 y7 y8
   unfold pinfoldref11_Full.j0
   repeat' first
   | (with_reducible exact ih0 _ _ _ _ _ _ _ _ _)
   | (with_reducible exact LeO.refl _)
   | (with_reducible exact LeO.none _)
   | (with_reducible refine LeO.ite ?_ ?_)
   | (with_reducible refine LeO.bind ?_ (fun _=>?_))
   | exact ih0 _ _ _ _ _ _ _ _ _
   | exact LeO.none _
   | refine LeO.ite ?_ ?_
   | refine LeO.bind ?_ (fun _=>?_)
theorem pinfoldref11_Full.mono:∀ a0 a1 a2 a3 a4 a5 a6 a7 k,LeO (pinfoldref11_Full.f k a0 a1 a2 a3 a4 a5 a6 a7) (pinfoldref11_Full.f (k+1) a0 a1 a2 a3 a4 a5 a6 a7):=by
 intro a0 a1 a2 a3 a4 a5 a6 a7 k
 have ih0:=pinfoldref11_Full.mono_l k
 unfold pinfoldref11_Full.f
 repeat' first
   | (with_reducible exact ih0 _ _ _ _ _ _ _ _ _)
   | (with_reducible exact LeO.refl _)
   | (with_reducible exact LeO.none _)
   | (with_reducible refine LeO.ite ?_ ?_)
   | (with_reducible refine LeO.bind ?_ (fun _=>?_))
   | exact ih0 _ _ _ _ _ _ _ _ _
   | exact LeO.none _
   | refine LeO.ite ?_ ?_
   | refine LeO.bind ?_ (fun _=>?_)
theorem pinfoldref11_Full.calls (k:Nat) (a0_0:Int) (a0_1:Int) (A0_2:Option Addr) (c0_2:Nat) (l0_2:List Int) (A0_3:Option Addr) (c0_3:Nat) (l0_3:List (S95)) (a0_4:Int) (a0_5:ByteArray) (A0_6:Option Addr) (c0_6:Nat) (l0_6:List (S93)) (a1:ByteArray) (r:ByteArray) (w:World) (hr0_2:Kd.C (Kd.int .i64) w A0_2 l0_2.length l0_2) (hc0_2:l0_2.length≤c0_2) (hr0_3:Kd.C k95 w A0_3 l0_3.length l0_3) (hc0_3:l0_3.length≤c0_3) (hr0_6:Kd.C k93 w A0_6 l0_6.length l0_6) (hc0_6:l0_6.length≤c0_6) (h:pinfoldref11_Full.f k a0_0 a0_1 l0_2 l0_3 a0_4 a0_5 l0_6 a1=some r) :
  Calls Tryz.prog 65 #[.agg #[.int .i64 a0_0,.int .i64 a0_1,.slice A0_2 l0_2.length c0_2,.slice A0_3 l0_3.length c0_3,.int .i64 a0_4,.string a0_5,.slice A0_6 l0_6.length c0_6],.string a1] w fun e w'=>e=.returned (.string r)∧Below w.heap.size w w':=by
 have hu26:=Tryz.underlying26
 have HR0_2:=am_ hr0_2
 have HC0_2:=am_ hc0_2
 clear hr0_2 hc0_2
 have HR0_3:=am_ hr0_3
 have HC0_3:=am_ hc0_3
 clear hr0_3 hc0_3
 have HR0_6:=am_ hr0_6
 have HC0_6:=am_ hc0_6
 clear hr0_6 hc0_6
 have HB:=am_ (Below.refl w.heap.size w)
 have H:((pinfoldref11_ConfMay.f a0_0 a0_1 l0_2 l0_3 a0_4 a0_5 l0_6).bind fun t177=>(if t177=true then (if a1.toList=([]:List UInt8) then (pinfoldref11_Full.j0 k a1 true a0_0 a0_1 l0_2 l0_3 a0_4 a0_5 l0_6) else ((pinfoldref1_NameMay_c.f a1).bind fun t178=>(pinfoldref11_Full.j0 k a1 (!t178) a0_0 a0_1 l0_2 l0_3 a0_4 a0_5 l0_6))) else (pinfoldref11_Full.j0 k a1 true a0_0 a0_1 l0_2 l0_3 a0_4 a0_5 l0_6)))=some r:=h
 clear h
 have HC3:=am_ H
 clear H
 go_enter Tryz.func65,Tryz.ntmps65
 go_upto_region 1 with (first|((with_reducible refine gate_dst (N:=2) rfl ?_);refine box_event ?hg (N:=2) ?hd (cs:=#[.int .i64 a0_0,.int .i64 a0_1,.slice A0_2 l0_2.length c0_2,.slice A0_3 l0_3.length c0_3,.int .i64 a0_4,.string a0_5,.slice A0_6 l0_6.length c0_6]) (t:=26) ?hr ?_;(case hd=>rfl);(case hg=>rfl);(case hr=>first|(go_simp;done)|(go_simp;rfl));intro gb176 hg w4 hbox hb;have n0_:=am_ (bt_ (by repeat (with_reducible first|exact HB.out|apply p3_|apply p1_|apply p2_)) hb);have n1_:=am_ (hbox);have n2_:=am_ ((by rw [hg];exact (bz_ (by repeat (with_reducible first|exact HB.out|apply p3_|apply p1_|apply p2_))):w.heap.size≤gb176));have n3_:=am_ ((by rw [hg];exact (bz_ (by repeat (with_reducible first|exact HB.out|apply p3_|apply p1_|apply p2_))):w.heap.size≤gb176));clear HB;have HB:=n0_;have BK176:=n1_;have GW176:=n2_;have GE176:=n3_;clear n0_ n1_ n2_ n3_;clear hb hbox hg))
 (try simp only [Act.put,sa_,sb_,sc_])
 go_cut [16] (fun v16 wc=>∃ (kq:Nat) (x16_2:Bool),v16=.bool x16_2∧Aside0 (pinfoldref11_Full.j0 kq a1 x16_2 a0_0 a0_1 l0_2 l0_3 a0_4 a0_5 l0_6=some r)∧Aside0 (kq≤k)∧Aside0 (wc.heap[gb176]?=some (.cells #[.int .i64 a0_0,.int .i64 a0_1,(.slice A0_2 l0_2.length c0_2),(.slice A0_3 l0_3.length c0_3),.int .i64 a0_4,.string a0_5,(.slice A0_6 l0_6.length c0_6)] 26 (0,0)))∧Aside0 (Below w.heap.size w wc))
 case first =>
  have H:=HC3.out
  clear HC3
  replace H:=e4_ H
  obtain ⟨t177,A50,H⟩:=H
  replace H:(if t177=true then (if a1.toList=([]:List UInt8) then (pinfoldref11_Full.j0 k a1 true a0_0 a0_1 l0_2 l0_3 a0_4 a0_5 l0_6) else ((pinfoldref1_NameMay_c.f a1).bind fun t178=>(pinfoldref11_Full.j0 k a1 (!t178) a0_0 a0_1 l0_2 l0_3 a0_4 a0_5 l0_6))) else (pinfoldref11_Full.j0 k a1 true a0_0 a0_1 l0_2 l0_3 a0_4 a0_5 l0_6))=some r:=H
  have A5:=am_ A50
  clear A50
  by_cases c6:t177=true
  ·subst c6
   have H1:(if a1.toList=([]:List UInt8) then (pinfoldref11_Full.j0 k a1 true a0_0 a0_1 l0_2 l0_3 a0_4 a0_5 l0_6) else ((pinfoldref1_NameMay_c.f a1).bind fun t178=>(pinfoldref11_Full.j0 k a1 (!t178) a0_0 a0_1 l0_2 l0_3 a0_4 a0_5 l0_6)))=some r:=by rw [if_pos rfl] at H;exact H
   clear H
   have H:=H1
   clear H1
   by_cases c7:a1.toList=([]:List UInt8)
   ·rw [if_pos c7] at H
    have c7b0:(a1.toList == ([]:List UInt8))=true:=beq_iff_eq.mpr c7
    have c7b1:(a1.toList != ([]:List UInt8))=false:=e1_ c7
    clear c7
    (first|rw [c7b0]|(simp only [i64_w,i32_w];rw [c7b0])|skip)
    have H':=am_ H
    clear H
    have hcz8_0:w4.cell? ⟨gb176,0,none⟩=some (.int .i64 a0_0):=(bc_ BK176.out 0).trans rfl;have hcz8_1:w4.cell? ⟨gb176,1,none⟩=some (.int .i64 a0_1):=(bc_ BK176.out 1).trans rfl;have hcz8_2:w4.cell? ⟨gb176,2,none⟩=some (.slice A0_2 l0_2.length c0_2):=(bc_ BK176.out 2).trans rfl;have hcz8_3:w4.cell? ⟨gb176,3,none⟩=some (.slice A0_3 l0_3.length c0_3):=(bc_ BK176.out 3).trans rfl;have hcz8_4:w4.cell? ⟨gb176,4,none⟩=some (.int .i64 a0_4):=(bc_ BK176.out 4).trans rfl;have hcz8_5:w4.cell? ⟨gb176,5,none⟩=some (.string a0_5):=(bc_ BK176.out 5).trans rfl;have hcz8_6:w4.cell? ⟨gb176,6,none⟩=some (.slice A0_6 l0_6.length c0_6):=(bc_ BK176.out 6).trans rfl;have hfz8_0:=bf_ BK176.out 0;have hfz8_1:=bf_ BK176.out 1;have hfz8_2:=bf_ BK176.out 2;have hfz8_3:=bf_ BK176.out 3;have hfz8_4:=bf_ BK176.out 4;have hfz8_5:=bf_ BK176.out 5;have hfz8_6:=bf_ BK176.out 6
    go_wp2_with (first|((with_reducible refine gate_callee (f:=56) rfl ?_);refine goesL_ (some 6) rfl rfl Tryz.func56 (by kernel_rfl) rfl #[.agg #[.int .i64 a0_0,.int .i64 a0_1,.slice A0_2 l0_2.length c0_2,.slice A0_3 l0_3.length c0_3,.int .i64 a0_4,.string a0_5,.slice A0_6 l0_6.length c0_6]] rfl (by (try simp only [List.map_toArray,List.map_cons,List.map_nil]);first|done|rfl|(simp only [List.length_drop,List.length_take];rfl)) ?_;(with_reducible refine (pinfoldref11_ConfMay.calls a0_0 a0_1 _ _ l0_2 _ _ l0_3 a0_4 a0_5 _ _ l0_6 true _ ?side1 ?side2 ?side3 ?side4 ?side5 ?side6 A5.out).mono ?_);(case side1=>repeat (first|exact (c4_ HR0_2.out HB.out)|(with_reducible refine c1_ ?_ _)|(with_reducible refine c2_ ?_ _)|(with_reducible refine c3_ ?_)));(case side2=>exact HC0_2.out);(case side3=>repeat (first|exact (c4_ HR0_3.out HB.out)|(with_reducible refine c1_ ?_ _)|(with_reducible refine c2_ ?_ _)|(with_reducible refine c3_ ?_)));(case side4=>exact HC0_3.out);(case side5=>repeat (first|exact (c4_ HR0_6.out HB.out)|(with_reducible refine c1_ ?_ _)|(with_reducible refine c2_ ?_ _)|(with_reducible refine c3_ ?_)));(case side6=>exact HC0_6.out);rintro e w9 ⟨rfl,hb⟩;refine ⟨_,rfl,?_⟩;have n0_:=am_ (kb_ (g:=gb176) (o:=.cells #[.int .i64 a0_0,.int .i64 a0_1,.slice A0_2 l0_2.length c0_2,.slice A0_3 l0_3.length c0_3,.int .i64 a0_4,.string a0_5,.slice A0_6 l0_6.length c0_6] 26 (0,0)) (by (with_reducible repeat (first|refine k2_ ?_ _|refine k3_ ?_|refine k1_ ?_ _));exact BK176.out) hb);have n1_:=am_ (bt_ (by repeat (with_reducible first|exact HB.out|apply p3_|apply p1_|apply p2_|refine bs_ ?_ GE176.out)) hb);clear BK176;clear HB;have BK176:=n0_;have HB:=n1_;clear n0_ n1_;(try clear hb)))
    go_meet
    case rel=>exact ⟨_,(true),(by first|rfl|(simp;done)|(simp [*];done)|(simp only [str_ne_];rfl)|(simp only [str_eq_];rfl)),H',⟨by first|omega|exact Nat.le_refl _⟩,⟨by (with_reducible repeat (first|refine k2_ ?_ _|refine k3_ ?_|refine k1_ ?_ _));exact BK176.out⟩,⟨by repeat (with_reducible first|exact HB.out|apply p3_|apply p1_|apply p2_|refine bs_ ?_ GE176.out)⟩⟩
   rw [if_neg c7] at H
   have c7b0:(a1.toList == ([]:List UInt8))=false:=e2_ c7
   have c7b1:(a1.toList != ([]:List UInt8))=true:=bne_iff_ne.mpr c7
   (first|rw [c7b0]|(simp only [i64_w,i32_w];rw [c7b0])|skip)
   replace H:=e4_ H
   obtain ⟨t178,A100,H⟩:=H
   replace H:(pinfoldref11_Full.j0 k a1 (!t178) a0_0 a0_1 l0_2 l0_3 a0_4 a0_5 l0_6)=some r:=H
   have A10:=am_ A100
   clear A100
   have H':=am_ H
   clear H
   have hcz11_0:w4.cell? ⟨gb176,0,none⟩=some (.int .i64 a0_0):=(bc_ BK176.out 0).trans rfl;have hcz11_1:w4.cell? ⟨gb176,1,none⟩=some (.int .i64 a0_1):=(bc_ BK176.out 1).trans rfl;have hcz11_2:w4.cell? ⟨gb176,2,none⟩=some (.slice A0_2 l0_2.length c0_2):=(bc_ BK176.out 2).trans rfl;have hcz11_3:w4.cell? ⟨gb176,3,none⟩=some (.slice A0_3 l0_3.length c0_3):=(bc_ BK176.out 3).trans rfl;have hcz11_4:w4.cell? ⟨gb176,4,none⟩=some (.int .i64 a0_4):=(bc_ BK176.out 4).trans rfl;have hcz11_5:w4.cell? ⟨gb176,5,none⟩=some (.string a0_5):=(bc_ BK176.out 5).trans rfl;have hcz11_6:w4.cell? ⟨gb176,6,none⟩=some (.slice A0_6 l0_6.length c0_6):=(bc_ BK176.out 6).trans rfl;have hfz11_0:=bf_ BK176.out 0;have hfz11_1:=bf_ BK176.out 1;have hfz11_2:=bf_ BK176.out 2;have hfz11_3:=bf_ BK176.out 3;have hfz11_4:=bf_ BK176.out 4;have hfz11_5:=bf_ BK176.out 5;have hfz11_6:=bf_ BK176.out 6
   go_wp2_with (first|((with_reducible refine gate_callee (f:=56) rfl ?_);refine goesL_ (some 6) rfl rfl Tryz.func56 (by kernel_rfl) rfl #[.agg #[.int .i64 a0_0,.int .i64 a0_1,.slice A0_2 l0_2.length c0_2,.slice A0_3 l0_3.length c0_3,.int .i64 a0_4,.string a0_5,.slice A0_6 l0_6.length c0_6]] rfl (by (try simp only [List.map_toArray,List.map_cons,List.map_nil]);first|done|rfl|(simp only [List.length_drop,List.length_take];rfl)) ?_;(with_reducible refine (pinfoldref11_ConfMay.calls a0_0 a0_1 _ _ l0_2 _ _ l0_3 a0_4 a0_5 _ _ l0_6 true _ ?side1 ?side2 ?side3 ?side4 ?side5 ?side6 A5.out).mono ?_);(case side1=>repeat (first|exact (c4_ HR0_2.out HB.out)|(with_reducible refine c1_ ?_ _)|(with_reducible refine c2_ ?_ _)|(with_reducible refine c3_ ?_)));(case side2=>exact HC0_2.out);(case side3=>repeat (first|exact (c4_ HR0_3.out HB.out)|(with_reducible refine c1_ ?_ _)|(with_reducible refine c2_ ?_ _)|(with_reducible refine c3_ ?_)));(case side4=>exact HC0_3.out);(case side5=>repeat (first|exact (c4_ HR0_6.out HB.out)|(with_reducible refine c1_ ?_ _)|(with_reducible refine c2_ ?_ _)|(with_reducible refine c3_ ?_)));(case side6=>exact HC0_6.out);rintro e w12 ⟨rfl,hb⟩;refine ⟨_,rfl,?_⟩;have n0_:=am_ (kb_ (g:=gb176) (o:=.cells #[.int .i64 a0_0,.int .i64 a0_1,.slice A0_2 l0_2.length c0_2,.slice A0_3 l0_3.length c0_3,.int .i64 a0_4,.string a0_5,.slice A0_6 l0_6.length c0_6] 26 (0,0)) (by (with_reducible repeat (first|refine k2_ ?_ _|refine k3_ ?_|refine k1_ ?_ _));exact BK176.out) hb);have n1_:=am_ (bt_ (by repeat (with_reducible first|exact HB.out|apply p3_|apply p1_|apply p2_|refine bs_ ?_ GE176.out)) hb);clear BK176;clear HB;have BK176:=n0_;have HB:=n1_;clear n0_ n1_;(try clear hb))|(go_at_call 28;(with_reducible refine (pinfoldref1_NameMay_c.calls a1 t178 _ A10.out).mono ?_);rintro e w13 ⟨rfl,hb⟩;have n0_:=am_ (kb_ (g:=gb176) (o:=.cells #[.int .i64 a0_0,.int .i64 a0_1,.slice A0_2 l0_2.length c0_2,.slice A0_3 l0_3.length c0_3,.int .i64 a0_4,.string a0_5,.slice A0_6 l0_6.length c0_6] 26 (0,0)) (by (with_reducible repeat (first|refine k2_ ?_ _|refine k3_ ?_|refine k1_ ?_ _));exact BK176.out) hb);have n1_:=am_ (bt_ (by repeat (with_reducible first|exact HB.out|apply p3_|apply p1_|apply p2_|refine bs_ ?_ GE176.out)) hb);clear BK176;clear HB;have BK176:=n0_;have HB:=n1_;clear n0_ n1_;(try clear hb)))
   go_meet
   case rel=>exact ⟨_,(!t178),(by first|rfl|(simp;done)|(simp [*];done)|(simp only [str_ne_];rfl)|(simp only [str_eq_];rfl)),H',⟨by first|omega|exact Nat.le_refl _⟩,⟨by (with_reducible repeat (first|refine k2_ ?_ _|refine k3_ ?_|refine k1_ ?_ _));exact BK176.out⟩,⟨by repeat (with_reducible first|exact HB.out|apply p3_|apply p1_|apply p2_|refine bs_ ?_ GE176.out)⟩⟩
  replace c6:=e3_ c6
  subst c6
  have H1:(pinfoldref11_Full.j0 k a1 true a0_0 a0_1 l0_2 l0_3 a0_4 a0_5 l0_6)=some r:=by rw [if_neg (show ¬(false=true) by decide)] at H;exact H
  clear H
  have H:=H1
  clear H1
  have H':=am_ H
  clear H
  have hcz14_0:w4.cell? ⟨gb176,0,none⟩=some (.int .i64 a0_0):=(bc_ BK176.out 0).trans rfl;have hcz14_1:w4.cell? ⟨gb176,1,none⟩=some (.int .i64 a0_1):=(bc_ BK176.out 1).trans rfl;have hcz14_2:w4.cell? ⟨gb176,2,none⟩=some (.slice A0_2 l0_2.length c0_2):=(bc_ BK176.out 2).trans rfl;have hcz14_3:w4.cell? ⟨gb176,3,none⟩=some (.slice A0_3 l0_3.length c0_3):=(bc_ BK176.out 3).trans rfl;have hcz14_4:w4.cell? ⟨gb176,4,none⟩=some (.int .i64 a0_4):=(bc_ BK176.out 4).trans rfl;have hcz14_5:w4.cell? ⟨gb176,5,none⟩=some (.string a0_5):=(bc_ BK176.out 5).trans rfl;have hcz14_6:w4.cell? ⟨gb176,6,none⟩=some (.slice A0_6 l0_6.length c0_6):=(bc_ BK176.out 6).trans rfl;have hfz14_0:=bf_ BK176.out 0;have hfz14_1:=bf_ BK176.out 1;have hfz14_2:=bf_ BK176.out 2;have hfz14_3:=bf_ BK176.out 3;have hfz14_4:=bf_ BK176.out 4;have hfz14_5:=bf_ BK176.out 5;have hfz14_6:=bf_ BK176.out 6
  go_wp2_with (first|((with_reducible refine gate_callee (f:=56) rfl ?_);refine goesL_ (some 6) rfl rfl Tryz.func56 (by kernel_rfl) rfl #[.agg #[.int .i64 a0_0,.int .i64 a0_1,.slice A0_2 l0_2.length c0_2,.slice A0_3 l0_3.length c0_3,.int .i64 a0_4,.string a0_5,.slice A0_6 l0_6.length c0_6]] rfl (by (try simp only [List.map_toArray,List.map_cons,List.map_nil]);first|done|rfl|(simp only [List.length_drop,List.length_take];rfl)) ?_;(with_reducible refine (pinfoldref11_ConfMay.calls a0_0 a0_1 _ _ l0_2 _ _ l0_3 a0_4 a0_5 _ _ l0_6 false _ ?side1 ?side2 ?side3 ?side4 ?side5 ?side6 A5.out).mono ?_);(case side1=>repeat (first|exact (c4_ HR0_2.out HB.out)|(with_reducible refine c1_ ?_ _)|(with_reducible refine c2_ ?_ _)|(with_reducible refine c3_ ?_)));(case side2=>exact HC0_2.out);(case side3=>repeat (first|exact (c4_ HR0_3.out HB.out)|(with_reducible refine c1_ ?_ _)|(with_reducible refine c2_ ?_ _)|(with_reducible refine c3_ ?_)));(case side4=>exact HC0_3.out);(case side5=>repeat (first|exact (c4_ HR0_6.out HB.out)|(with_reducible refine c1_ ?_ _)|(with_reducible refine c2_ ?_ _)|(with_reducible refine c3_ ?_)));(case side6=>exact HC0_6.out);rintro e w15 ⟨rfl,hb⟩;refine ⟨_,rfl,?_⟩;have n0_:=am_ (kb_ (g:=gb176) (o:=.cells #[.int .i64 a0_0,.int .i64 a0_1,.slice A0_2 l0_2.length c0_2,.slice A0_3 l0_3.length c0_3,.int .i64 a0_4,.string a0_5,.slice A0_6 l0_6.length c0_6] 26 (0,0)) (by (with_reducible repeat (first|refine k2_ ?_ _|refine k3_ ?_|refine k1_ ?_ _));exact BK176.out) hb);have n1_:=am_ (bt_ (by repeat (with_reducible first|exact HB.out|apply p3_|apply p1_|apply p2_|refine bs_ ?_ GE176.out)) hb);clear BK176;clear HB;have BK176:=n0_;have HB:=n1_;clear n0_ n1_;(try clear hb)))
  go_meet
  case rel=>exact ⟨_,(true),(by first|rfl|(simp;done)|(simp [*];done)|(simp only [str_ne_];rfl)|(simp only [str_eq_];rfl)),H',⟨by first|omega|exact Nat.le_refl _⟩,⟨by (with_reducible repeat (first|refine k2_ ?_ _|refine k3_ ?_|refine k1_ ?_ _));exact BK176.out⟩,⟨by repeat (with_reducible first|exact HB.out|apply p3_|apply p1_|apply p2_|refine bs_ ?_ GE176.out)⟩⟩
 case rest =>
  clear HC3
  obtain ⟨kq,x16_2,rfl,HA,HJ2,BK176,HB⟩:=hcut
  cases kq with
  | zero=>exact absurd HA.out (by simp [pinfoldref11_Full.j0])
  | succ kj2 =>
   have H:=HA.out
   clear HA
   simp only [pinfoldref11_Full.j0] at H
   by_cases c16:x16_2=true
   ·subst c16
    have H1:(some (⟨#[]⟩:ByteArray))=some r:=by rw [if_pos rfl] at H;exact H
    clear H
    have H:=H1
    clear H1
    obtain rfl:=e5_ H
    go_wp2
    go_ret
    exact ⟨by first|rfl|(simp [errW_none,errW_some]<;>rfl)|(simp [*,errW_none,errW_some]<;>rfl)|(simp only [str_ne_];rfl)|(simp only [str_eq_];rfl),by repeat (with_reducible first|exact HB.out|apply p3_|apply p1_|apply p2_|refine bs_ ?_ GE176.out)⟩
   replace c16:=e3_ c16
   subst c16
   have H1:((pinfoldref1_Labels_c.f a1).bind fun t179=>(if (t179.length:Int)=1 then (if a1.size+1≤9223372036854775807 then (if (a1 ++ (⟨#[46]⟩:ByteArray)).size+a0_5.size≤9223372036854775807 then (if ((a1 ++ (⟨#[46]⟩:ByteArray)) ++ a0_5).toList=a0_5.toList then (some (⟨#[]⟩:ByteArray)) else ((pinfoldref1_Under_c.f ((a1 ++ (⟨#[46]⟩:ByteArray)) ++ a0_5) a0_5).bind fun t182=>(if t182=true then (some ((a1 ++ (⟨#[46]⟩:ByteArray)) ++ a0_5)) else (some (⟨#[]⟩:ByteArray))))) else (none)) else (none)) else (if a1.toList=a0_5.toList then (some (⟨#[]⟩:ByteArray)) else ((pinfoldref1_Under_c.f a1 a0_5).bind fun t183=>(if t183=true then (some a1) else (some (⟨#[]⟩:ByteArray)))))))=some r:=by rw [if_neg (show ¬(false=true) by decide)] at H;exact H
   clear H
   have H:=H1
   clear H1
   replace H:=e4_ H
   obtain ⟨t179,A170,H⟩:=H
   replace H:(if (t179.length:Int)=1 then (if a1.size+1≤9223372036854775807 then (if (a1 ++ (⟨#[46]⟩:ByteArray)).size+a0_5.size≤9223372036854775807 then (if ((a1 ++ (⟨#[46]⟩:ByteArray)) ++ a0_5).toList=a0_5.toList then (some (⟨#[]⟩:ByteArray)) else ((pinfoldref1_Under_c.f ((a1 ++ (⟨#[46]⟩:ByteArray)) ++ a0_5) a0_5).bind fun t182=>(if t182=true then (some ((a1 ++ (⟨#[46]⟩:ByteArray)) ++ a0_5)) else (some (⟨#[]⟩:ByteArray))))) else (none)) else (none)) else (if a1.toList=a0_5.toList then (some (⟨#[]⟩:ByteArray)) else ((pinfoldref1_Under_c.f a1 a0_5).bind fun t183=>(if t183=true then (some a1) else (some (⟨#[]⟩:ByteArray))))))=some r:=H
   have A17:=am_ A170
   clear A170
   by_cases c18:(t179.length:Int)=1
   ·rw [if_pos c18] at H
    have c18b0:((t179.length:Int) == 1)=true:=beq_iff_eq.mpr c18
    have c18b1:((t179.length:Int) != 1)=false:=e1_ c18
    clear c18
    by_cases c19:a1.size+1≤9223372036854775807
    rotate_left
    ·rw [if_neg c19] at H
     exact absurd H (by simp)
    rw [if_pos c19] at H
    have c19b0:=eq_true c19
    have c19b1:decide (a1.size+1≤9223372036854775807)=true:=decide_eq_true c19
    try have c19b2:(9223372036854775807 < a1.size+1)=False:=eq_false (Nat.not_lt.2 c19)
    by_cases c20:(a1 ++ (⟨#[46]⟩:ByteArray)).size+a0_5.size≤9223372036854775807
    rotate_left
    ·rw [if_neg c20] at H
     exact absurd H (by simp)
    rw [if_pos c20] at H
    have c20b0:=eq_true c20
    have c20b1:decide ((a1 ++ (⟨#[46]⟩:ByteArray)).size+a0_5.size≤9223372036854775807)=true:=decide_eq_true c20
    try have c20b2:(9223372036854775807 < (a1 ++ (⟨#[46]⟩:ByteArray)).size+a0_5.size)=False:=eq_false (Nat.not_lt.2 c20)
    by_cases c21:((a1 ++ (⟨#[46]⟩:ByteArray)) ++ a0_5).toList=a0_5.toList
    ·rw [if_pos c21] at H
     have c21b0:(((a1 ++ (⟨#[46]⟩:ByteArray)) ++ a0_5).toList == a0_5.toList)=true:=beq_iff_eq.mpr c21
     have c21b1:(((a1 ++ (⟨#[46]⟩:ByteArray)) ++ a0_5).toList != a0_5.toList)=false:=e1_ c21
     clear c21
     obtain rfl:=e5_ H
     go_wp2_with (first|((with_reducible refine gate_callee (f:=79) rfl ?_);refine goesL_ (some 18) rfl rfl Tryz.func79 (by kernel_rfl) rfl #[.string a1] rfl (by (try simp only [List.map_toArray,List.map_cons,List.map_nil]);first|done|rfl|(simp only [List.length_drop,List.length_take];rfl)) ?_;(with_reducible refine (pinfoldref1_Labels_c.calls a1 t179 _ A17.out).mono ?_);rintro e w22 ⟨v180,rfl,ho0,hb⟩;refine ⟨_,rfl,?_⟩;have n0_:=am_ (Kd.R_lower ho0 (bz_ (by repeat (with_reducible first|exact HB.out|apply p3_|apply p1_|apply p2_|refine bs_ ?_ GE176.out))));have n1_:=am_ (kb_ (g:=gb176) (o:=.cells #[.int .i64 a0_0,.int .i64 a0_1,.slice A0_2 l0_2.length c0_2,.slice A0_3 l0_3.length c0_3,.int .i64 a0_4,.string a0_5,.slice A0_6 l0_6.length c0_6] 26 (0,0)) (by (with_reducible repeat (first|refine k2_ ?_ _|refine k3_ ?_|refine k1_ ?_ _));exact BK176.out) hb);have n2_:=am_ (bt_ (by repeat (with_reducible first|exact HB.out|apply p3_|apply p1_|apply p2_|refine bs_ ?_ GE176.out)) hb);clear BK176;clear HB;have HO181:=n0_;have BK176:=n1_;have HB:=n2_;clear n0_ n1_ n2_;(try clear hb);(try clear ho0);obtain ⟨Ao23,co23,eo23⟩:=Kd.R_slice HO181.out;subst eo23;have hcz24_0:w22.cell? ⟨gb176,0,none⟩=some (.int .i64 a0_0):=(bc_ BK176.out 0).trans rfl;have hcz24_1:w22.cell? ⟨gb176,1,none⟩=some (.int .i64 a0_1):=(bc_ BK176.out 1).trans rfl;have hcz24_2:w22.cell? ⟨gb176,2,none⟩=some (.slice A0_2 l0_2.length c0_2):=(bc_ BK176.out 2).trans rfl;have hcz24_3:w22.cell? ⟨gb176,3,none⟩=some (.slice A0_3 l0_3.length c0_3):=(bc_ BK176.out 3).trans rfl;have hcz24_4:w22.cell? ⟨gb176,4,none⟩=some (.int .i64 a0_4):=(bc_ BK176.out 4).trans rfl;have hcz24_5:w22.cell? ⟨gb176,5,none⟩=some (.string a0_5):=(bc_ BK176.out 5).trans rfl;have hcz24_6:w22.cell? ⟨gb176,6,none⟩=some (.slice A0_6 l0_6.length c0_6):=(bc_ BK176.out 6).trans rfl;have hfz24_0:=bf_ BK176.out 0;have hfz24_1:=bf_ BK176.out 1;have hfz24_2:=bf_ BK176.out 2;have hfz24_3:=bf_ BK176.out 3;have hfz24_4:=bf_ BK176.out 4;have hfz24_5:=bf_ BK176.out 5;have hfz24_6:=bf_ BK176.out 6))
     go_ret
     exact ⟨by first|rfl|(simp [errW_none,errW_some]<;>rfl)|(simp [*,errW_none,errW_some]<;>rfl)|(simp only [str_ne_];rfl)|(simp only [str_eq_];rfl),by repeat (with_reducible first|exact HB.out|apply p3_|apply p1_|apply p2_|refine bs_ ?_ GE176.out)⟩
    rw [if_neg c21] at H
    have c21b0:(((a1 ++ (⟨#[46]⟩:ByteArray)) ++ a0_5).toList == a0_5.toList)=false:=e2_ c21
    have c21b1:(((a1 ++ (⟨#[46]⟩:ByteArray)) ++ a0_5).toList != a0_5.toList)=true:=bne_iff_ne.mpr c21
    replace H:=e4_ H
    obtain ⟨t182,A250,H⟩:=H
    replace H:(if t182=true then (some ((a1 ++ (⟨#[46]⟩:ByteArray)) ++ a0_5)) else (some (⟨#[]⟩:ByteArray)))=some r:=H
    have A25:=am_ A250
    clear A250
    by_cases c26:t182=true
    ·subst c26
     have H1:(some ((a1 ++ (⟨#[46]⟩:ByteArray)) ++ a0_5))=some r:=by rw [if_pos rfl] at H;exact H
     clear H
     have H:=H1
     clear H1
     obtain rfl:=e5_ H
     go_wp2_with (first|((with_reducible refine gate_callee (f:=79) rfl ?_);refine goesL_ (some 18) rfl rfl Tryz.func79 (by kernel_rfl) rfl #[.string a1] rfl (by (try simp only [List.map_toArray,List.map_cons,List.map_nil]);first|done|rfl|(simp only [List.length_drop,List.length_take];rfl)) ?_;(with_reducible refine (pinfoldref1_Labels_c.calls a1 t179 _ A17.out).mono ?_);rintro e w27 ⟨v180,rfl,ho0,hb⟩;refine ⟨_,rfl,?_⟩;have n0_:=am_ (Kd.R_lower ho0 (bz_ (by repeat (with_reducible first|exact HB.out|apply p3_|apply p1_|apply p2_|refine bs_ ?_ GE176.out))));have n1_:=am_ (kb_ (g:=gb176) (o:=.cells #[.int .i64 a0_0,.int .i64 a0_1,.slice A0_2 l0_2.length c0_2,.slice A0_3 l0_3.length c0_3,.int .i64 a0_4,.string a0_5,.slice A0_6 l0_6.length c0_6] 26 (0,0)) (by (with_reducible repeat (first|refine k2_ ?_ _|refine k3_ ?_|refine k1_ ?_ _));exact BK176.out) hb);have n2_:=am_ (bt_ (by repeat (with_reducible first|exact HB.out|apply p3_|apply p1_|apply p2_|refine bs_ ?_ GE176.out)) hb);clear BK176;clear HB;have HO181:=n0_;have BK176:=n1_;have HB:=n2_;clear n0_ n1_ n2_;(try clear hb);(try clear ho0);obtain ⟨Ao28,co28,eo28⟩:=Kd.R_slice HO181.out;subst eo28;have hcz29_0:w27.cell? ⟨gb176,0,none⟩=some (.int .i64 a0_0):=(bc_ BK176.out 0).trans rfl;have hcz29_1:w27.cell? ⟨gb176,1,none⟩=some (.int .i64 a0_1):=(bc_ BK176.out 1).trans rfl;have hcz29_2:w27.cell? ⟨gb176,2,none⟩=some (.slice A0_2 l0_2.length c0_2):=(bc_ BK176.out 2).trans rfl;have hcz29_3:w27.cell? ⟨gb176,3,none⟩=some (.slice A0_3 l0_3.length c0_3):=(bc_ BK176.out 3).trans rfl;have hcz29_4:w27.cell? ⟨gb176,4,none⟩=some (.int .i64 a0_4):=(bc_ BK176.out 4).trans rfl;have hcz29_5:w27.cell? ⟨gb176,5,none⟩=some (.string a0_5):=(bc_ BK176.out 5).trans rfl;have hcz29_6:w27.cell? ⟨gb176,6,none⟩=some (.slice A0_6 l0_6.length c0_6):=(bc_ BK176.out 6).trans rfl;have hfz29_0:=bf_ BK176.out 0;have hfz29_1:=bf_ BK176.out 1;have hfz29_2:=bf_ BK176.out 2;have hfz29_3:=bf_ BK176.out 3;have hfz29_4:=bf_ BK176.out 4;have hfz29_5:=bf_ BK176.out 5;have hfz29_6:=bf_ BK176.out 6)|(go_at_call 81;(with_reducible refine (pinfoldref1_Under_c.calls ((a1 ++ (⟨#[46]⟩:ByteArray)) ++ a0_5) a0_5 true _ A25.out).mono ?_);rintro e w30 ⟨rfl,hb⟩;have n0_:=am_ (Kd.R_below (by (with_reducible repeat (first|apply r1_|apply r2_|apply r3_));exact HO181.out) hb);have n1_:=am_ (kb_ (g:=gb176) (o:=.cells #[.int .i64 a0_0,.int .i64 a0_1,.slice A0_2 l0_2.length c0_2,.slice A0_3 l0_3.length c0_3,.int .i64 a0_4,.string a0_5,.slice A0_6 l0_6.length c0_6] 26 (0,0)) (by (with_reducible repeat (first|refine k2_ ?_ _|refine k3_ ?_|refine k1_ ?_ _));exact BK176.out) hb);have n2_:=am_ (bt_ (by repeat (with_reducible first|exact HB.out|apply p3_|apply p1_|apply p2_|refine bs_ ?_ GE176.out)) hb);clear HO181;clear BK176;clear HB;have HO181:=n0_;have BK176:=n1_;have HB:=n2_;clear n0_ n1_ n2_;(try clear hb)))
     go_ret
     exact ⟨by first|rfl|(simp [errW_none,errW_some]<;>rfl)|(simp [*,errW_none,errW_some]<;>rfl)|(simp only [str_ne_];rfl)|(simp only [str_eq_];rfl),by repeat (with_reducible first|exact HB.out|apply p3_|apply p1_|apply p2_|refine bs_ ?_ GE176.out)⟩
    replace c26:=e3_ c26
    subst c26
    have H1:(some (⟨#[]⟩:ByteArray))=some r:=by rw [if_neg (show ¬(false=true) by decide)] at H;exact H
    clear H
    have H:=H1
    clear H1
    obtain rfl:=e5_ H
    go_wp2_with (first|((with_reducible refine gate_callee (f:=79) rfl ?_);refine goesL_ (some 18) rfl rfl Tryz.func79 (by kernel_rfl) rfl #[.string a1] rfl (by (try simp only [List.map_toArray,List.map_cons,List.map_nil]);first|done|rfl|(simp only [List.length_drop,List.length_take];rfl)) ?_;(with_reducible refine (pinfoldref1_Labels_c.calls a1 t179 _ A17.out).mono ?_);rintro e w31 ⟨v180,rfl,ho0,hb⟩;refine ⟨_,rfl,?_⟩;have n0_:=am_ (Kd.R_lower ho0 (bz_ (by repeat (with_reducible first|exact HB.out|apply p3_|apply p1_|apply p2_|refine bs_ ?_ GE176.out))));have n1_:=am_ (kb_ (g:=gb176) (o:=.cells #[.int .i64 a0_0,.int .i64 a0_1,.slice A0_2 l0_2.length c0_2,.slice A0_3 l0_3.length c0_3,.int .i64 a0_4,.string a0_5,.slice A0_6 l0_6.length c0_6] 26 (0,0)) (by (with_reducible repeat (first|refine k2_ ?_ _|refine k3_ ?_|refine k1_ ?_ _));exact BK176.out) hb);have n2_:=am_ (bt_ (by repeat (with_reducible first|exact HB.out|apply p3_|apply p1_|apply p2_|refine bs_ ?_ GE176.out)) hb);clear BK176;clear HB;have HO181:=n0_;have BK176:=n1_;have HB:=n2_;clear n0_ n1_ n2_;(try clear hb);(try clear ho0);obtain ⟨Ao32,co32,eo32⟩:=Kd.R_slice HO181.out;subst eo32;have hcz33_0:w31.cell? ⟨gb176,0,none⟩=some (.int .i64 a0_0):=(bc_ BK176.out 0).trans rfl;have hcz33_1:w31.cell? ⟨gb176,1,none⟩=some (.int .i64 a0_1):=(bc_ BK176.out 1).trans rfl;have hcz33_2:w31.cell? ⟨gb176,2,none⟩=some (.slice A0_2 l0_2.length c0_2):=(bc_ BK176.out 2).trans rfl;have hcz33_3:w31.cell? ⟨gb176,3,none⟩=some (.slice A0_3 l0_3.length c0_3):=(bc_ BK176.out 3).trans rfl;have hcz33_4:w31.cell? ⟨gb176,4,none⟩=some (.int .i64 a0_4):=(bc_ BK176.out 4).trans rfl;have hcz33_5:w31.cell? ⟨gb176,5,none⟩=some (.string a0_5):=(bc_ BK176.out 5).trans rfl;have hcz33_6:w31.cell? ⟨gb176,6,none⟩=some (.slice A0_6 l0_6.length c0_6):=(bc_ BK176.out 6).trans rfl;have hfz33_0:=bf_ BK176.out 0;have hfz33_1:=bf_ BK176.out 1;have hfz33_2:=bf_ BK176.out 2;have hfz33_3:=bf_ BK176.out 3;have hfz33_4:=bf_ BK176.out 4;have hfz33_5:=bf_ BK176.out 5;have hfz33_6:=bf_ BK176.out 6)|(go_at_call 81;(with_reducible refine (pinfoldref1_Under_c.calls ((a1 ++ (⟨#[46]⟩:ByteArray)) ++ a0_5) a0_5 false _ A25.out).mono ?_);rintro e w34 ⟨rfl,hb⟩;have n0_:=am_ (Kd.R_below (by (with_reducible repeat (first|apply r1_|apply r2_|apply r3_));exact HO181.out) hb);have n1_:=am_ (kb_ (g:=gb176) (o:=.cells #[.int .i64 a0_0,.int .i64 a0_1,.slice A0_2 l0_2.length c0_2,.slice A0_3 l0_3.length c0_3,.int .i64 a0_4,.string a0_5,.slice A0_6 l0_6.length c0_6] 26 (0,0)) (by (with_reducible repeat (first|refine k2_ ?_ _|refine k3_ ?_|refine k1_ ?_ _));exact BK176.out) hb);have n2_:=am_ (bt_ (by repeat (with_reducible first|exact HB.out|apply p3_|apply p1_|apply p2_|refine bs_ ?_ GE176.out)) hb);clear HO181;clear BK176;clear HB;have HO181:=n0_;have BK176:=n1_;have HB:=n2_;clear n0_ n1_ n2_;(try clear hb)))
    go_ret
    exact ⟨by first|rfl|(simp [errW_none,errW_some]<;>rfl)|(simp [*,errW_none,errW_some]<;>rfl)|(simp only [str_ne_];rfl)|(simp only [str_eq_];rfl),by repeat (with_reducible first|exact HB.out|apply p3_|apply p1_|apply p2_|refine bs_ ?_ GE176.out)⟩
   rw [if_neg c18] at H
   have c18b0:((t179.length:Int) == 1)=false:=e2_ c18
   have c18b1:((t179.length:Int) != 1)=true:=bne_iff_ne.mpr c18
   by_cases c35:a1.toList=a0_5.toList
   ·rw [if_pos c35] at H
    have c35b0:(a1.toList == a0_5.toList)=true:=beq_iff_eq.mpr c35
    have c35b1:(a1.toList != a0_5.toList)=false:=e1_ c35
    clear c35
    obtain rfl:=e5_ H
    go_wp2_with (first|((with_reducible refine gate_callee (f:=79) rfl ?_);refine goesL_ (some 18) rfl rfl Tryz.func79 (by kernel_rfl) rfl #[.string a1] rfl (by (try simp only [List.map_toArray,List.map_cons,List.map_nil]);first|done|rfl|(simp only [List.length_drop,List.length_take];rfl)) ?_;(with_reducible refine (pinfoldref1_Labels_c.calls a1 t179 _ A17.out).mono ?_);rintro e w36 ⟨v180,rfl,ho0,hb⟩;refine ⟨_,rfl,?_⟩;have n0_:=am_ (Kd.R_lower ho0 (bz_ (by repeat (with_reducible first|exact HB.out|apply p3_|apply p1_|apply p2_|refine bs_ ?_ GE176.out))));have n1_:=am_ (kb_ (g:=gb176) (o:=.cells #[.int .i64 a0_0,.int .i64 a0_1,.slice A0_2 l0_2.length c0_2,.slice A0_3 l0_3.length c0_3,.int .i64 a0_4,.string a0_5,.slice A0_6 l0_6.length c0_6] 26 (0,0)) (by (with_reducible repeat (first|refine k2_ ?_ _|refine k3_ ?_|refine k1_ ?_ _));exact BK176.out) hb);have n2_:=am_ (bt_ (by repeat (with_reducible first|exact HB.out|apply p3_|apply p1_|apply p2_|refine bs_ ?_ GE176.out)) hb);clear BK176;clear HB;have HO181:=n0_;have BK176:=n1_;have HB:=n2_;clear n0_ n1_ n2_;(try clear hb);(try clear ho0);obtain ⟨Ao37,co37,eo37⟩:=Kd.R_slice HO181.out;subst eo37;have hcz38_0:w36.cell? ⟨gb176,0,none⟩=some (.int .i64 a0_0):=(bc_ BK176.out 0).trans rfl;have hcz38_1:w36.cell? ⟨gb176,1,none⟩=some (.int .i64 a0_1):=(bc_ BK176.out 1).trans rfl;have hcz38_2:w36.cell? ⟨gb176,2,none⟩=some (.slice A0_2 l0_2.length c0_2):=(bc_ BK176.out 2).trans rfl;have hcz38_3:w36.cell? ⟨gb176,3,none⟩=some (.slice A0_3 l0_3.length c0_3):=(bc_ BK176.out 3).trans rfl;have hcz38_4:w36.cell? ⟨gb176,4,none⟩=some (.int .i64 a0_4):=(bc_ BK176.out 4).trans rfl;have hcz38_5:w36.cell? ⟨gb176,5,none⟩=some (.string a0_5):=(bc_ BK176.out 5).trans rfl;have hcz38_6:w36.cell? ⟨gb176,6,none⟩=some (.slice A0_6 l0_6.length c0_6):=(bc_ BK176.out 6).trans rfl;have hfz38_0:=bf_ BK176.out 0;have hfz38_1:=bf_ BK176.out 1;have hfz38_2:=bf_ BK176.out 2;have hfz38_3:=bf_ BK176.out 3;have hfz38_4:=bf_ BK176.out 4;have hfz38_5:=bf_ BK176.out 5;have hfz38_6:=bf_ BK176.out 6))
    go_ret
    exact ⟨by first|rfl|(simp [errW_none,errW_some]<;>rfl)|(simp [*,errW_none,errW_some]<;>rfl)|(simp only [str_ne_];rfl)|(simp only [str_eq_];rfl),by repeat (with_reducible first|exact HB.out|apply p3_|apply p1_|apply p2_|refine bs_ ?_ GE176.out)⟩
   rw [if_neg c35] at H
   have c35b0:(a1.toList == a0_5.toList)=false:=e2_ c35
   have c35b1:(a1.toList != a0_5.toList)=true:=bne_iff_ne.mpr c35
   replace H:=e4_ H
   obtain ⟨t183,A390,H⟩:=H
   replace H:(if t183=true then (some a1) else (some (⟨#[]⟩:ByteArray)))=some r:=H
   have A39:=am_ A390
   clear A390
   by_cases c40:t183=true
   ·subst c40
    have H1:(some a1)=some r:=by rw [if_pos rfl] at H;exact H
    clear H
    have H:=H1
    clear H1
    obtain rfl:=e5_ H
    go_wp2_with (first|((with_reducible refine gate_callee (f:=79) rfl ?_);refine goesL_ (some 18) rfl rfl Tryz.func79 (by kernel_rfl) rfl #[.string a1] rfl (by (try simp only [List.map_toArray,List.map_cons,List.map_nil]);first|done|rfl|(simp only [List.length_drop,List.length_take];rfl)) ?_;(with_reducible refine (pinfoldref1_Labels_c.calls a1 t179 _ A17.out).mono ?_);rintro e w41 ⟨v180,rfl,ho0,hb⟩;refine ⟨_,rfl,?_⟩;have n0_:=am_ (Kd.R_lower ho0 (bz_ (by repeat (with_reducible first|exact HB.out|apply p3_|apply p1_|apply p2_|refine bs_ ?_ GE176.out))));have n1_:=am_ (kb_ (g:=gb176) (o:=.cells #[.int .i64 a0_0,.int .i64 a0_1,.slice A0_2 l0_2.length c0_2,.slice A0_3 l0_3.length c0_3,.int .i64 a0_4,.string a0_5,.slice A0_6 l0_6.length c0_6] 26 (0,0)) (by (with_reducible repeat (first|refine k2_ ?_ _|refine k3_ ?_|refine k1_ ?_ _));exact BK176.out) hb);have n2_:=am_ (bt_ (by repeat (with_reducible first|exact HB.out|apply p3_|apply p1_|apply p2_|refine bs_ ?_ GE176.out)) hb);clear BK176;clear HB;have HO181:=n0_;have BK176:=n1_;have HB:=n2_;clear n0_ n1_ n2_;(try clear hb);(try clear ho0);obtain ⟨Ao42,co42,eo42⟩:=Kd.R_slice HO181.out;subst eo42;have hcz43_0:w41.cell? ⟨gb176,0,none⟩=some (.int .i64 a0_0):=(bc_ BK176.out 0).trans rfl;have hcz43_1:w41.cell? ⟨gb176,1,none⟩=some (.int .i64 a0_1):=(bc_ BK176.out 1).trans rfl;have hcz43_2:w41.cell? ⟨gb176,2,none⟩=some (.slice A0_2 l0_2.length c0_2):=(bc_ BK176.out 2).trans rfl;have hcz43_3:w41.cell? ⟨gb176,3,none⟩=some (.slice A0_3 l0_3.length c0_3):=(bc_ BK176.out 3).trans rfl;have hcz43_4:w41.cell? ⟨gb176,4,none⟩=some (.int .i64 a0_4):=(bc_ BK176.out 4).trans rfl;have hcz43_5:w41.cell? ⟨gb176,5,none⟩=some (.string a0_5):=(bc_ BK176.out 5).trans rfl;have hcz43_6:w41.cell? ⟨gb176,6,none⟩=some (.slice A0_6 l0_6.length c0_6):=(bc_ BK176.out 6).trans rfl;have hfz43_0:=bf_ BK176.out 0;have hfz43_1:=bf_ BK176.out 1;have hfz43_2:=bf_ BK176.out 2;have hfz43_3:=bf_ BK176.out 3;have hfz43_4:=bf_ BK176.out 4;have hfz43_5:=bf_ BK176.out 5;have hfz43_6:=bf_ BK176.out 6)|(go_at_call 81;(with_reducible refine (pinfoldref1_Under_c.calls a1 a0_5 true _ A39.out).mono ?_);rintro e w44 ⟨rfl,hb⟩;have n0_:=am_ (Kd.R_below (by (with_reducible repeat (first|apply r1_|apply r2_|apply r3_));exact HO181.out) hb);have n1_:=am_ (kb_ (g:=gb176) (o:=.cells #[.int .i64 a0_0,.int .i64 a0_1,.slice A0_2 l0_2.length c0_2,.slice A0_3 l0_3.length c0_3,.int .i64 a0_4,.string a0_5,.slice A0_6 l0_6.length c0_6] 26 (0,0)) (by (with_reducible repeat (first|refine k2_ ?_ _|refine k3_ ?_|refine k1_ ?_ _));exact BK176.out) hb);have n2_:=am_ (bt_ (by repeat (with_reducible first|exact HB.out|apply p3_|apply p1_|apply p2_|refine bs_ ?_ GE176.out)) hb);clear HO181;clear BK176;clear HB;have HO181:=n0_;have BK176:=n1_;have HB:=n2_;clear n0_ n1_ n2_;(try clear hb)))
    go_ret
    exact ⟨by first|rfl|(simp [errW_none,errW_some]<;>rfl)|(simp [*,errW_none,errW_some]<;>rfl)|(simp only [str_ne_];rfl)|(simp only [str_eq_];rfl),by repeat (with_reducible first|exact HB.out|apply p3_|apply p1_|apply p2_|refine bs_ ?_ GE176.out)⟩
   replace c40:=e3_ c40
   subst c40
   have H1:(some (⟨#[]⟩:ByteArray))=some r:=by rw [if_neg (show ¬(false=true) by decide)] at H;exact H
   clear H
   have H:=H1
   clear H1
   obtain rfl:=e5_ H
   go_wp2_with (first|((with_reducible refine gate_callee (f:=79) rfl ?_);refine goesL_ (some 18) rfl rfl Tryz.func79 (by kernel_rfl) rfl #[.string a1] rfl (by (try simp only [List.map_toArray,List.map_cons,List.map_nil]);first|done|rfl|(simp only [List.length_drop,List.length_take];rfl)) ?_;(with_reducible refine (pinfoldref1_Labels_c.calls a1 t179 _ A17.out).mono ?_);rintro e w45 ⟨v180,rfl,ho0,hb⟩;refine ⟨_,rfl,?_⟩;have n0_:=am_ (Kd.R_lower ho0 (bz_ (by repeat (with_reducible first|exact HB.out|apply p3_|apply p1_|apply p2_|refine bs_ ?_ GE176.out))));have n1_:=am_ (kb_ (g:=gb176) (o:=.cells #[.int .i64 a0_0,.int .i64 a0_1,.slice A0_2 l0_2.length c0_2,.slice A0_3 l0_3.length c0_3,.int .i64 a0_4,.string a0_5,.slice A0_6 l0_6.length c0_6] 26 (0,0)) (by (with_reducible repeat (first|refine k2_ ?_ _|refine k3_ ?_|refine k1_ ?_ _));exact BK176.out) hb);have n2_:=am_ (bt_ (by repeat (with_reducible first|exact HB.out|apply p3_|apply p1_|apply p2_|refine bs_ ?_ GE176.out)) hb);clear BK176;clear HB;have HO181:=n0_;have BK176:=n1_;have HB:=n2_;clear n0_ n1_ n2_;(try clear hb);(try clear ho0);obtain ⟨Ao46,co46,eo46⟩:=Kd.R_slice HO181.out;subst eo46;have hcz47_0:w45.cell? ⟨gb176,0,none⟩=some (.int .i64 a0_0):=(bc_ BK176.out 0).trans rfl;have hcz47_1:w45.cell? ⟨gb176,1,none⟩=some (.int .i64 a0_1):=(bc_ BK176.out 1).trans rfl;have hcz47_2:w45.cell? ⟨gb176,2,none⟩=some (.slice A0_2 l0_2.length c0_2):=(bc_ BK176.out 2).trans rfl;have hcz47_3:w45.cell? ⟨gb176,3,none⟩=some (.slice A0_3 l0_3.length c0_3):=(bc_ BK176.out 3).trans rfl;have hcz47_4:w45.cell? ⟨gb176,4,none⟩=some (.int .i64 a0_4):=(bc_ BK176.out 4).trans rfl;have hcz47_5:w45.cell? ⟨gb176,5,none⟩=some (.string a0_5):=(bc_ BK176.out 5).trans rfl;have hcz47_6:w45.cell? ⟨gb176,6,none⟩=some (.slice A0_6 l0_6.length c0_6):=(bc_ BK176.out 6).trans rfl;have hfz47_0:=bf_ BK176.out 0;have hfz47_1:=bf_ BK176.out 1;have hfz47_2:=bf_ BK176.out 2;have hfz47_3:=bf_ BK176.out 3;have hfz47_4:=bf_ BK176.out 4;have hfz47_5:=bf_ BK176.out 5;have hfz47_6:=bf_ BK176.out 6)|(go_at_call 81;(with_reducible refine (pinfoldref1_Under_c.calls a1 a0_5 false _ A39.out).mono ?_);rintro e w48 ⟨rfl,hb⟩;have n0_:=am_ (Kd.R_below (by (with_reducible repeat (first|apply r1_|apply r2_|apply r3_));exact HO181.out) hb);have n1_:=am_ (kb_ (g:=gb176) (o:=.cells #[.int .i64 a0_0,.int .i64 a0_1,.slice A0_2 l0_2.length c0_2,.slice A0_3 l0_3.length c0_3,.int .i64 a0_4,.string a0_5,.slice A0_6 l0_6.length c0_6] 26 (0,0)) (by (with_reducible repeat (first|refine k2_ ?_ _|refine k3_ ?_|refine k1_ ?_ _));exact BK176.out) hb);have n2_:=am_ (bt_ (by repeat (with_reducible first|exact HB.out|apply p3_|apply p1_|apply p2_|refine bs_ ?_ GE176.out)) hb);clear HO181;clear BK176;clear HB;have HO181:=n0_;have BK176:=n1_;have HB:=n2_;clear n0_ n1_ n2_;(try clear hb)))
   go_ret
   exact ⟨by first|rfl|(simp [errW_none,errW_some]<;>rfl)|(simp [*,errW_none,errW_some]<;>rfl)|(simp only [str_ne_];rfl)|(simp only [str_eq_];rfl),by repeat (with_reducible first|exact HB.out|apply p3_|apply p1_|apply p2_|refine bs_ ?_ GE176.out)⟩

/-! ### pinfoldref11_Full_c: function 65 -/
section
variable {a0 a1:Int} {l2:List Int} {l3:List S95} {a4:Int} {z:ByteArray} {l6:List S93}
theorem reffull_eq (hf:confFitR l2 l3 z l6) (k:Nat) (hk:1≤k) (h:ByteArray) (hh:h.size≤1048576) (hz:z.size≤1048576):pinfoldref11_Full.f k a0 a1 l2 l3 a4 z l6 h=some (fullB a0 a1 l2 l3 a4 z l6 h):=by
 obtain ⟨k,rfl⟩:∃ j,k=j+1:=⟨k - 1,by omega⟩
 have s1:(h ++ (⟨#[46]⟩:ByteArray)).size=h.size+1:=by rw [ByteArray.size_append];rfl
 have s2:(h ++ (⟨#[46]⟩:ByteArray) ++ z).size=h.size+1+z.size:=by rw [ByteArray.size_append,s1]
 unfold pinfoldref11_Full.f pinfoldref11_ConfMay.f pinfoldref1_NameMay_c.f
 simp only [pinfoldref11_Full.j0]
 unfold pinfoldref1_Labels_c.f pinfoldref1_Under_c.f
 rw [if_pos hf,Option.bind_some]
 cases hc:confB a0 a1 l2 l3 a4 z l6 with
 | false =>
  simp only [if_true,Bool.false_eq_true,if_false]
  unfold fullB
  rw [hc]
  simp only [Bool.and_false,Bool.false_eq_true,if_false,ite_self]
 | true =>
  obtain ⟨zn,zs⟩:=conf_zone hc
  simp only [if_true]
  by_cases q0:h.toList=[]
  ·have e0:h=⟨#[]⟩:=by
    rw [ByteArray.toList_eq] at q0
    have:h=⟨h.data⟩:=rfl
    rw [this,Array.toList_eq_nil_iff.1 q0]
   rw [if_pos q0,e0,full_none]
  ·rw [if_neg q0,if_pos (show h.size≤8796093022000 by omega),Option.bind_some]
   have hne:h.size≠0:=fun e=>q0 ((toList_nil h).2 e)
   cases hn:nameB (bytesOf h) with
   | false =>
    have hl:¬ (labelsS h).length=1:=by rw [labels_len,hn];simp
    simp only [Bool.not_false,if_true]
    unfold fullB
    rw [if_neg hl,hn]
    simp only [Bool.false_and,Bool.false_eq_true,if_false,ite_self]
   | true =>
    simp only [Bool.not_true,Bool.false_eq_true,if_false]
    rw [if_pos (by omega),Option.bind_some]
    by_cases ql:(labelsS h).length=1
    ·rw [if_pos (by omega),if_pos (by omega),if_pos (by omega)]
     have hx:¬ (h ++ (⟨#[46]⟩:ByteArray) ++ z).toList=z.toList:=fun e=>by
      have e4:=congrArg List.length ((toList_iff _ _).1 e)
      rw [bytesOf_length,bytesOf_length] at e4
      omega
     rw [if_neg hx,if_pos ⟨by omega,by omega⟩,Option.bind_some]
     have hu:underB (bytesOf (h ++ (⟨#[46]⟩:ByteArray) ++ z)) (bytesOf z)=nameB (bytesOf (h ++ (⟨#[46]⟩:ByteArray) ++ z)):=by
      unfold underB
      have hi:isU (bytesOf (h ++ (⟨#[46]⟩:ByteArray) ++ z)) (bytesOf z):=.inr (.inr ⟨bytesOf h,(bytes_dot h z).symm⟩)
      rw [zn,decide_eq_true hi,Bool.and_true,Bool.and_true]
     rw [hu]
     unfold fullB
     rw [if_pos ql,hc,Bool.and_true]
     cases nameB (bytesOf (h ++ (⟨#[46]⟩:ByteArray) ++ z))<;>rfl
    ·rw [if_neg (by omega)]
     unfold fullB
     rw [if_neg ql,hn,hc]
     by_cases qz:h.toList=z.toList
     ·rw [if_pos qz,if_pos (.inl qz)]
     ·rw [if_neg qz,if_pos ⟨by omega,by omega⟩,Option.bind_some]
      cases hu:underB (bytesOf h) (bytesOf z) with
      | false=>simp [qz]
      | true=>simp [qz]
end
def fullFitR (l2:List Int) (l3:List S95) (z:ByteArray) (l6:List S93) (h:ByteArray):Prop:=confFitR l2 l3 z l6∧h.size≤1048576∧z.size≤1048576
instance (l2:List Int) (l3:List S95) (z:ByteArray) (l6:List S93) (h:ByteArray):Decidable (fullFitR l2 l3 z l6 h):=by unfold fullFitR;infer_instance
def pinfoldref11_Full_c.f (a0_0:Int) (a0_1:Int) (l0_2:List Int) (l0_3:List S95) (a0_4:Int) (a0_5:ByteArray) (l0_6:List S93) (a1:ByteArray):Option ByteArray:=if fullFitR l0_2 l0_3 a0_5 l0_6 a1 then some (fullB a0_0 a0_1 l0_2 l0_3 a0_4 a0_5 l0_6 a1) else none
theorem pinfoldref11_Full_c.calls (a0_0:Int) (a0_1:Int) (A0_2:Option Addr) (c0_2:Nat) (l0_2:List Int) (A0_3:Option Addr) (c0_3:Nat) (l0_3:List S95) (a0_4:Int) (a0_5:ByteArray) (A0_6:Option Addr) (c0_6:Nat) (l0_6:List S93) (a1:ByteArray) (r:ByteArray) (w:World) (hr0_2:Kd.C (Kd.int .i64) w A0_2 l0_2.length l0_2) (hc0_2:l0_2.length≤c0_2) (hr0_3:Kd.C k95 w A0_3 l0_3.length l0_3) (hc0_3:l0_3.length≤c0_3) (hr0_6:Kd.C k93 w A0_6 l0_6.length l0_6) (hc0_6:l0_6.length≤c0_6) (h:pinfoldref11_Full_c.f a0_0 a0_1 l0_2 l0_3 a0_4 a0_5 l0_6 a1=some r) :
  Calls Tryz.prog 65 #[.agg #[.int .i64 a0_0,.int .i64 a0_1,.slice A0_2 l0_2.length c0_2,.slice A0_3 l0_3.length c0_3,.int .i64 a0_4,.string a0_5,.slice A0_6 l0_6.length c0_6],.string a1] w fun e w'=>e=.returned (.string r)∧Below w.heap.size w w':=by
 unfold pinfoldref11_Full_c.f at h
 by_cases hs:fullFitR l0_2 l0_3 a0_5 l0_6 a1
 ·rw [if_pos hs] at h
  exact pinfoldref11_Full.calls 1 a0_0 a0_1 A0_2 c0_2 l0_2 A0_3 c0_3 l0_3 a0_4 a0_5 A0_6 c0_6 l0_6 a1 r w hr0_2 hc0_2 hr0_3 hc0_3 hr0_6 hc0_6 (by rw [reffull_eq hs.1 1 (Nat.le_refl _) a1 hs.2.1 hs.2.2];exact h)
 ·rw [if_neg hs] at h
  cases h

/-! ### pinfoldref11_FreeName: function 34 -/
-- BY HAND
-- 56 57 28 30 65
def freeFitR (l2:List Int) (l3:List S95) (z:ByteArray) (l6:List S93) (ls:List S44) (called:ByteArray):Prop:=fullFitR l2 l3 z l6 called∧ls.length≤140737488351232∧∀ x∈ls,x.f4.size≤1048576
instance (l2:List Int) (l3:List S95) (z:ByteArray) (l6:List S93) (ls:List S44) (called:ByteArray):Decidable (freeFitR l2 l3 z l6 ls called):=by unfold freeFitR;infer_instance
theorem heldr_eq (c:ByteArray) (now:Int) (x:S44):heldBy c now x=(liveB x.f0 x.f1 x.f2 x.f3 x.f4 x.f5 now && (decide (x.f1=2) && (x.f5 && decide (x.f2.toList≠c.toList)))):=by
 unfold heldBy boundB holdsB
 by_cases h2:x.f1=2
 ·rw [decide_eq_true h2,decide_eq_true (show x.f1≠3 by omega)]
  cases liveB x.f0 x.f1 x.f2 x.f3 x.f4 x.f5 now<;>cases x.f5<;>simp
 ·rw [decide_eq_false h2]
  simp
theorem takS_in (l:List S93) (i:Int) (h0:0≤i) (h1:i < l.length) (F:List UInt8) (hn:F∉takenS (l.take i.toNat)):((rd_T93 l i).f0.data.toList=F→F∈takenS l)∧((rd_T93 l i).f0.data.toList≠F→F∉takenS (l.take (i.toNat+1))):=by
 have h:i.toNat < l.length:=by omega
 have e:rd_T93 l i=l[i.toNat]:=by
  unfold rd_T93
  rw [List.getD_eq_getElem?_getD,List.getElem?_eq_getElem h]
  rfl
 rw [e]
 constructor
 ·intro q
  exact List.mem_map.2 ⟨l[i.toNat],List.getElem_mem h,q⟩
 ·intro q
  rw [List.take_succ_eq_append_getElem h]
  unfold takenS at hn ⊢
  rw [List.map_append,List.mem_append]
  rintro (h|h)
  ·exact hn h
  ·rw [List.map_cons,List.map_nil,List.mem_singleton] at h
   exact q h.symm
theorem takL_in (G:ByteArray→ByteArray) (c:ByteArray) (now:Int) (l:List S44) (i:Int) (h0:0≤i) (h1:i < l.length) (F:List UInt8) (hn:F∉takenL G c now (l.take i.toNat)):((heldBy c now (rd_T44 l i)=true∧(G (rd_T44 l i).f4).data.toList=F)→F∈takenL G c now l)∧(¬(heldBy c now (rd_T44 l i)=true∧(G (rd_T44 l i).f4).data.toList=F)→F∉takenL G c now (l.take (i.toNat+1))):=by
 have h:i.toNat < l.length:=by omega
 have e:rd_T44 l i=l[i.toNat]:=by
  unfold rd_T44
  rw [List.getD_eq_getElem?_getD,List.getElem?_eq_getElem h]
  rfl
 rw [e]
 constructor
 ·intro q
  exact List.mem_map.2 ⟨l[i.toNat],List.mem_filter.2 ⟨List.getElem_mem h,q.1⟩,q.2⟩
 ·intro q
  rw [List.take_succ_eq_append_getElem h]
  unfold takenL at hn ⊢
  rw [List.filter_append,List.map_append,List.mem_append]
  rintro (h|h)
  ·exact hn h
  ·obtain ⟨y,hy,e2⟩:=List.mem_map.1 h
   obtain ⟨hy1,hy2⟩:=List.mem_filter.1 hy
   rw [List.mem_singleton] at hy1
   subst hy1
   exact q ⟨hy2,e2⟩
def pinfoldref11_FreeName.f (a0_0:Int) (a0_1:Int) (l0_2:List Int) (l0_3:List S95) (a0_4:Int) (a0_5:ByteArray) (l0_6:List S93) (l1:List S44) (a2:Int) (a3 a4:ByteArray):Option (Bool×Int):=if freeFitR l0_2 l0_3 a0_5 l0_6 l1 a4 then some (freeB a0_0 a0_1 l0_2 l0_3 a0_4 a0_5 l0_6 l1 a2 a3 a4,if mayFree a0_0 a0_1 l0_2 l0_3 a0_4 a0_5 l0_6 l1 a4 then 0 else 1600) else none
theorem pinfoldref11_FreeName.calls (a0_0:Int) (a0_1:Int) (A0_2:Option Addr) (c0_2:Nat) (l0_2:List Int) (A0_3:Option Addr) (c0_3:Nat) (l0_3:List S95) (a0_4:Int) (a0_5:ByteArray) (A0_6:Option Addr) (c0_6:Nat) (l0_6:List S93) (A1:Option Addr) (c1:Nat) (l1:List S44) (a2:Int) (a3:ByteArray) (a4:ByteArray) (r1:Bool) (r2:Int) (w:World) (hr0_2:Kd.C (Kd.int .i64) w A0_2 l0_2.length l0_2) (hc0_2:l0_2.length≤c0_2) (hr0_3:Kd.C k95 w A0_3 l0_3.length l0_3) (hc0_3:l0_3.length≤c0_3) (hr0_6:Kd.C k93 w A0_6 l0_6.length l0_6) (hc0_6:l0_6.length≤c0_6) (hr1:Kd.C k44 w A1 l1.length l1) (hc1:l1.length≤c1) (h:pinfoldref11_FreeName.f a0_0 a0_1 l0_2 l0_3 a0_4 a0_5 l0_6 l1 a2 a3 a4=some (r1,r2)) :
  Calls Tryz.prog 34 #[.agg #[.int .i64 a0_0,.int .i64 a0_1,.slice A0_2 l0_2.length c0_2,.slice A0_3 l0_3.length c0_3,.int .i64 a0_4,.string a0_5,.slice A0_6 l0_6.length c0_6],.slice A1 l1.length c1,.int .i64 a2,.string a3,.string a4] w fun e w'=>e=.returned (.tuple #[.bool r1,.int .i64 r2])∧Below w.heap.size w w':=by
 unfold pinfoldref11_FreeName.f at h
 by_cases hs:freeFitR l0_2 l0_3 a0_5 l0_6 l1 a4
 rotate_left
 ·rw [if_neg hs] at h
  cases h
 rw [if_pos hs] at h
 have h':=e5_ h
 have HR1:=(Prod.mk.inj h').1
 have HR2:=(Prod.mk.inj h').2
 clear h h'
 obtain ⟨b1,h1⟩:∃ b,confB a0_0 a0_1 l0_2 l0_3 a0_4 a0_5 l0_6=b:=⟨_,rfl⟩
 obtain ⟨b2,h2⟩:∃ b,tableB l1=b:=⟨_,rfl⟩
 obtain ⟨b3,h3⟩:∃ b,nameB (bytesOf a4)=b:=⟨_,rfl⟩
 unfold freeB at HR1
 have hmay:mayFree a0_0 a0_1 l0_2 l0_3 a0_4 a0_5 l0_6 l1 a4=(b1 && (b2 && b3)):=by unfold mayFree;rw [h1,h2,h3]
 rw [hmay] at HR1 HR2
 clear hmay
 have C1:=am_ (fun W (hb:Below w.heap.size w W)=>pinfoldref11_ConfMay.calls a0_0 a0_1 A0_2 c0_2 l0_2 A0_3 c0_3 l0_3 a0_4 a0_5 A0_6 c0_6 l0_6 b1 W (c4_ hr0_2 hb) hc0_2 (c4_ hr0_3 hb) hc0_3 (c4_ hr0_6 hb) hc0_6 (by unfold pinfoldref11_ConfMay.f;rw [if_pos hs.1.1,h1]))
 have C2:=am_ (fun W (hb:Below w.heap.size w W)=>pinfoldref11_TableMay_c.calls A1 c1 l1 b2 W (c4_ hr1 hb) hc1 (by unfold pinfoldref11_TableMay_c.f;rw [if_pos ⟨hs.2.1,fun x hx=>by have:=hs.2.2 x hx;omega⟩,h2]))
 have C3:=am_ (fun W=>pinfoldref1_NameMay_c.calls a4 b3 W (by unfold pinfoldref1_NameMay_c.f;rw [if_pos (by have:=hs.1.2.1;omega),h3]))
 have CF:=am_ (fun (x:ByteArray) W (hx:x.size≤1048576) (hb:Below w.heap.size w W)=>pinfoldref11_Full_c.calls a0_0 a0_1 A0_2 c0_2 l0_2 A0_3 c0_3 l0_3 a0_4 a0_5 A0_6 c0_6 l0_6 x (fullB a0_0 a0_1 l0_2 l0_3 a0_4 a0_5 l0_6 x) W (c4_ hr0_2 hb) hc0_2 (c4_ hr0_3 hb) hc0_3 (c4_ hr0_6 hb) hc0_6 (by unfold pinfoldref11_Full_c.f;rw [if_pos ⟨hs.1.1,hx,hs.1.2.2⟩]))
 have CFa:=am_ (fun W (hb:Below w.heap.size w W)=>CF.out a4 W hs.1.2.1 hb)
 have HS:=am_ hs
 have HK6:=am_ hr0_6
 have HK1:=am_ hr1
 have hl6:l0_6.length≤140737488351232:=hs.1.1.2.2.2.1
 have hl1:l1.length≤140737488351232:=hs.2.1
 have HB:=am_ (Below.refl w.heap.size w)
 have BK:=am_ (blk_new w (.cells #[.int .i64 a0_0,.int .i64 a0_1,.slice A0_2 l0_2.length c0_2,.slice A0_3 l0_3.length c0_3,.int .i64 a0_4,.string a0_5,.slice A0_6 l0_6.length c0_6] 26))
 clear hs hr0_2 hr0_3 hr0_6 hc0_2 hc0_3 hc0_6 hr1 hc1 h1 h2 h3
 replace HR1:=am_ HR1
 replace HR2:=am_ HR2
 cases b1 with
 | false =>
  have e1:r1=false:=by rw [←HR1.out];simp
  have e2:r2=1600:=by rw [←HR2.out];simp
  clear HR1 HR2 CF HK6 HK1 C2 C3
  subst e1 e2
  go_enter Tryz.func34,Tryz.ntmps34
  go_wp2_with (first|(go_at_call 56;(with_reducible refine (C1.out _ (by repeat (with_reducible first|exact HB.out|apply p3_|apply p1_|apply p2_))).mono ?_);rintro e w1 ⟨rfl,hb2⟩;replace BK:=am_ (kb_ (show _ from (by (with_reducible repeat (first|exact BK.out|refine k2_ ?_ _|refine k3_ ?_|refine k1_ ?_ _)))) hb2);replace HB:=am_ (bt_ (show Below w.heap.size w _ from (by repeat (with_reducible first|exact HB.out|apply p3_|apply p1_|apply p2_))) hb2);clear hb2))
  go_ret2
  exact ⟨rfl,(by repeat (with_reducible first|exact HB.out|apply p3_|apply p1_|apply p2_))⟩
 | true =>
 cases b2 with
 | false =>
  have e1:r1=false:=by rw [←HR1.out];simp
  have e2:r2=1600:=by rw [←HR2.out];simp
  clear HR1 HR2 CF HK6 HK1 C3
  subst e1 e2
  go_enter Tryz.func34,Tryz.ntmps34
  go_wp2_with (first|(go_at_call 56;(with_reducible refine (C1.out _ (by repeat (with_reducible first|exact HB.out|apply p3_|apply p1_|apply p2_))).mono ?_);rintro e w1 ⟨rfl,hb2⟩;replace BK:=am_ (kb_ (show _ from (by (with_reducible repeat (first|exact BK.out|refine k2_ ?_ _|refine k3_ ?_|refine k1_ ?_ _)))) hb2);replace HB:=am_ (bt_ (show Below w.heap.size w _ from (by repeat (with_reducible first|exact HB.out|apply p3_|apply p1_|apply p2_))) hb2);clear hb2)|(go_at_call 57;(with_reducible refine (C2.out _ (by repeat (with_reducible first|exact HB.out|apply p3_|apply p1_|apply p2_))).mono ?_);rintro e w2 ⟨rfl,hb2⟩;replace BK:=am_ (kb_ (show _ from (by (with_reducible repeat (first|exact BK.out|refine k2_ ?_ _|refine k3_ ?_|refine k1_ ?_ _)))) hb2);replace HB:=am_ (bt_ (show Below w.heap.size w _ from (by repeat (with_reducible first|exact HB.out|apply p3_|apply p1_|apply p2_))) hb2);clear hb2))
  go_ret2
  exact ⟨rfl,(by repeat (with_reducible first|exact HB.out|apply p3_|apply p1_|apply p2_))⟩
 | true =>
 cases b3 with
 | false =>
  have e1:r1=false:=by rw [←HR1.out];simp
  have e2:r2=1600:=by rw [←HR2.out];simp
  clear HR1 HR2 CF HK6 HK1
  subst e1 e2
  go_enter Tryz.func34,Tryz.ntmps34
  go_wp2_with (first|(go_at_call 56;(with_reducible refine (C1.out _ (by repeat (with_reducible first|exact HB.out|apply p3_|apply p1_|apply p2_))).mono ?_);rintro e w1 ⟨rfl,hb2⟩;replace BK:=am_ (kb_ (show _ from (by (with_reducible repeat (first|exact BK.out|refine k2_ ?_ _|refine k3_ ?_|refine k1_ ?_ _)))) hb2);replace HB:=am_ (bt_ (show Below w.heap.size w _ from (by repeat (with_reducible first|exact HB.out|apply p3_|apply p1_|apply p2_))) hb2);clear hb2)|(go_at_call 57;(with_reducible refine (C2.out _ (by repeat (with_reducible first|exact HB.out|apply p3_|apply p1_|apply p2_))).mono ?_);rintro e w2 ⟨rfl,hb2⟩;replace BK:=am_ (kb_ (show _ from (by (with_reducible repeat (first|exact BK.out|refine k2_ ?_ _|refine k3_ ?_|refine k1_ ?_ _)))) hb2);replace HB:=am_ (bt_ (show Below w.heap.size w _ from (by repeat (with_reducible first|exact HB.out|apply p3_|apply p1_|apply p2_))) hb2);clear hb2)|(go_at_call 28;(with_reducible refine (C3.out _).mono ?_);rintro e w3 ⟨rfl,hb2⟩;replace BK:=am_ (kb_ (show _ from (by (with_reducible repeat (first|exact BK.out|refine k2_ ?_ _|refine k3_ ?_|refine k1_ ?_ _)))) hb2);replace HB:=am_ (bt_ (show Below w.heap.size w _ from (by repeat (with_reducible first|exact HB.out|apply p3_|apply p1_|apply p2_))) hb2);clear hb2))
  go_ret2
  exact ⟨rfl,(by repeat (with_reducible first|exact HB.out|apply p3_|apply p1_|apply p2_))⟩
 | true =>
 have e2:r2=0:=by rw [←HR2.out];simp
 clear HR2
 subst e2
 obtain ⟨F,hF⟩:∃ F,fullB a0_0 a0_1 l0_2 l0_3 a0_4 a0_5 l0_6 a4=F:=⟨_,rfl⟩
 have HR:=HR1.out
 rw [Bool.and_self,Bool.and_self,Bool.true_and,hF] at HR
 replace HR:=am_ HR
 clear HR1
 replace hF:=am_ hF
 by_cases q0:F.toList=[]
 ·have e1:r1=false:=by
   rw [←HR.out,decide_eq_false_iff_not,Classical.not_not]
   rw [ByteArray.toList_eq] at q0
   rw [q0]
   exact List.mem_cons_self
  have q0b:F.toList.isEmpty=true:=by simp [q0]
  clear HR HK6 HK1
  subst e1
  go_enter Tryz.func34,Tryz.ntmps34
  go_wp2_with (first|(go_at_call 56;(with_reducible refine (C1.out _ (by repeat (with_reducible first|exact HB.out|apply p3_|apply p1_|apply p2_))).mono ?_);rintro e w1 ⟨rfl,hb2⟩;replace BK:=am_ (kb_ (show _ from (by (with_reducible repeat (first|exact BK.out|refine k2_ ?_ _|refine k3_ ?_|refine k1_ ?_ _)))) hb2);replace HB:=am_ (bt_ (show Below w.heap.size w _ from (by repeat (with_reducible first|exact HB.out|apply p3_|apply p1_|apply p2_))) hb2);clear hb2)|(go_at_call 57;(with_reducible refine (C2.out _ (by repeat (with_reducible first|exact HB.out|apply p3_|apply p1_|apply p2_))).mono ?_);rintro e w2 ⟨rfl,hb2⟩;replace BK:=am_ (kb_ (show _ from (by (with_reducible repeat (first|exact BK.out|refine k2_ ?_ _|refine k3_ ?_|refine k1_ ?_ _)))) hb2);replace HB:=am_ (bt_ (show Below w.heap.size w _ from (by repeat (with_reducible first|exact HB.out|apply p3_|apply p1_|apply p2_))) hb2);clear hb2)|(go_at_call 28;(with_reducible refine (C3.out _).mono ?_);rintro e w3 ⟨rfl,hb2⟩;replace BK:=am_ (kb_ (show _ from (by (with_reducible repeat (first|exact BK.out|refine k2_ ?_ _|refine k3_ ?_|refine k1_ ?_ _)))) hb2);replace HB:=am_ (bt_ (show Below w.heap.size w _ from (by repeat (with_reducible first|exact HB.out|apply p3_|apply p1_|apply p2_))) hb2);clear hb2;have u0:=bc_ BK.out 0;have u1:=bc_ BK.out 1;have u2:=bc_ BK.out 2;have u3:=bc_ BK.out 3;have u4:=bc_ BK.out 4;have u5:=bc_ BK.out 5;have u6:=bc_ BK.out 6)|(go_at_call 65;(with_reducible refine (CFa.out _ (by repeat (with_reducible first|exact HB.out|apply p3_|apply p1_|apply p2_))).mono ?_);rintro e w4 ⟨rfl,hb2⟩;replace BK:=am_ (kb_ (show _ from (by (with_reducible repeat (first|exact BK.out|refine k2_ ?_ _|refine k3_ ?_|refine k1_ ?_ _)))) hb2);replace HB:=am_ (bt_ (show Below w.heap.size w _ from (by repeat (with_reducible first|exact HB.out|apply p3_|apply p1_|apply p2_))) hb2);clear hb2;(try rw [hF.out])))
  go_ret2
  exact ⟨rfl,(by repeat (with_reducible first|exact HB.out|apply p3_|apply p1_|apply p2_))⟩
 have q0b:F.toList.isEmpty=false:=by simpa using q0
 go_enter Tryz.func34,Tryz.ntmps34
 go_wp2_with (first|(go_at_call 56;(with_reducible refine (C1.out _ (by repeat (with_reducible first|exact HB.out|apply p3_|apply p1_|apply p2_))).mono ?_);rintro e w1 ⟨rfl,hb2⟩;replace BK:=am_ (kb_ (show _ from (by (with_reducible repeat (first|exact BK.out|refine k2_ ?_ _|refine k3_ ?_|refine k1_ ?_ _)))) hb2);replace HB:=am_ (bt_ (show Below w.heap.size w _ from (by repeat (with_reducible first|exact HB.out|apply p3_|apply p1_|apply p2_))) hb2);clear hb2)|(go_at_call 57;(with_reducible refine (C2.out _ (by repeat (with_reducible first|exact HB.out|apply p3_|apply p1_|apply p2_))).mono ?_);rintro e w2 ⟨rfl,hb2⟩;replace BK:=am_ (kb_ (show _ from (by (with_reducible repeat (first|exact BK.out|refine k2_ ?_ _|refine k3_ ?_|refine k1_ ?_ _)))) hb2);replace HB:=am_ (bt_ (show Below w.heap.size w _ from (by repeat (with_reducible first|exact HB.out|apply p3_|apply p1_|apply p2_))) hb2);clear hb2)|(go_at_call 28;(with_reducible refine (C3.out _).mono ?_);rintro e w3 ⟨rfl,hb2⟩;replace BK:=am_ (kb_ (show _ from (by (with_reducible repeat (first|exact BK.out|refine k2_ ?_ _|refine k3_ ?_|refine k1_ ?_ _)))) hb2);replace HB:=am_ (bt_ (show Below w.heap.size w _ from (by repeat (with_reducible first|exact HB.out|apply p3_|apply p1_|apply p2_))) hb2);clear hb2;have u0:=bc_ BK.out 0;have u1:=bc_ BK.out 1;have u2:=bc_ BK.out 2;have u3:=bc_ BK.out 3;have u4:=bc_ BK.out 4;have u5:=bc_ BK.out 5;have u6:=bc_ BK.out 6)|(go_at_call 65;(with_reducible refine (CFa.out _ (by repeat (with_reducible first|exact HB.out|apply p3_|apply p1_|apply p2_))).mono ?_);rintro e w4 ⟨rfl,hb2⟩;replace BK:=am_ (kb_ (show _ from (by (with_reducible repeat (first|exact BK.out|refine k2_ ?_ _|refine k3_ ?_|refine k1_ ?_ _)))) hb2);replace HB:=am_ (bt_ (show Below w.heap.size w _ from (by repeat (with_reducible first|exact HB.out|apply p3_|apply p1_|apply p2_))) hb2);clear hb2;(try rw [hF.out])))
 have HQ0:=am_ q0
 clear q0 q0b C1 C2 C3 u0 u1 u2 u3 u4 u5 u6
 go_loopg [13] l0_6.length (fun d v13 w'=>∃ i:Int,0≤i∧i.toNat+d=l0_6.length∧v13=.int .i64 i∧Aside0 (Below w.heap.size w w')∧Aside0 (w'.heap[w.heap.size]?=some (.cells #[.int .i64 a0_0,.int .i64 a0_1,.slice A0_2 l0_2.length c0_2,.slice A0_3 l0_3.length c0_3,.int .i64 a0_4,.string a0_5,.slice A0_6 l0_6.length c0_6] 26))∧Aside0 (F.data.toList∉takenS (l0_6.take i.toNat)))
 case atStart=>exact ⟨0,by omega,by simp,rfl,HB,BK,⟨by simp [takenS]⟩⟩
 case round =>
  clear HB BK
  obtain ⟨i,hi0,hd,rfl,HB,BK,HI⟩:=hrel
  have u0:=bc_ BK.out 0;have u1:=bc_ BK.out 1;have u2:=bc_ BK.out 2;have u3:=bc_ BK.out 3;have u4:=bc_ BK.out 4;have u5:=bc_ BK.out 5;have u6:=bc_ BK.out 6
  by_cases hlt:i < (l0_6.length:Int)
  ·obtain ⟨ad,e1,hx0,hx1,hx2,hx3,hx4,hx5,hx6⟩:=at_T93 HK6.out i hi0 hlt
   cases e1
   clear hx1 hx2 hx3 hx4 hx5 hx6
   replace hx0:=(HB.out.cell (wb_ w _ hx0)).trans hx0
   have hin:=takS_in l0_6 i hi0 hlt _ HI.out
   generalize rd_T93 l0_6 i=x at hx0 hin
   obtain ⟨s,f1,f2,f3,f4,f5,f6⟩:=x
   simp only at hx0 hin
   by_cases e:s.toList=F.toList
   ·have e1:r1=false:=by
     rw [←HR.out,decide_eq_false_iff_not,Classical.not_not,List.cons_append,List.mem_cons,List.mem_append]
     rw [ByteArray.toList_eq,ByteArray.toList_eq] at e
     exact .inr (.inl (hin.1 e))
    clear HR HI hin HK1
    subst e1
    go_wp2
    go_ret2
    exact ⟨rfl,(by repeat (with_reducible first|exact HB.out|apply p3_|apply p1_|apply p2_))⟩
   ·have eb:(s.toList == F.toList)=false:=by simpa using e
    have HI2:=am_ (hin.2 (fun h=>e (by rw [ByteArray.toList_eq,ByteArray.toList_eq];exact h)))
    clear hin HI HK1
    go_wp2
    go_roundg (l0_6.length - (i.toNat+1))
    case measure=>first|omega|(simp;omega)
    case rel =>
     have e2:(i+1).toNat=i.toNat+1:=by omega
     exact ⟨i+1,by omega,by omega,by go_num,⟨(by repeat (with_reducible first|exact HB.out|apply p3_|apply p1_|apply p2_))⟩,⟨(by (with_reducible repeat (first|exact BK.out|refine k2_ ?_ _|refine k3_ ?_|refine k1_ ?_ _)))⟩,⟨by rw [e2];exact HI2.out⟩⟩
  ·have HT:=am_ (show F.data.toList∉takenS l0_6 by have h1:=HI.out;rw [List.take_of_length_le (by omega)] at h1;exact h1)
   clear HI
   go_wp2
   clear u0 u1 u2 u3 u4 u5 u6
   go_loopg [14] l1.length (fun d v14 w'=>∃ j:Int,0≤j∧j.toNat+d=l1.length∧v14=.int .i64 j∧Aside0 (Below w.heap.size w w')∧Aside0 (w'.heap[w.heap.size]?=some (.cells #[.int .i64 a0_0,.int .i64 a0_1,.slice A0_2 l0_2.length c0_2,.slice A0_3 l0_3.length c0_3,.int .i64 a0_4,.string a0_5,.slice A0_6 l0_6.length c0_6] 26))∧Aside0 (F.data.toList∉takenL (fullB a0_0 a0_1 l0_2 l0_3 a0_4 a0_5 l0_6) a3 a2 (l1.take j.toNat)))
   case atStart=>exact ⟨0,by omega,by simp,rfl,⟨(by repeat (with_reducible first|exact HB.out|apply p3_|apply p1_|apply p2_))⟩,⟨(by (with_reducible repeat (first|exact BK.out|refine k2_ ?_ _|refine k3_ ?_|refine k1_ ?_ _)))⟩,⟨by simp [takenL]⟩⟩
   case round =>
    clear HB BK
    obtain ⟨j,hj0,hdj,rfl,HB,BK,HJ⟩:=hrel
    by_cases jlt:j < (l1.length:Int)
    ·obtain ⟨ad,e1,hx0,hx1,hx2,hx3,hx4,hx5⟩:=at_T44 HK1.out j hj0 jlt
     cases e1
     replace hx0:=(HB.out.cell (wb_ w _ hx0)).trans hx0;replace hx1:=(HB.out.cell (wb_ w _ hx1)).trans hx1;replace hx2:=(HB.out.cell (wb_ w _ hx2)).trans hx2;replace hx3:=(HB.out.cell (wb_ w _ hx3)).trans hx3;replace hx4:=(HB.out.cell (wb_ w _ hx4)).trans hx4;replace hx5:=(HB.out.cell (wb_ w _ hx5)).trans hx5
     have hin:=takL_in (fullB a0_0 a0_1 l0_2 l0_3 a0_4 a0_5 l0_6) a3 a2 l1 j hj0 jlt _ HJ.out
     have hsz:=HS.out.2.2 _ (dropLease l1 j hj0 jlt).2
     rw [heldr_eq] at hin
     generalize rd_T44 l1 j=x at hx0 hx1 hx2 hx3 hx4 hx5 hin hsz
     obtain ⟨f0,f1,f2,f3,f4,f5⟩:=x
     simp only at hx0 hx1 hx2 hx3 hx4 hx5 hin hsz
     obtain ⟨b1,h1⟩:∃ b,liveB f0 f1 f2 f3 f4 f5 a2=b:=⟨_,rfl⟩
     have CL:=am_ (fun W=>pinfoldref11_Live_c.calls f0 f1 f2 f3 f4 f5 a2 b1 W (by unfold pinfoldref11_Live_c.f;rw [if_pos (by omega),h1]))
     rw [h1] at hin
     clear h1
     have CFo:=am_ (fun W=>CF.out f4 W hsz)
     generalize fullB a0_0 a0_1 l0_2 l0_3 a0_4 a0_5 l0_6 f4=FK at hin CFo
     replace hin:=am_ hin
     clear hsz HJ CF HK6
     cases b1 with
     | false =>
      have HN:=am_ (hin.out.2 (fun h=>by simp at h))
      clear hin CFo
      go_wp2_with (first|(go_at_call 30;(with_reducible refine (CL.out _).mono ?_);rintro e w3 ⟨rfl,hb2⟩;have BX:=am_ (kb_ (blk_new wr (.cells #[.int .i64 f0,.int .i64 f1,.string f2,.int .i64 f3,.string f4,.bool f5] 44)) hb2);replace BK:=am_ (kb_ (k1_ BK.out (.cells #[.int .i64 f0,.int .i64 f1,.string f2,.int .i64 f3,.string f4,.bool f5] 44)) hb2);replace HB:=am_ (bt_ (p3_ HB.out (.cells #[.int .i64 f0,.int .i64 f1,.string f2,.int .i64 f3,.string f4,.bool f5] 44)) hb2);clear hb2;have x1:=bc_ BX.out 1;have x2:=bc_ BX.out 2;have x4:=bc_ BX.out 4;have x5:=bc_ BX.out 5;have u0:=bc_ BK.out 0;have u1:=bc_ BK.out 1;have u2:=bc_ BK.out 2;have u3:=bc_ BK.out 3;have u4:=bc_ BK.out 4;have u5:=bc_ BK.out 5;have u6:=bc_ BK.out 6)|(go_at_call 65;(with_reducible refine (CFo.out _ (by repeat (with_reducible first|exact HB.out|apply p3_|apply p1_|apply p2_))).mono ?_);rintro e w4 ⟨rfl,hb2⟩;replace BK:=am_ (kb_ (show _ from (by (with_reducible repeat (first|exact BK.out|refine k2_ ?_ _|refine k3_ ?_|refine k1_ ?_ _)))) hb2);replace HB:=am_ (bt_ (show Below w.heap.size w _ from (by repeat (with_reducible first|exact HB.out|apply p3_|apply p1_|apply p2_))) hb2);clear hb2))
      go_roundg (l1.length - (j.toNat+1))
      case measure=>first|omega|(simp;omega)
      case rel =>
       have e2:(j+1).toNat=j.toNat+1:=by omega
       exact ⟨j+1,by omega,by omega,by go_num,⟨(by repeat (with_reducible first|exact HB.out|apply p3_|apply p1_|apply p2_))⟩,⟨(by (with_reducible repeat (first|exact BK.out|refine k2_ ?_ _|refine k3_ ?_|refine k1_ ?_ _)))⟩,⟨by rw [e2];exact HN.out⟩⟩
     | true =>
      by_cases q1:f1=2
      rotate_left
      ·have HN:=am_ (hin.out.2 (fun h=>by simp [q1] at h))
       have q1b:(f1 == 2)=false:=by simpa using q1
       clear hin CFo q1
       go_wp2_with (first|(go_at_call 30;(with_reducible refine (CL.out _).mono ?_);rintro e w3 ⟨rfl,hb2⟩;have BX:=am_ (kb_ (blk_new wr (.cells #[.int .i64 f0,.int .i64 f1,.string f2,.int .i64 f3,.string f4,.bool f5] 44)) hb2);replace BK:=am_ (kb_ (k1_ BK.out (.cells #[.int .i64 f0,.int .i64 f1,.string f2,.int .i64 f3,.string f4,.bool f5] 44)) hb2);replace HB:=am_ (bt_ (p3_ HB.out (.cells #[.int .i64 f0,.int .i64 f1,.string f2,.int .i64 f3,.string f4,.bool f5] 44)) hb2);clear hb2;have x1:=bc_ BX.out 1;have x2:=bc_ BX.out 2;have x4:=bc_ BX.out 4;have x5:=bc_ BX.out 5;have u0:=bc_ BK.out 0;have u1:=bc_ BK.out 1;have u2:=bc_ BK.out 2;have u3:=bc_ BK.out 3;have u4:=bc_ BK.out 4;have u5:=bc_ BK.out 5;have u6:=bc_ BK.out 6)|(go_at_call 65;(with_reducible refine (CFo.out _ (by repeat (with_reducible first|exact HB.out|apply p3_|apply p1_|apply p2_))).mono ?_);rintro e w4 ⟨rfl,hb2⟩;replace BK:=am_ (kb_ (show _ from (by (with_reducible repeat (first|exact BK.out|refine k2_ ?_ _|refine k3_ ?_|refine k1_ ?_ _)))) hb2);replace HB:=am_ (bt_ (show Below w.heap.size w _ from (by repeat (with_reducible first|exact HB.out|apply p3_|apply p1_|apply p2_))) hb2);clear hb2))
       go_roundg (l1.length - (j.toNat+1))
       case measure=>first|omega|(simp;omega)
       case rel =>
        have e2:(j+1).toNat=j.toNat+1:=by omega
        exact ⟨j+1,by omega,by omega,by go_num,⟨(by repeat (with_reducible first|exact HB.out|apply p3_|apply p1_|apply p2_))⟩,⟨(by (with_reducible repeat (first|exact BK.out|refine k2_ ?_ _|refine k3_ ?_|refine k1_ ?_ _)))⟩,⟨by rw [e2];exact HN.out⟩⟩
      subst q1
      cases f5 with
      | false =>
       have HN:=am_ (hin.out.2 (fun h=>by simp at h))
       clear hin CFo
       go_wp2_with (first|(go_at_call 30;(with_reducible refine (CL.out _).mono ?_);rintro e w3 ⟨rfl,hb2⟩;have BX:=am_ (kb_ (blk_new wr (.cells #[.int .i64 f0,.int .i64 2,.string f2,.int .i64 f3,.string f4,.bool false] 44)) hb2);replace BK:=am_ (kb_ (k1_ BK.out (.cells #[.int .i64 f0,.int .i64 2,.string f2,.int .i64 f3,.string f4,.bool false] 44)) hb2);replace HB:=am_ (bt_ (p3_ HB.out (.cells #[.int .i64 f0,.int .i64 2,.string f2,.int .i64 f3,.string f4,.bool false] 44)) hb2);clear hb2;have x1:=bc_ BX.out 1;have x2:=bc_ BX.out 2;have x4:=bc_ BX.out 4;have x5:=bc_ BX.out 5;have u0:=bc_ BK.out 0;have u1:=bc_ BK.out 1;have u2:=bc_ BK.out 2;have u3:=bc_ BK.out 3;have u4:=bc_ BK.out 4;have u5:=bc_ BK.out 5;have u6:=bc_ BK.out 6)|(go_at_call 65;(with_reducible refine (CFo.out _ (by repeat (with_reducible first|exact HB.out|apply p3_|apply p1_|apply p2_))).mono ?_);rintro e w4 ⟨rfl,hb2⟩;replace BK:=am_ (kb_ (show _ from (by (with_reducible repeat (first|exact BK.out|refine k2_ ?_ _|refine k3_ ?_|refine k1_ ?_ _)))) hb2);replace HB:=am_ (bt_ (show Below w.heap.size w _ from (by repeat (with_reducible first|exact HB.out|apply p3_|apply p1_|apply p2_))) hb2);clear hb2))
       go_roundg (l1.length - (j.toNat+1))
       case measure=>first|omega|(simp;omega)
       case rel =>
        have e2:(j+1).toNat=j.toNat+1:=by omega
        exact ⟨j+1,by omega,by omega,by go_num,⟨(by repeat (with_reducible first|exact HB.out|apply p3_|apply p1_|apply p2_))⟩,⟨(by (with_reducible repeat (first|exact BK.out|refine k2_ ?_ _|refine k3_ ?_|refine k1_ ?_ _)))⟩,⟨by rw [e2];exact HN.out⟩⟩
      | true =>
       by_cases q2:f2.toList=a3.toList
       ·have HN:=am_ (hin.out.2 (fun h=>by simp [q2] at h))
        clear hin CFo
        go_wp2_with (first|(go_at_call 30;(with_reducible refine (CL.out _).mono ?_);rintro e w3 ⟨rfl,hb2⟩;have BX:=am_ (kb_ (blk_new wr (.cells #[.int .i64 f0,.int .i64 2,.string f2,.int .i64 f3,.string f4,.bool true] 44)) hb2);replace BK:=am_ (kb_ (k1_ BK.out (.cells #[.int .i64 f0,.int .i64 2,.string f2,.int .i64 f3,.string f4,.bool true] 44)) hb2);replace HB:=am_ (bt_ (p3_ HB.out (.cells #[.int .i64 f0,.int .i64 2,.string f2,.int .i64 f3,.string f4,.bool true] 44)) hb2);clear hb2;have x1:=bc_ BX.out 1;have x2:=bc_ BX.out 2;have x4:=bc_ BX.out 4;have x5:=bc_ BX.out 5;have u0:=bc_ BK.out 0;have u1:=bc_ BK.out 1;have u2:=bc_ BK.out 2;have u3:=bc_ BK.out 3;have u4:=bc_ BK.out 4;have u5:=bc_ BK.out 5;have u6:=bc_ BK.out 6)|(go_at_call 65;(with_reducible refine (CFo.out _ (by repeat (with_reducible first|exact HB.out|apply p3_|apply p1_|apply p2_))).mono ?_);rintro e w4 ⟨rfl,hb2⟩;replace BK:=am_ (kb_ (show _ from (by (with_reducible repeat (first|exact BK.out|refine k2_ ?_ _|refine k3_ ?_|refine k1_ ?_ _)))) hb2);replace HB:=am_ (bt_ (show Below w.heap.size w _ from (by repeat (with_reducible first|exact HB.out|apply p3_|apply p1_|apply p2_))) hb2);clear hb2))
        go_roundg (l1.length - (j.toNat+1))
        case measure=>first|omega|(simp;omega)
        case rel =>
         have e2:(j+1).toNat=j.toNat+1:=by omega
         exact ⟨j+1,by omega,by omega,by go_num,⟨(by repeat (with_reducible first|exact HB.out|apply p3_|apply p1_|apply p2_))⟩,⟨(by (with_reducible repeat (first|exact BK.out|refine k2_ ?_ _|refine k3_ ?_|refine k1_ ?_ _)))⟩,⟨by rw [e2];exact HN.out⟩⟩
       have q2b:(!f2.toList == a3.toList)=true:=by simp [q2]
       by_cases q3:FK.toList=F.toList
       ·have hf:=am_ (show false=r1 by
         rw [←HR.out,eq_comm,decide_eq_false_iff_not,Classical.not_not,List.cons_append,List.mem_cons,List.mem_append]
         refine .inr (.inr (hin.out.1 ⟨by simp [q2],?_⟩))
         rw [ByteArray.toList_eq,ByteArray.toList_eq] at q3
         exact q3)
        clear hin HR
        go_wp2_with (first|(go_at_call 30;(with_reducible refine (CL.out _).mono ?_);rintro e w3 ⟨rfl,hb2⟩;have BX:=am_ (kb_ (blk_new wr (.cells #[.int .i64 f0,.int .i64 2,.string f2,.int .i64 f3,.string f4,.bool true] 44)) hb2);replace BK:=am_ (kb_ (k1_ BK.out (.cells #[.int .i64 f0,.int .i64 2,.string f2,.int .i64 f3,.string f4,.bool true] 44)) hb2);replace HB:=am_ (bt_ (p3_ HB.out (.cells #[.int .i64 f0,.int .i64 2,.string f2,.int .i64 f3,.string f4,.bool true] 44)) hb2);clear hb2;have x1:=bc_ BX.out 1;have x2:=bc_ BX.out 2;have x4:=bc_ BX.out 4;have x5:=bc_ BX.out 5;have u0:=bc_ BK.out 0;have u1:=bc_ BK.out 1;have u2:=bc_ BK.out 2;have u3:=bc_ BK.out 3;have u4:=bc_ BK.out 4;have u5:=bc_ BK.out 5;have u6:=bc_ BK.out 6)|(go_at_call 65;(with_reducible refine (CFo.out _ (by repeat (with_reducible first|exact HB.out|apply p3_|apply p1_|apply p2_))).mono ?_);rintro e w4 ⟨rfl,hb2⟩;replace BK:=am_ (kb_ (show _ from (by (with_reducible repeat (first|exact BK.out|refine k2_ ?_ _|refine k3_ ?_|refine k1_ ?_ _)))) hb2);replace HB:=am_ (bt_ (show Below w.heap.size w _ from (by repeat (with_reducible first|exact HB.out|apply p3_|apply p1_|apply p2_))) hb2);clear hb2))
        go_ret2
        exact ⟨by have e9:=hf.out;subst e9;rfl,(by repeat (with_reducible first|exact HB.out|apply p3_|apply p1_|apply p2_))⟩
       ·have HN:=am_ (hin.out.2 (fun h=>q3 (by rw [ByteArray.toList_eq,ByteArray.toList_eq];exact h.2)))
        have q3b:(FK.toList == F.toList)=false:=by simpa using q3
        clear hin
        go_wp2_with (first|(go_at_call 30;(with_reducible refine (CL.out _).mono ?_);rintro e w3 ⟨rfl,hb2⟩;have BX:=am_ (kb_ (blk_new wr (.cells #[.int .i64 f0,.int .i64 2,.string f2,.int .i64 f3,.string f4,.bool true] 44)) hb2);replace BK:=am_ (kb_ (k1_ BK.out (.cells #[.int .i64 f0,.int .i64 2,.string f2,.int .i64 f3,.string f4,.bool true] 44)) hb2);replace HB:=am_ (bt_ (p3_ HB.out (.cells #[.int .i64 f0,.int .i64 2,.string f2,.int .i64 f3,.string f4,.bool true] 44)) hb2);clear hb2;have x1:=bc_ BX.out 1;have x2:=bc_ BX.out 2;have x4:=bc_ BX.out 4;have x5:=bc_ BX.out 5;have u0:=bc_ BK.out 0;have u1:=bc_ BK.out 1;have u2:=bc_ BK.out 2;have u3:=bc_ BK.out 3;have u4:=bc_ BK.out 4;have u5:=bc_ BK.out 5;have u6:=bc_ BK.out 6)|(go_at_call 65;(with_reducible refine (CFo.out _ (by repeat (with_reducible first|exact HB.out|apply p3_|apply p1_|apply p2_))).mono ?_);rintro e w4 ⟨rfl,hb2⟩;replace BK:=am_ (kb_ (show _ from (by (with_reducible repeat (first|exact BK.out|refine k2_ ?_ _|refine k3_ ?_|refine k1_ ?_ _)))) hb2);replace HB:=am_ (bt_ (show Below w.heap.size w _ from (by repeat (with_reducible first|exact HB.out|apply p3_|apply p1_|apply p2_))) hb2);clear hb2))
        go_roundg (l1.length - (j.toNat+1))
        case measure=>first|omega|(simp;omega)
        case rel =>
         have e2:(j+1).toNat=j.toNat+1:=by omega
         exact ⟨j+1,by omega,by omega,by go_num,⟨(by repeat (with_reducible first|exact HB.out|apply p3_|apply p1_|apply p2_))⟩,⟨(by (with_reducible repeat (first|exact BK.out|refine k2_ ?_ _|refine k3_ ?_|refine k1_ ?_ _)))⟩,⟨by rw [e2];exact HN.out⟩⟩
    ·have HE:=am_ (show F.data.toList∉takenL (fullB a0_0 a0_1 l0_2 l0_3 a0_4 a0_5 l0_6) a3 a2 l1 by have h1:=HJ.out;rw [List.take_of_length_le (by omega)] at h1;exact h1)
     have e1:r1=true:=by
      rw [←HR.out,decide_eq_true_eq,List.cons_append,List.mem_cons,List.mem_append]
      rintro (h|h|h)
      ·exact HQ0.out (by rw [ByteArray.toList_eq];exact h)
      ·exact HT.out h
      ·exact HE.out h
     clear HR HE HT HJ
     subst e1
     go_wp2
     go_ret2
     exact ⟨rfl,(by repeat (with_reducible first|exact HB.out|apply p3_|apply p1_|apply p2_))⟩

end Go.Proofs.YtibalpbkmgegnaaGreatDoor.PL
