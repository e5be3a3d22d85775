-- Made by wip/pr.py out of the translation (a turned copy of the kit's print; contracts by hand where said).
import Derived.Test.YtibalpbkmgegnaaGreatDoorPLx0
import Derived.Test.YtibalpbkmgegnaaGreatDoorPLx1
import Derived.Test.YtibalpbkmgegnaaGreatDoorPLx2
import Derived.Test.YtibalpbkmgegnaaGreatDoorPLx3
namespace Go.Proofs.YtibalpbkmgegnaaGreatDoor.PL
open Go.RowKit Go.Proofs.YtibalpbkmgegnaaGreatDoorW.PrintWords Go.Proofs.YtibalpbkmgegnaaGreatDoorW.PrintLast Go.Proofs.YtibalpbkmgegnaaGreatDoorW.PrintMore
-- shrunk
attribute [local go_sem] max2_int min2_int max_two min_two max_three min_three max_four min_four   -- for this text's walks alone
set_option linter.unusedVariables false
set_option linter.unusedSimpArgs false
set_option maxHeartbeats 8000000
set_option maxRecDepth 100000

attribute [local go_sem high] eqA44 eqA93 eqA95
/-! ### pinfoldlaw0_SameLeases: function 8 -/
def pinfoldlaw0_SameLeases.l0:Nat→List (S44)→List (S44)→Int→Option (Bool)
 | 0,_,_,_=>none
 | k+1,x0,x1,x5=>if x5 < (x0.length:Int) then (if 0≤x5 then (if x5 < (x1.length:Int) then (if (!(((rd_T44 x0 x5).f0) == ((rd_T44 x1 x5).f0)) || (!(((rd_T44 x0 x5).f1) == ((rd_T44 x1 x5).f1)) || (!((((rd_T44 x0 x5).f2).toList) == (((rd_T44 x1 x5).f2).toList)) || (!(((rd_T44 x0 x5).f3) == ((rd_T44 x1 x5).f3)) || (!((((rd_T44 x0 x5).f4).toList) == (((rd_T44 x1 x5).f4).toList)) || (!(((rd_T44 x0 x5).f5) == ((rd_T44 x1 x5).f5))))))))=true then (some false) else (pinfoldlaw0_SameLeases.l0 k x0 x1 (wrap64 (x5+1)))) else (none)) else (none)) else (some true)
def pinfoldlaw0_SameLeases.f (k:Nat) (l0:List (S44)) (l1:List (S44)):Option (Bool):=if (l0.length:Int)=(l1.length:Int) then (pinfoldlaw0_SameLeases.l0 k l0 l1 0) else (some false)
theorem pinfoldlaw0_SameLeases.mono_l:∀ k,(∀y0 y1 y2,LeO (pinfoldlaw0_SameLeases.l0 k y0 y1 y2) (pinfoldlaw0_SameLeases.l0 (k+1) y0 y1 y2))
 | 0=>fun _ _ _ r h=>by simp [pinfoldlaw0_SameLeases.l0] at h
 | k+1=>by
  have ih0:=pinfoldlaw0_SameLeases.mono_l k
  ·intro y0 y1 y2
   unfold pinfoldlaw0_SameLeases.l0
   repeat' first
   | (with_reducible exact ih0 _ _ _)
   | (with_reducible exact LeO.refl _)
   | (with_reducible exact LeO.none _)
   | (with_reducible refine LeO.ite ?_ ?_)
   | (with_reducible refine LeO.bind ?_ (fun _=>?_))
   | exact ih0 _ _ _
   | exact LeO.none _
   | refine LeO.ite ?_ ?_
   | refine LeO.bind ?_ (fun _=>?_)
theorem pinfoldlaw0_SameLeases.mono:∀ a0 a1 k,LeO (pinfoldlaw0_SameLeases.f k a0 a1) (pinfoldlaw0_SameLeases.f (k+1) a0 a1):=by
 intro a0 a1 k
 have ih0:=pinfoldlaw0_SameLeases.mono_l k
 unfold pinfoldlaw0_SameLeases.f
 repeat' first
   | (with_reducible exact ih0 _ _ _)
   | (with_reducible exact LeO.refl _)
   | (with_reducible exact LeO.none _)
   | (with_reducible refine LeO.ite ?_ ?_)
   | (with_reducible refine LeO.bind ?_ (fun _=>?_))
   | exact ih0 _ _ _
   | exact LeO.none _
   | refine LeO.ite ?_ ?_
   | refine LeO.bind ?_ (fun _=>?_)
theorem pinfoldlaw0_SameLeases.calls (k:Nat) (A0:Option Addr) (c0:Nat) (l0:List (S44)) (A1:Option Addr) (c1:Nat) (l1:List (S44)) (r:Bool) (w:World) (hr0:Kd.C k44 w A0 l0.length l0) (hc0:l0.length≤c0) (hr1:Kd.C k44 w A1 l1.length l1) (hc1:l1.length≤c1) (h:pinfoldlaw0_SameLeases.f k l0 l1=some r) :
  Calls Tryz.prog 8 #[.slice A0 l0.length c0,.slice A1 l1.length c1] w fun e w'=>e=.returned (.bool r)∧Drawn0 w w':=by
 have hu44:=Tryz.underlying44
 have HR0:=am_ hr0
 have HC0:=am_ hc0
 clear hr0 hc0
 have HR1:=am_ hr1
 have HC1:=am_ hc1
 clear hr1 hc1
 have H:(if (l0.length:Int)=(l1.length:Int) then (pinfoldlaw0_SameLeases.l0 k l0 l1 0) else (some false))=some r:=h
 clear h
 by_cases c3:(l0.length:Int)=(l1.length:Int)
 ·rw [if_pos c3] at H
  have c3b0:((l0.length:Int) == (l1.length:Int))=true:=beq_iff_eq.mpr c3
  have c3b1:((l0.length:Int) != (l1.length:Int))=false:=e1_ c3
  have c3b2:(l0.length == l1.length)=true:=by first|simpa using c3|(simp at c3 ⊢;omega)
  clear c3
  have H':=am_ H
  clear H
  go_enter Tryz.func8,Tryz.ntmps8
  go_wp2
  repeat (go_quiet (fail);try go_wp2)
  go_loopg [5] k (fun kq v5 w'=>∃ (x5_1:Int),v5=.int .i64 x5_1∧Aside0 (pinfoldlaw0_SameLeases.l0 kq l0 l1 x5_1=some r)∧Aside0 (kq≤k)∧Drawn0 w w')
  case atStart=>exact ⟨(0),(by first|rfl|(simp;done)|(simp [*];done)),H',⟨Nat.le_refl _⟩,by repeat (first|exact Drawn0.refl _|apply Drawn0.step)⟩
  case round =>
   clear H'
   (try clear c1);(try clear c3);(try clear c3b0);(try clear c3b1);(try clear c3b2)
   obtain ⟨x5_1,rfl,HA,HK1,⟨m1,rfl⟩⟩:=hrel
   cases gk with
   | zero=>exact absurd HA.out (by simp [pinfoldlaw0_SameLeases.l0])
   | succ k1 =>
    have H:=HA.out
    clear HA
    simp only [pinfoldlaw0_SameLeases.l0] at H
    by_cases c4:x5_1 < (l0.length:Int)
    ·rw [if_pos c4] at H
     have c4b0:decide (x5_1 < (l0.length:Int))=true:=decide_eq_true c4
     clear c4
     by_cases c5:0≤x5_1
     rotate_left
     ·rw [if_neg c5] at H
      exact absurd H (by simp)
     rw [if_pos c5] at H
     have c5b0:decide (0≤x5_1)=true:=decide_eq_true c5
     clear c5
     by_cases c6:x5_1 < (l1.length:Int)
     rotate_left
     ·rw [if_neg c6] at H
      exact absurd H (by simp)
     rw [if_pos c6] at H
     have c6b0:decide (x5_1 < (l1.length:Int))=true:=decide_eq_true c6
     clear c6
     by_cases c7:(!(((rd_T44 l0 x5_1).f0) == ((rd_T44 l1 x5_1).f0)) || (!(((rd_T44 l0 x5_1).f1) == ((rd_T44 l1 x5_1).f1)) || (!((((rd_T44 l0 x5_1).f2).toList) == (((rd_T44 l1 x5_1).f2).toList)) || (!(((rd_T44 l0 x5_1).f3) == ((rd_T44 l1 x5_1).f3)) || (!((((rd_T44 l0 x5_1).f4).toList) == (((rd_T44 l1 x5_1).f4).toList)) || (!(((rd_T44 l0 x5_1).f5) == ((rd_T44 l1 x5_1).f5))))))))=true
     ·rw [if_pos c7] at H
      have c7b0:(!(((rd_T44 l0 x5_1).f0) == ((rd_T44 l1 x5_1).f0)) || (!(((rd_T44 l0 x5_1).f1) == ((rd_T44 l1 x5_1).f1)) || (!((((rd_T44 l0 x5_1).f2).toList) == (((rd_T44 l1 x5_1).f2).toList)) || (!(((rd_T44 l0 x5_1).f3) == ((rd_T44 l1 x5_1).f3)) || (!((((rd_T44 l0 x5_1).f4).toList) == (((rd_T44 l1 x5_1).f4).toList)) || (!(((rd_T44 l0 x5_1).f5) == ((rd_T44 l1 x5_1).f5))))))))=true:=c7
      clear c7
      obtain rfl:=e5_ H
      have p184:0≤(x5_1:Int):=of_decide_eq_true (by first|(with_reducible assumption)|assumption)
      have q184:x5_1 < (l0.length:Int):=of_decide_eq_true (by first|(with_reducible assumption)|assumption)
      obtain ⟨ad184,e184,hx184_0,hx184_1,hx184_2,hx184_3,hx184_4,hx184_5⟩:=at_T44 HR0.out x5_1 p184 q184
      cases e184
      replace p184:=eq_true p184
      replace q184:=eq_true q184
      have p185:0≤(x5_1:Int):=of_decide_eq_true (by first|(with_reducible assumption)|assumption)
      have q185:x5_1 < (l1.length:Int):=of_decide_eq_true (by first|(with_reducible assumption)|assumption)
      obtain ⟨ad185,e185,hx185_0,hx185_1,hx185_2,hx185_3,hx185_4,hx185_5⟩:=at_T44 HR1.out x5_1 p185 q185
      cases e185
      replace p185:=eq_true p185
      replace q185:=eq_true q185
      go_wp2
      repeat (go_quiet (fail);try go_wp2)
      go_ret
      exact ⟨by first|rfl|(simp;done)|(simp [*];done),by repeat (first|exact Drawn0.refl _|apply Drawn0.step)⟩
     rw [if_neg c7] at H
     have c7b0:(!(((rd_T44 l0 x5_1).f0) == ((rd_T44 l1 x5_1).f0)) || (!(((rd_T44 l0 x5_1).f1) == ((rd_T44 l1 x5_1).f1)) || (!((((rd_T44 l0 x5_1).f2).toList) == (((rd_T44 l1 x5_1).f2).toList)) || (!(((rd_T44 l0 x5_1).f3) == ((rd_T44 l1 x5_1).f3)) || (!((((rd_T44 l0 x5_1).f4).toList) == (((rd_T44 l1 x5_1).f4).toList)) || (!(((rd_T44 l0 x5_1).f5) == ((rd_T44 l1 x5_1).f5))))))))=false:=by simpa using c7
     clear c7
     have H':=am_ H
     clear H
     have p184:0≤(x5_1:Int):=of_decide_eq_true (by first|(with_reducible assumption)|assumption)
     have q184:x5_1 < (l0.length:Int):=of_decide_eq_true (by first|(with_reducible assumption)|assumption)
     obtain ⟨ad184,e184,hx184_0,hx184_1,hx184_2,hx184_3,hx184_4,hx184_5⟩:=at_T44 HR0.out x5_1 p184 q184
     cases e184
     replace p184:=eq_true p184
     replace q184:=eq_true q184
     have p185:0≤(x5_1:Int):=of_decide_eq_true (by first|(with_reducible assumption)|assumption)
     have q185:x5_1 < (l1.length:Int):=of_decide_eq_true (by first|(with_reducible assumption)|assumption)
     obtain ⟨ad185,e185,hx185_0,hx185_1,hx185_2,hx185_3,hx185_4,hx185_5⟩:=at_T44 HR1.out x5_1 p185 q185
     cases e185
     replace p185:=eq_true p185
     replace q185:=eq_true q185
     go_wp2
     repeat (go_quiet (fail);try go_wp2)
     go_roundg k1
     case measure=>have:=HK1.out;omega
     case rel=>exact ⟨(wrap64 (x5_1+1)),(by first|rfl|(simp;done)|(simp [*];done)),H',⟨by have:=HK1.out;omega⟩,by repeat (first|exact Drawn0.refl _|apply Drawn0.step)⟩
    rw [if_neg c4] at H
    have c4b0:decide (x5_1 < (l0.length:Int))=false:=decide_eq_false c4
    clear c4
    obtain rfl:=e5_ H
    go_wp2
    repeat (go_quiet (fail);try go_wp2)
    go_ret
    exact ⟨by first|rfl|(simp;done)|(simp [*];done),by repeat (first|exact Drawn0.refl _|apply Drawn0.step)⟩
 rw [if_neg c3] at H
 have c3b0:((l0.length:Int) == (l1.length:Int))=false:=e2_ c3
 have c3b1:((l0.length:Int) != (l1.length:Int))=true:=bne_iff_ne.mpr c3
 have c3b2:(l0.length == l1.length)=false:=by first|simpa using c3|(simp at c3 ⊢;omega)
 obtain rfl:=e5_ H
 go_enter Tryz.func8,Tryz.ntmps8
 go_wp2
 repeat (go_quiet (fail);try go_wp2)
 go_ret
 exact ⟨by first|rfl|(simp;done)|(simp [*];done),by repeat (first|exact Drawn0.refl _|apply Drawn0.step)⟩

/-! ### pinfoldlaw0_Num: function 9 -/
def pinfoldlaw0_Num.f (a0:Int):Option (Int):=some a0
theorem pinfoldlaw0_Num.calls (a0:Int) (r:Int) (w:World) (h:pinfoldlaw0_Num.f a0=some r) :
  Calls Tryz.prog 9 #[.int .i64 a0] w fun e w'=>e=.returned (.int .i64 r)∧Drawn0 w w':=by
 have H:(some a0)=some r:=h
 clear h
 obtain rfl:=e5_ H
 go_enter Tryz.func9,Tryz.ntmps9
 go_wp2
 go_ret
 exact ⟨by first|rfl|(simp;done)|(simp [*];done),by repeat (first|exact Drawn0.refl _|apply Drawn0.step)⟩

/-! ### pinfoldlaw0_SpoilLeases: function 10 -/
def pinfoldlaw0_SpoilLeases.l0:Nat→List (S44)→Int→Option ((List (S44)))
 | 0,_,_=>none
 | k+1,x0,x2=>if x2 < (x0.length:Int) then (if 0≤x2 then (pinfoldlaw0_SpoilLeases.l0 k (x0.set (x2:Int).toNat (⟨Go.bits .xor .i64 ((rd_T44 x0 x2).f0) 90,(rd_T44 x0 x2).f1,(rd_T44 x0 x2).f2,(rd_T44 x0 x2).f3,(rd_T44 x0 x2).f4,(rd_T44 x0 x2).f5⟩:S44)) (wrap64 (x2+1))) else (none)) else (some x0)
def pinfoldlaw0_SpoilLeases.f (k:Nat) (l0:List (S44)):Option ((List (S44))):=pinfoldlaw0_SpoilLeases.l0 k l0 0
theorem pinfoldlaw0_SpoilLeases.mono_l:∀ k,(∀y0 y1,LeO (pinfoldlaw0_SpoilLeases.l0 k y0 y1) (pinfoldlaw0_SpoilLeases.l0 (k+1) y0 y1))
 | 0=>fun _ _ r h=>by simp [pinfoldlaw0_SpoilLeases.l0] at h
 | k+1=>by
  have ih0:=pinfoldlaw0_SpoilLeases.mono_l k
  ·intro y0 y1
   unfold pinfoldlaw0_SpoilLeases.l0
   repeat' first
   | (with_reducible exact ih0 _ _)
   | (with_reducible exact LeO.refl _)
   | (with_reducible exact LeO.none _)
   | (with_reducible refine LeO.ite ?_ ?_)
   | (with_reducible refine LeO.bind ?_ (fun _=>?_))
   | exact ih0 _ _
   | exact LeO.none _
   | refine LeO.ite ?_ ?_
   | refine LeO.bind ?_ (fun _=>?_)
theorem pinfoldlaw0_SpoilLeases.mono:∀ a0 k,LeO (pinfoldlaw0_SpoilLeases.f k a0) (pinfoldlaw0_SpoilLeases.f (k+1) a0):=by
 intro a0 k
 have ih0:=pinfoldlaw0_SpoilLeases.mono_l k
 unfold pinfoldlaw0_SpoilLeases.f
 repeat' first
   | (with_reducible exact ih0 _ _)
   | (with_reducible exact LeO.refl _)
   | (with_reducible exact LeO.none _)
   | (with_reducible refine LeO.ite ?_ ?_)
   | (with_reducible refine LeO.bind ?_ (fun _=>?_))
   | exact ih0 _ _
   | exact LeO.none _
   | refine LeO.ite ?_ ?_
   | refine LeO.bind ?_ (fun _=>?_)
theorem pinfoldlaw0_SpoilLeases.calls (k:Nat) (P0_:Nat→Prop) (u9000_:Value) (l0:List (S44)) (r:List (S44)) (w0 w:World) (hB:Below w0.heap.size w0 w) (ho0:Kd.R k44 44 w w0.heap.size P0_ u9000_ l0) (h:pinfoldlaw0_SpoilLeases.f k l0=some r) :
  Calls Tryz.prog 10 #[u9000_] w fun e w'=>e=.returned (.tuple #[])∧Kd.R k44 44 w' w0.heap.size (fun k_=>(P0_ k_∨w.heap.size≤k_)) u9000_ r∧Below w0.heap.size w0 w'∧Kept w w' (fun k_=>P0_ k_):=by
 have HO0:=am_ (show Kd.R k44 44 w w0.heap.size (fun k_=>(P0_ k_∨w.heap.size≤k_)) u9000_ l0 from Kd.R_mono ho0 (fun k_ hk=>(.inl hk)))
 have HK:=am_ (Kept.refl w (fun k_=>P0_ k_))
 have HW0:=am_ hB.size
 have HB:=am_ hB
 clear hB
 have H:(pinfoldlaw0_SpoilLeases.l0 k l0 0)=some r:=h
 clear h
 have H':=am_ H
 clear H
 go_enter Tryz.func10,Tryz.ntmps10
 go_wp2
 go_loopg [2] k (fun kq v2 w'=>∃ (x0_1:List (S44)) (x2_1:Int),v2=.int .i64 x2_1∧Aside0 (pinfoldlaw0_SpoilLeases.l0 kq x0_1 x2_1=some r)∧Aside0 (kq≤k)∧Aside0 (Kd.R k44 44 w' w0.heap.size (fun k_=>(P0_ k_∨w.heap.size≤k_)) u9000_ x0_1)∧Aside0 (Kept w w' (fun k_=>P0_ k_))∧Aside0 (Below w0.heap.size w0 w'))
 case atStart=>exact ⟨(l0),(0),(by first|rfl|(simp;done)|(simp [*];done)),H',⟨Nat.le_refl _⟩,⟨by (with_reducible repeat (first|apply r1_|apply r2_|apply r3_));exact HO0.out⟩,⟨by repeat (with_reducible first|exact HK.out|apply Kept.alloc|apply Kept.drewN|apply Kept.drew)⟩,⟨by repeat (with_reducible first|exact HB.out|apply p3_|apply p1_|apply p2_)⟩⟩
 case round =>
  clear H'
  obtain ⟨x0_1,x2_1,rfl,HA,HK1,HO_0,HK,HB⟩:=hrel
  cases gk with
  | zero=>exact absurd HA.out (by simp [pinfoldlaw0_SpoilLeases.l0])
  | succ k1 =>
   have H:=HA.out
   clear HA
   simp only [pinfoldlaw0_SpoilLeases.l0] at H
   by_cases c2:x2_1 < (x0_1.length:Int)
   ·rw [if_pos c2] at H
    have c2b0:decide (x2_1 < (x0_1.length:Int))=true:=decide_eq_true c2
    clear c2
    by_cases c3:0≤x2_1
    rotate_left
    ·rw [if_neg c3] at H
     exact absurd H (by simp)
    rw [if_pos c3] at H
    have c3b0:decide (0≤x2_1)=true:=decide_eq_true c3
    clear c3
    obtain ⟨y187,hy187⟩:∃ y_:List (S44),y_=(x0_1.set (x2_1:Int).toNat (⟨Go.bits .xor .i64 ((rd_T44 x0_1 x2_1).f0) 90,(rd_T44 x0_1 x2_1).f1,(rd_T44 x0_1 x2_1).f2,(rd_T44 x0_1 x2_1).f3,(rd_T44 x0_1 x2_1).f4,(rd_T44 x0_1 x2_1).f5⟩:S44)):=⟨_,rfl⟩
    replace H:(pinfoldlaw0_SpoilLeases.l0 k1 y187 (wrap64 (x2_1+1)))=some r:=by first|(rw [hy187];with_reducible exact H)|(have H2_:=(Option.bind_some _ _).symm.trans H;rw [hy187];with_reducible exact H2_)|(have H2_:=(Option.bind_some _ _).symm.trans H;with_reducible exact H2_)|with_reducible exact H|(rw [hy187];exact H)|exact H
    have Ny187:=am_ hy187
    clear hy187
    have H':=am_ H
    clear H
    obtain ⟨Ao5,co5,eo5⟩:=Kd.R_slice HO_0.out
    subst eo5
    have p186:0≤(x2_1:Int):=of_decide_eq_true (by first|(with_reducible assumption)|assumption)
    have q186:x2_1 < (x0_1.length:Int):=of_decide_eq_true (by first|(with_reducible assumption)|assumption)
    obtain ⟨ad186,e186,hx186_0,hx186_1,hx186_2,hx186_3,hx186_4,hx186_5⟩:=at_T44 (Kd.R_reads' HO_0.out).2.2 x2_1 p186 q186
    cases e186
    replace p186:=eq_true p186
    replace q186:=eq_true q186
    have p4:0≤(x2_1:Int):=of_decide_eq_true (by first|(with_reducible assumption)|assumption)
    have q4:(x2_1:Int) < ((x0_1.length:Int):Int):=of_decide_eq_true (by first|(with_reducible assumption)|assumption)
    obtain ⟨go4,co4,eo4,gb4,gl4,cl4,HG4⟩:=Kd.R_form HO_0.out (by omega)
    (first|cases eo4|(injection eo4 with ea_ en_ ec_;(first|subst ea_|(injection ea_ with ea_;subst ea_));subst ec_;clear en_))
    have GB4:=am_ gb4
    have GG4:=am_ HG4
    clear gb4 gl4 HG4
    have HMgo4:=am_ (show (P0_ go4∨w.heap.size≤go4) from (HO_0.out.1 _ rfl))
    (first|simp only [add_plain] at hx186_0|skip)
    (first|simp only [add_plain] at hx186_1|skip)
    (first|simp only [add_plain] at hx186_2|skip)
    (first|simp only [add_plain] at hx186_3|skip)
    (first|simp only [add_plain] at hx186_4|skip)
    (first|simp only [add_plain] at hx186_5|skip)
    obtain ⟨ce4,hcl4,hM4,hcc4,hfr4⟩:=Kd.R_elem HO_0.out z44 (x2_1:Int) p4 q4
    obtain rfl:=k44_openM hM4
    have hx4_0:wr.cell? ⟨go4,(x2_1:Int).toNat * 6,none⟩=some (.int .i64 ((rd_T44 x0_1 x2_1).f0)):=hcc4 0 _ rfl
    have hx4_1:wr.cell? ⟨go4,(x2_1:Int).toNat * 6+1,none⟩=some (.int .i64 ((rd_T44 x0_1 x2_1).f1)):=hcc4 1 _ rfl
    have hx4_2:wr.cell? ⟨go4,(x2_1:Int).toNat * 6+2,none⟩=some (.string ((rd_T44 x0_1 x2_1).f2)):=hcc4 2 _ rfl
    have hx4_3:wr.cell? ⟨go4,(x2_1:Int).toNat * 6+3,none⟩=some (.int .i64 ((rd_T44 x0_1 x2_1).f3)):=hcc4 3 _ rfl
    have hx4_4:wr.cell? ⟨go4,(x2_1:Int).toNat * 6+4,none⟩=some (.string ((rd_T44 x0_1 x2_1).f4)):=hcc4 4 _ rfl
    have hx4_5:wr.cell? ⟨go4,(x2_1:Int).toNat * 6+5,none⟩=some (.bool ((rd_T44 x0_1 x2_1).f5)):=hcc4 5 _ rfl
    have hf4_0:wr.frozen? ⟨go4,(x2_1:Int).toNat * 6,none⟩=false:=hfr4 0
    have hf4_1:wr.frozen? ⟨go4,(x2_1:Int).toNat * 6+1,none⟩=false:=hfr4 1
    have hf4_2:wr.frozen? ⟨go4,(x2_1:Int).toNat * 6+2,none⟩=false:=hfr4 2
    have hf4_3:wr.frozen? ⟨go4,(x2_1:Int).toNat * 6+3,none⟩=false:=hfr4 3
    have hf4_4:wr.frozen? ⟨go4,(x2_1:Int).toNat * 6+4,none⟩=false:=hfr4 4
    have hf4_5:wr.frozen? ⟨go4,(x2_1:Int).toNat * 6+5,none⟩=false:=hfr4 5
    clear hcl4 hcc4 hfr4 hM4
    replace p4:=eq_true p4
    replace q4:=eq_true q4
    have HX6:=am_ (show Kd.R k44 44 wr w0.heap.size (fun k_=>(P0_ k_∨w.heap.size≤k_)) (.slice (some ⟨go4,0,none⟩) x0_1.length co5) x0_1 from (by (with_reducible repeat (first|apply r1_|apply r2_|apply r3_));exact HO_0.out))
    obtain ⟨ce6,hcl6,hM6,hcc6,hfr6⟩:=Kd.R_elem HX6.out z44 (x2_1:Int) (of_decide_eq_true (by first|(with_reducible assumption)|assumption)) (by have h_:(x2_1:Int) < ((x0_1.length:Int):Int):=of_decide_eq_true (by first|(with_reducible assumption)|assumption);first|exact h_|(have e_:=(Kd.R_reads' HO_0.out).1;omega)|simpa using h_)
    obtain rfl:=k44_openM hM6
    have HP6:=Kd.R_seg HX6.out (x2_1:Int) (of_decide_eq_true (by first|(with_reducible assumption)|assumption)) (by have h_:(x2_1:Int) < ((x0_1.length:Int):Int):=of_decide_eq_true (by first|(with_reducible assumption)|assumption);first|exact h_|(have e_:=(Kd.R_reads' HO_0.out).1;omega)|simpa using h_) (seg:=[.int .i64 (Go.bits .xor .i64 ((rd_T44 x0_1 x2_1).f0) 90)]) (j:=0) hcl6 hcc6 (show 1≤6 from by decide) (x':=(⟨Go.bits .xor .i64 ((rd_T44 x0_1 x2_1).f0) 90,(rd_T44 x0_1 x2_1).f1,(rd_T44 x0_1 x2_1).f2,(rd_T44 x0_1 x2_1).f3,(rd_T44 x0_1 x2_1).f4,(rd_T44 x0_1 x2_1).f5⟩:S44)) (k44_mkM _ _ _ (⟨Go.bits .xor .i64 ((rd_T44 x0_1 x2_1).f0) 90,(rd_T44 x0_1 x2_1).f1,(rd_T44 x0_1 x2_1).f2,(rd_T44 x0_1 x2_1).f3,(rd_T44 x0_1 x2_1).f4,(rd_T44 x0_1 x2_1).f5⟩:S44) ) (fun _ hk=>hk)
    have hx6_0:=hcc6 0 _ rfl
    (try simp only [show (k44).sz=6 from rfl,Nat.mul_one,Nat.add_zero] at hx6_0)
    have hf6_0:=hfr6 0
    (try simp only [show (k44).sz=6 from rfl,Nat.mul_one,Nat.add_zero] at hf6_0)
    clear hcl6 hcc6 hfr6 hM6
    go_wp2_with (first|((with_reducible refine gate_store (t:=3) (p:=18) rfl ?_);refine store_event (t:=3) (p:=18) (v:=?vo_w7) (w1:=(wr.setCell ⟨go4,(x2_1:Int).toNat * 6,none⟩ (.int .i64 (Go.bits .xor .i64 ((rd_T44 x0_1 x2_1).f0) 90)))) ?hg ?ho ?hn ?hr ?_;(case ho=>rfl);(case hg=>rfl);(case hn=>rfl);(case hr=>first|(go_simp;done)|(go_simp;rfl));intro w7 hw;have hg:wr.grownBy w7 (some go4):=(by rw [hw];exact HP6.2);have hp_:Kd.R k44 44 w7 w0.heap.size (fun k_=>(P0_ k_∨w.heap.size≤k_)) (.slice (some ⟨go4,0,none⟩) x0_1.length co5) y187:=(by rw [hw,Ny187.out];exact HP6.1);clear HP6;have n0_:=am_ (hp_);have n1_:=am_ ((by rw [hw];exact bs_ (HB.out) GB4.out:Below w0.heap.size w0 w7));have n2_:=am_ (Kept.of_grown (S:=(fun k_=>P0_ k_)) hg (by repeat (with_reducible first|exact HK.out|apply Kept.alloc|apply Kept.drewN|apply Kept.drew)) (fun k_ e_=>(HO_0.out.1 k_ e_)));clear HO_0;clear HB;clear HK;have HO_0:=n0_;have HB:=n1_;have HK:=n2_;clear n0_ n1_ n2_;clear hg hw hp_))
    go_roundg k1
    case measure=>have:=HK1.out;omega
    case rel=>exact ⟨(y187),(wrap64 (x2_1+1)),(by first|rfl|(simp;done)|(simp [*];done)),H',⟨by have:=HK1.out;omega⟩,⟨by (with_reducible repeat (first|apply r1_|apply r2_|apply r3_));exact HO_0.out⟩,⟨by repeat (with_reducible first|exact HK.out|apply Kept.alloc|apply Kept.drewN|apply Kept.drew)⟩,⟨by repeat (with_reducible first|exact HB.out|apply p3_|apply p1_|apply p2_)⟩⟩
   rw [if_neg c2] at H
   have c2b0:decide (x2_1 < (x0_1.length:Int))=false:=decide_eq_false c2
   clear c2
   obtain rfl:=e5_ H
   obtain ⟨Ao8,co8,eo8⟩:=Kd.R_slice HO_0.out
   subst eo8
   go_wp2
   first|go_end0|((try simp only [Exit.inBlock,Exit.then]);refine bodyPost_ret (results_none rfl _ _ _) rfl ?_)
   exact ⟨by first|rfl|(simp [errW_none,errW_some]<;>rfl)|(simp [*,errW_none,errW_some]<;>rfl),by (with_reducible repeat (first|apply r1_|apply r2_|apply r3_));exact HO_0.out,by repeat (with_reducible first|exact HB.out|apply p3_|apply p1_|apply p2_),by repeat (with_reducible first|exact HK.out|apply Kept.alloc|apply Kept.drewN|apply Kept.drew)⟩

/-! ### pinfoldlaw0_SameInts: function 36 -/
def pinfoldlaw0_SameInts.l0:Nat→List Int→List Int→Int→Option (Bool)
 | 0,_,_,_=>none
 | k+1,x0,x1,x5=>if x5 < (x0.length:Int) then (if 0≤x5 then (if x5 < (x1.length:Int) then (if (rd x0 x5)=(rd x1 x5) then (pinfoldlaw0_SameInts.l0 k x0 x1 (wrap64 (x5+1))) else (some false)) else (none)) else (none)) else (some true)
def pinfoldlaw0_SameInts.f (k:Nat) (l0:List Int) (l1:List Int):Option (Bool):=if (l0.length:Int)=(l1.length:Int) then (pinfoldlaw0_SameInts.l0 k l0 l1 0) else (some false)
theorem pinfoldlaw0_SameInts.mono_l:∀ k,(∀y0 y1 y2,LeO (pinfoldlaw0_SameInts.l0 k y0 y1 y2) (pinfoldlaw0_SameInts.l0 (k+1) y0 y1 y2))
 | 0=>fun _ _ _ r h=>by simp [pinfoldlaw0_SameInts.l0] at h
 | k+1=>by
  have ih0:=pinfoldlaw0_SameInts.mono_l k
  ·intro y0 y1 y2
   unfold pinfoldlaw0_SameInts.l0
   repeat' first
   | (with_reducible exact ih0 _ _ _)
   | (with_reducible exact LeO.refl _)
   | (with_reducible exact LeO.none _)
   | (with_reducible refine LeO.ite ?_ ?_)
   | (with_reducible refine LeO.bind ?_ (fun _=>?_))
   | exact ih0 _ _ _
   | exact LeO.none _
   | refine LeO.ite ?_ ?_
   | refine LeO.bind ?_ (fun _=>?_)
theorem pinfoldlaw0_SameInts.mono:∀ a0 a1 k,LeO (pinfoldlaw0_SameInts.f k a0 a1) (pinfoldlaw0_SameInts.f (k+1) a0 a1):=by
 intro a0 a1 k
 have ih0:=pinfoldlaw0_SameInts.mono_l k
 unfold pinfoldlaw0_SameInts.f
 repeat' first
   | (with_reducible exact ih0 _ _ _)
   | (with_reducible exact LeO.refl _)
   | (with_reducible exact LeO.none _)
   | (with_reducible refine LeO.ite ?_ ?_)
   | (with_reducible refine LeO.bind ?_ (fun _=>?_))
   | exact ih0 _ _ _
   | exact LeO.none _
   | refine LeO.ite ?_ ?_
   | refine LeO.bind ?_ (fun _=>?_)
theorem pinfoldlaw0_SameInts.calls (k:Nat) (A0:Option Addr) (c0:Nat) (l0:List Int) (A1:Option Addr) (c1:Nat) (l1:List Int) (r:Bool) (w:World) (hr0:Kd.C (Kd.int .i64) w A0 l0.length l0) (hc0:l0.length≤c0) (hr1:Kd.C (Kd.int .i64) w A1 l1.length l1) (hc1:l1.length≤c1) (h:pinfoldlaw0_SameInts.f k l0 l1=some r) :
  Calls Tryz.prog 36 #[.slice A0 l0.length c0,.slice A1 l1.length c1] w fun e w'=>e=.returned (.bool r)∧Drawn0 w w':=by
 have HR0:=am_ hr0
 have HC0:=am_ hc0
 clear hr0 hc0
 have HR1:=am_ hr1
 have HC1:=am_ hc1
 clear hr1 hc1
 have H:(if (l0.length:Int)=(l1.length:Int) then (pinfoldlaw0_SameInts.l0 k l0 l1 0) else (some false))=some r:=h
 clear h
 by_cases c3:(l0.length:Int)=(l1.length:Int)
 ·rw [if_pos c3] at H
  have c3b0:((l0.length:Int) == (l1.length:Int))=true:=beq_iff_eq.mpr c3
  have c3b1:((l0.length:Int) != (l1.length:Int))=false:=e1_ c3
  have c3b2:(l0.length == l1.length)=true:=by first|simpa using c3|(simp at c3 ⊢;omega)
  clear c3
  have H':=am_ H
  clear H
  go_enter Tryz.func36,Tryz.ntmps36
  go_wp2
  repeat (go_quiet (fail);try go_wp2)
  go_loopg [5] k (fun kq v5 w'=>∃ (x5_1:Int),v5=.int .i64 x5_1∧Aside0 (pinfoldlaw0_SameInts.l0 kq l0 l1 x5_1=some r)∧Aside0 (kq≤k)∧Drawn0 w w')
  case atStart=>exact ⟨(0),(by first|rfl|(simp;done)|(simp [*];done)),H',⟨Nat.le_refl _⟩,by repeat (first|exact Drawn0.refl _|apply Drawn0.step)⟩
  case round =>
   clear H'
   (try clear c1);(try clear c3);(try clear c3b0);(try clear c3b1);(try clear c3b2)
   obtain ⟨x5_1,rfl,HA,HK1,⟨m1,rfl⟩⟩:=hrel
   cases gk with
   | zero=>exact absurd HA.out (by simp [pinfoldlaw0_SameInts.l0])
   | succ k1 =>
    have H:=HA.out
    clear HA
    simp only [pinfoldlaw0_SameInts.l0] at H
    by_cases c4:x5_1 < (l0.length:Int)
    ·rw [if_pos c4] at H
     have c4b0:decide (x5_1 < (l0.length:Int))=true:=decide_eq_true c4
     clear c4
     by_cases c5:0≤x5_1
     rotate_left
     ·rw [if_neg c5] at H
      exact absurd H (by simp)
     rw [if_pos c5] at H
     have c5b0:decide (0≤x5_1)=true:=decide_eq_true c5
     clear c5
     by_cases c6:x5_1 < (l1.length:Int)
     rotate_left
     ·rw [if_neg c6] at H
      exact absurd H (by simp)
     rw [if_pos c6] at H
     have c6b0:decide (x5_1 < (l1.length:Int))=true:=decide_eq_true c6
     clear c6
     by_cases c7:(rd l0 x5_1)=(rd l1 x5_1)
     ·rw [if_pos c7] at H
      have c7b0:((rd l0 x5_1) == (rd l1 x5_1))=true:=beq_iff_eq.mpr c7
      have c7b1:((rd l0 x5_1) != (rd l1 x5_1))=false:=e1_ c7
      clear c7
      have H':=am_ H
      clear H
      have p188:0≤(x5_1:Int):=of_decide_eq_true (by first|(with_reducible assumption)|assumption)
      have q188:x5_1 < (l0.length:Int):=of_decide_eq_true (by first|(with_reducible assumption)|assumption)
      obtain ⟨ad188,e188,hx188_0⟩:=Kd.at_int HR0.out x5_1 p188 q188
      cases e188
      replace p188:=eq_true p188
      replace q188:=eq_true q188
      have p189:0≤(x5_1:Int):=of_decide_eq_true (by first|(with_reducible assumption)|assumption)
      have q189:x5_1 < (l1.length:Int):=of_decide_eq_true (by first|(with_reducible assumption)|assumption)
      obtain ⟨ad189,e189,hx189_0⟩:=Kd.at_int HR1.out x5_1 p189 q189
      cases e189
      replace p189:=eq_true p189
      replace q189:=eq_true q189
      go_wp2
      repeat (go_quiet (fail);try go_wp2)
      go_roundg k1
      case measure=>have:=HK1.out;omega
      case rel=>exact ⟨(wrap64 (x5_1+1)),(by first|rfl|(simp;done)|(simp [*];done)),H',⟨by have:=HK1.out;omega⟩,by repeat (first|exact Drawn0.refl _|apply Drawn0.step)⟩
     rw [if_neg c7] at H
     have c7b0:((rd l0 x5_1) == (rd l1 x5_1))=false:=e2_ c7
     have c7b1:((rd l0 x5_1) != (rd l1 x5_1))=true:=bne_iff_ne.mpr c7
     obtain rfl:=e5_ H
     have p188:0≤(x5_1:Int):=of_decide_eq_true (by first|(with_reducible assumption)|assumption)
     have q188:x5_1 < (l0.length:Int):=of_decide_eq_true (by first|(with_reducible assumption)|assumption)
     obtain ⟨ad188,e188,hx188_0⟩:=Kd.at_int HR0.out x5_1 p188 q188
     cases e188
     replace p188:=eq_true p188
     replace q188:=eq_true q188
     have p189:0≤(x5_1:Int):=of_decide_eq_true (by first|(with_reducible assumption)|assumption)
     have q189:x5_1 < (l1.length:Int):=of_decide_eq_true (by first|(with_reducible assumption)|assumption)
     obtain ⟨ad189,e189,hx189_0⟩:=Kd.at_int HR1.out x5_1 p189 q189
     cases e189
     replace p189:=eq_true p189
     replace q189:=eq_true q189
     go_wp2
     repeat (go_quiet (fail);try go_wp2)
     go_ret
     exact ⟨by first|rfl|(simp;done)|(simp [*];done),by repeat (first|exact Drawn0.refl _|apply Drawn0.step)⟩
    rw [if_neg c4] at H
    have c4b0:decide (x5_1 < (l0.length:Int))=false:=decide_eq_false c4
    clear c4
    obtain rfl:=e5_ H
    go_wp2
    repeat (go_quiet (fail);try go_wp2)
    go_ret
    exact ⟨by first|rfl|(simp;done)|(simp [*];done),by repeat (first|exact Drawn0.refl _|apply Drawn0.step)⟩
 rw [if_neg c3] at H
 have c3b0:((l0.length:Int) == (l1.length:Int))=false:=e2_ c3
 have c3b1:((l0.length:Int) != (l1.length:Int))=true:=bne_iff_ne.mpr c3
 have c3b2:(l0.length == l1.length)=false:=by first|simpa using c3|(simp at c3 ⊢;omega)
 obtain rfl:=e5_ H
 go_enter Tryz.func36,Tryz.ntmps36
 go_wp2
 repeat (go_quiet (fail);try go_wp2)
 go_ret
 exact ⟨by first|rfl|(simp;done)|(simp [*];done),by repeat (first|exact Drawn0.refl _|apply Drawn0.step)⟩

/-! ### pinfoldlaw0_SameReserves: function 37 -/
def pinfoldlaw0_SameReserves.l0:Nat→List (S95)→List (S95)→Int→Option (Bool)
 | 0,_,_,_=>none
 | k+1,x0,x1,x5=>if x5 < (x0.length:Int) then (if 0≤x5 then (if x5 < (x1.length:Int) then (if (!((((rd_T95 x0 x5).f0).toList) == (((rd_T95 x1 x5).f0).toList)) || (!(((rd_T95 x0 x5).f1) == ((rd_T95 x1 x5).f1))))=true then (some false) else (pinfoldlaw0_SameReserves.l0 k x0 x1 (wrap64 (x5+1)))) else (none)) else (none)) else (some true)
def pinfoldlaw0_SameReserves.f (k:Nat) (l0:List (S95)) (l1:List (S95)):Option (Bool):=if (l0.length:Int)=(l1.length:Int) then (pinfoldlaw0_SameReserves.l0 k l0 l1 0) else (some false)
theorem pinfoldlaw0_SameReserves.mono_l:∀ k,(∀y0 y1 y2,LeO (pinfoldlaw0_SameReserves.l0 k y0 y1 y2) (pinfoldlaw0_SameReserves.l0 (k+1) y0 y1 y2))
 | 0=>fun _ _ _ r h=>by simp [pinfoldlaw0_SameReserves.l0] at h
 | k+1=>by
  have ih0:=pinfoldlaw0_SameReserves.mono_l k
  ·intro y0 y1 y2
   unfold pinfoldlaw0_SameReserves.l0
   repeat' first
   | (with_reducible exact ih0 _ _ _)
   | (with_reducible exact LeO.refl _)
   | (with_reducible exact LeO.none _)
   | (with_reducible refine LeO.ite ?_ ?_)
   | (with_reducible refine LeO.bind ?_ (fun _=>?_))
   | exact ih0 _ _ _
   | exact LeO.none _
   | refine LeO.ite ?_ ?_
   | refine LeO.bind ?_ (fun _=>?_)
theorem pinfoldlaw0_SameReserves.mono:∀ a0 a1 k,LeO (pinfoldlaw0_SameReserves.f k a0 a1) (pinfoldlaw0_SameReserves.f (k+1) a0 a1):=by
 intro a0 a1 k
 have ih0:=pinfoldlaw0_SameReserves.mono_l k
 unfold pinfoldlaw0_SameReserves.f
 repeat' first
   | (with_reducible exact ih0 _ _ _)
   | (with_reducible exact LeO.refl _)
   | (with_reducible exact LeO.none _)
   | (with_reducible refine LeO.ite ?_ ?_)
   | (with_reducible refine LeO.bind ?_ (fun _=>?_))
   | exact ih0 _ _ _
   | exact LeO.none _
   | refine LeO.ite ?_ ?_
   | refine LeO.bind ?_ (fun _=>?_)
theorem pinfoldlaw0_SameReserves.calls (k:Nat) (A0:Option Addr) (c0:Nat) (l0:List (S95)) (A1:Option Addr) (c1:Nat) (l1:List (S95)) (r:Bool) (w:World) (hr0:Kd.C k95 w A0 l0.length l0) (hc0:l0.length≤c0) (hr1:Kd.C k95 w A1 l1.length l1) (hc1:l1.length≤c1) (h:pinfoldlaw0_SameReserves.f k l0 l1=some r) :
  Calls Tryz.prog 37 #[.slice A0 l0.length c0,.slice A1 l1.length c1] w fun e w'=>e=.returned (.bool r)∧Drawn0 w w':=by
 have hu95:=Tryz.underlying95
 have HR0:=am_ hr0
 have HC0:=am_ hc0
 clear hr0 hc0
 have HR1:=am_ hr1
 have HC1:=am_ hc1
 clear hr1 hc1
 have H:(if (l0.length:Int)=(l1.length:Int) then (pinfoldlaw0_SameReserves.l0 k l0 l1 0) else (some false))=some r:=h
 clear h
 by_cases c3:(l0.length:Int)=(l1.length:Int)
 ·rw [if_pos c3] at H
  have c3b0:((l0.length:Int) == (l1.length:Int))=true:=beq_iff_eq.mpr c3
  have c3b1:((l0.length:Int) != (l1.length:Int))=false:=e1_ c3
  have c3b2:(l0.length == l1.length)=true:=by first|simpa using c3|(simp at c3 ⊢;omega)
  clear c3
  have H':=am_ H
  clear H
  go_enter Tryz.func37,Tryz.ntmps37
  go_wp2
  repeat (go_quiet (fail);try go_wp2)
  go_loopg [5] k (fun kq v5 w'=>∃ (x5_1:Int),v5=.int .i64 x5_1∧Aside0 (pinfoldlaw0_SameReserves.l0 kq l0 l1 x5_1=some r)∧Aside0 (kq≤k)∧Drawn0 w w')
  case atStart=>exact ⟨(0),(by first|rfl|(simp;done)|(simp [*];done)),H',⟨Nat.le_refl _⟩,by repeat (first|exact Drawn0.refl _|apply Drawn0.step)⟩
  case round =>
   clear H'
   (try clear c1);(try clear c3);(try clear c3b0);(try clear c3b1);(try clear c3b2)
   obtain ⟨x5_1,rfl,HA,HK1,⟨m1,rfl⟩⟩:=hrel
   cases gk with
   | zero=>exact absurd HA.out (by simp [pinfoldlaw0_SameReserves.l0])
   | succ k1 =>
    have H:=HA.out
    clear HA
    simp only [pinfoldlaw0_SameReserves.l0] at H
    by_cases c4:x5_1 < (l0.length:Int)
    ·rw [if_pos c4] at H
     have c4b0:decide (x5_1 < (l0.length:Int))=true:=decide_eq_true c4
     clear c4
     by_cases c5:0≤x5_1
     rotate_left
     ·rw [if_neg c5] at H
      exact absurd H (by simp)
     rw [if_pos c5] at H
     have c5b0:decide (0≤x5_1)=true:=decide_eq_true c5
     clear c5
     by_cases c6:x5_1 < (l1.length:Int)
     rotate_left
     ·rw [if_neg c6] at H
      exact absurd H (by simp)
     rw [if_pos c6] at H
     have c6b0:decide (x5_1 < (l1.length:Int))=true:=decide_eq_true c6
     clear c6
     by_cases c7:(!((((rd_T95 l0 x5_1).f0).toList) == (((rd_T95 l1 x5_1).f0).toList)) || (!(((rd_T95 l0 x5_1).f1) == ((rd_T95 l1 x5_1).f1))))=true
     ·rw [if_pos c7] at H
      have c7b0:(!((((rd_T95 l0 x5_1).f0).toList) == (((rd_T95 l1 x5_1).f0).toList)) || (!(((rd_T95 l0 x5_1).f1) == ((rd_T95 l1 x5_1).f1))))=true:=c7
      clear c7
      obtain rfl:=e5_ H
      have p190:0≤(x5_1:Int):=of_decide_eq_true (by first|(with_reducible assumption)|assumption)
      have q190:x5_1 < (l0.length:Int):=of_decide_eq_true (by first|(with_reducible assumption)|assumption)
      obtain ⟨ad190,e190,hx190_0,hx190_1⟩:=at_T95 HR0.out x5_1 p190 q190
      cases e190
      replace p190:=eq_true p190
      replace q190:=eq_true q190
      have p191:0≤(x5_1:Int):=of_decide_eq_true (by first|(with_reducible assumption)|assumption)
      have q191:x5_1 < (l1.length:Int):=of_decide_eq_true (by first|(with_reducible assumption)|assumption)
      obtain ⟨ad191,e191,hx191_0,hx191_1⟩:=at_T95 HR1.out x5_1 p191 q191
      cases e191
      replace p191:=eq_true p191
      replace q191:=eq_true q191
      go_wp2
      repeat (go_quiet (fail);try go_wp2)
      go_ret
      exact ⟨by first|rfl|(simp;done)|(simp [*];done),by repeat (first|exact Drawn0.refl _|apply Drawn0.step)⟩
     rw [if_neg c7] at H
     have c7b0:(!((((rd_T95 l0 x5_1).f0).toList) == (((rd_T95 l1 x5_1).f0).toList)) || (!(((rd_T95 l0 x5_1).f1) == ((rd_T95 l1 x5_1).f1))))=false:=by simpa using c7
     clear c7
     have H':=am_ H
     clear H
     have p190:0≤(x5_1:Int):=of_decide_eq_true (by first|(with_reducible assumption)|assumption)
     have q190:x5_1 < (l0.length:Int):=of_decide_eq_true (by first|(with_reducible assumption)|assumption)
     obtain ⟨ad190,e190,hx190_0,hx190_1⟩:=at_T95 HR0.out x5_1 p190 q190
     cases e190
     replace p190:=eq_true p190
     replace q190:=eq_true q190
     have p191:0≤(x5_1:Int):=of_decide_eq_true (by first|(with_reducible assumption)|assumption)
     have q191:x5_1 < (l1.length:Int):=of_decide_eq_true (by first|(with_reducible assumption)|assumption)
     obtain ⟨ad191,e191,hx191_0,hx191_1⟩:=at_T95 HR1.out x5_1 p191 q191
     cases e191
     replace p191:=eq_true p191
     replace q191:=eq_true q191
     go_wp2
     repeat (go_quiet (fail);try go_wp2)
     go_roundg k1
     case measure=>have:=HK1.out;omega
     case rel=>exact ⟨(wrap64 (x5_1+1)),(by first|rfl|(simp;done)|(simp [*];done)),H',⟨by have:=HK1.out;omega⟩,by repeat (first|exact Drawn0.refl _|apply Drawn0.step)⟩
    rw [if_neg c4] at H
    have c4b0:decide (x5_1 < (l0.length:Int))=false:=decide_eq_false c4
    clear c4
    obtain rfl:=e5_ H
    go_wp2
    repeat (go_quiet (fail);try go_wp2)
    go_ret
    exact ⟨by first|rfl|(simp;done)|(simp [*];done),by repeat (first|exact Drawn0.refl _|apply Drawn0.step)⟩
 rw [if_neg c3] at H
 have c3b0:((l0.length:Int) == (l1.length:Int))=false:=e2_ c3
 have c3b1:((l0.length:Int) != (l1.length:Int))=true:=bne_iff_ne.mpr c3
 have c3b2:(l0.length == l1.length)=false:=by first|simpa using c3|(simp at c3 ⊢;omega)
 obtain rfl:=e5_ H
 go_enter Tryz.func37,Tryz.ntmps37
 go_wp2
 repeat (go_quiet (fail);try go_wp2)
 go_ret
 exact ⟨by first|rfl|(simp;done)|(simp [*];done),by repeat (first|exact Drawn0.refl _|apply Drawn0.step)⟩

/-! ### pinfoldlaw0_SameRRs: function 38 -/
def pinfoldlaw0_SameRRs.l0:Nat→List (S93)→List (S93)→Int→Option (Bool)
 | 0,_,_,_=>none
 | k+1,x0,x1,x5=>if x5 < (x0.length:Int) then (if 0≤x5 then (if x5 < (x1.length:Int) then (if (!((((rd_T93 x0 x5).f0).toList) == (((rd_T93 x1 x5).f0).toList)) || (!(((rd_T93 x0 x5).f1) == ((rd_T93 x1 x5).f1)) || (!(((rd_T93 x0 x5).f2) == ((rd_T93 x1 x5).f2)) || (!(((rd_T93 x0 x5).f3) == ((rd_T93 x1 x5).f3)) || (!((((rd_T93 x0 x5).f4).toList) == (((rd_T93 x1 x5).f4).toList)) || (!((((rd_T93 x0 x5).f5).toList) == (((rd_T93 x1 x5).f5).toList)) || (!(((rd_T93 x0 x5).f6) == ((rd_T93 x1 x5).f6)))))))))=true then (some false) else (pinfoldlaw0_SameRRs.l0 k x0 x1 (wrap64 (x5+1)))) else (none)) else (none)) else (some true)
def pinfoldlaw0_SameRRs.f (k:Nat) (l0:List (S93)) (l1:List (S93)):Option (Bool):=if (l0.length:Int)=(l1.length:Int) then (pinfoldlaw0_SameRRs.l0 k l0 l1 0) else (some false)
theorem pinfoldlaw0_SameRRs.mono_l:∀ k,(∀y0 y1 y2,LeO (pinfoldlaw0_SameRRs.l0 k y0 y1 y2) (pinfoldlaw0_SameRRs.l0 (k+1) y0 y1 y2))
 | 0=>fun _ _ _ r h=>by simp [pinfoldlaw0_SameRRs.l0] at h
 | k+1=>by
  have ih0:=pinfoldlaw0_SameRRs.mono_l k
  ·intro y0 y1 y2
   unfold pinfoldlaw0_SameRRs.l0
   repeat' first
   | (with_reducible exact ih0 _ _ _)
   | (with_reducible exact LeO.refl _)
   | (with_reducible exact LeO.none _)
   | (with_reducible refine LeO.ite ?_ ?_)
   | (with_reducible refine LeO.bind ?_ (fun _=>?_))
   | exact ih0 _ _ _
   | exact LeO.none _
   | refine LeO.ite ?_ ?_
   | refine LeO.bind ?_ (fun _=>?_)
theorem pinfoldlaw0_SameRRs.mono:∀ a0 a1 k,LeO (pinfoldlaw0_SameRRs.f k a0 a1) (pinfoldlaw0_SameRRs.f (k+1) a0 a1):=by
 intro a0 a1 k
 have ih0:=pinfoldlaw0_SameRRs.mono_l k
 unfold pinfoldlaw0_SameRRs.f
 repeat' first
   | (with_reducible exact ih0 _ _ _)
   | (with_reducible exact LeO.refl _)
   | (with_reducible exact LeO.none _)
   | (with_reducible refine LeO.ite ?_ ?_)
   | (with_reducible refine LeO.bind ?_ (fun _=>?_))
   | exact ih0 _ _ _
   | exact LeO.none _
   | refine LeO.ite ?_ ?_
   | refine LeO.bind ?_ (fun _=>?_)
theorem pinfoldlaw0_SameRRs.calls (k:Nat) (A0:Option Addr) (c0:Nat) (l0:List (S93)) (A1:Option Addr) (c1:Nat) (l1:List (S93)) (r:Bool) (w:World) (hr0:Kd.C k93 w A0 l0.length l0) (hc0:l0.length≤c0) (hr1:Kd.C k93 w A1 l1.length l1) (hc1:l1.length≤c1) (h:pinfoldlaw0_SameRRs.f k l0 l1=some r) :
  Calls Tryz.prog 38 #[.slice A0 l0.length c0,.slice A1 l1.length c1] w fun e w'=>e=.returned (.bool r)∧Drawn0 w w':=by
 have hu93:=Tryz.underlying93
 have HR0:=am_ hr0
 have HC0:=am_ hc0
 clear hr0 hc0
 have HR1:=am_ hr1
 have HC1:=am_ hc1
 clear hr1 hc1
 have H:(if (l0.length:Int)=(l1.length:Int) then (pinfoldlaw0_SameRRs.l0 k l0 l1 0) else (some false))=some r:=h
 clear h
 by_cases c3:(l0.length:Int)=(l1.length:Int)
 ·rw [if_pos c3] at H
  have c3b0:((l0.length:Int) == (l1.length:Int))=true:=beq_iff_eq.mpr c3
  have c3b1:((l0.length:Int) != (l1.length:Int))=false:=e1_ c3
  have c3b2:(l0.length == l1.length)=true:=by first|simpa using c3|(simp at c3 ⊢;omega)
  clear c3
  have H':=am_ H
  clear H
  go_enter Tryz.func38,Tryz.ntmps38
  go_wp2
  repeat (go_quiet (fail);try go_wp2)
  go_loopg [5] k (fun kq v5 w'=>∃ (x5_1:Int),v5=.int .i64 x5_1∧Aside0 (pinfoldlaw0_SameRRs.l0 kq l0 l1 x5_1=some r)∧Aside0 (kq≤k)∧Drawn0 w w')
  case atStart=>exact ⟨(0),(by first|rfl|(simp;done)|(simp [*];done)),H',⟨Nat.le_refl _⟩,by repeat (first|exact Drawn0.refl _|apply Drawn0.step)⟩
  case round =>
   clear H'
   (try clear c1);(try clear c3);(try clear c3b0);(try clear c3b1);(try clear c3b2)
   obtain ⟨x5_1,rfl,HA,HK1,⟨m1,rfl⟩⟩:=hrel
   cases gk with
   | zero=>exact absurd HA.out (by simp [pinfoldlaw0_SameRRs.l0])
   | succ k1 =>
    have H:=HA.out
    clear HA
    simp only [pinfoldlaw0_SameRRs.l0] at H
    by_cases c4:x5_1 < (l0.length:Int)
    ·rw [if_pos c4] at H
     have c4b0:decide (x5_1 < (l0.length:Int))=true:=decide_eq_true c4
     clear c4
     by_cases c5:0≤x5_1
     rotate_left
     ·rw [if_neg c5] at H
      exact absurd H (by simp)
     rw [if_pos c5] at H
     have c5b0:decide (0≤x5_1)=true:=decide_eq_true c5
     clear c5
     by_cases c6:x5_1 < (l1.length:Int)
     rotate_left
     ·rw [if_neg c6] at H
      exact absurd H (by simp)
     rw [if_pos c6] at H
     have c6b0:decide (x5_1 < (l1.length:Int))=true:=decide_eq_true c6
     clear c6
     by_cases c7:(!((((rd_T93 l0 x5_1).f0).toList) == (((rd_T93 l1 x5_1).f0).toList)) || (!(((rd_T93 l0 x5_1).f1) == ((rd_T93 l1 x5_1).f1)) || (!(((rd_T93 l0 x5_1).f2) == ((rd_T93 l1 x5_1).f2)) || (!(((rd_T93 l0 x5_1).f3) == ((rd_T93 l1 x5_1).f3)) || (!((((rd_T93 l0 x5_1).f4).toList) == (((rd_T93 l1 x5_1).f4).toList)) || (!((((rd_T93 l0 x5_1).f5).toList) == (((rd_T93 l1 x5_1).f5).toList)) || (!(((rd_T93 l0 x5_1).f6) == ((rd_T93 l1 x5_1).f6)))))))))=true
     ·rw [if_pos c7] at H
      have c7b0:(!((((rd_T93 l0 x5_1).f0).toList) == (((rd_T93 l1 x5_1).f0).toList)) || (!(((rd_T93 l0 x5_1).f1) == ((rd_T93 l1 x5_1).f1)) || (!(((rd_T93 l0 x5_1).f2) == ((rd_T93 l1 x5_1).f2)) || (!(((rd_T93 l0 x5_1).f3) == ((rd_T93 l1 x5_1).f3)) || (!((((rd_T93 l0 x5_1).f4).toList) == (((rd_T93 l1 x5_1).f4).toList)) || (!((((rd_T93 l0 x5_1).f5).toList) == (((rd_T93 l1 x5_1).f5).toList)) || (!(((rd_T93 l0 x5_1).f6) == ((rd_T93 l1 x5_1).f6)))))))))=true:=c7
      clear c7
      obtain rfl:=e5_ H
      have p192:0≤(x5_1:Int):=of_decide_eq_true (by first|(with_reducible assumption)|assumption)
      have q192:x5_1 < (l0.length:Int):=of_decide_eq_true (by first|(with_reducible assumption)|assumption)
      obtain ⟨ad192,e192,hx192_0,hx192_1,hx192_2,hx192_3,hx192_4,hx192_5,hx192_6⟩:=at_T93 HR0.out x5_1 p192 q192
      cases e192
      replace p192:=eq_true p192
      replace q192:=eq_true q192
      have p193:0≤(x5_1:Int):=of_decide_eq_true (by first|(with_reducible assumption)|assumption)
      have q193:x5_1 < (l1.length:Int):=of_decide_eq_true (by first|(with_reducible assumption)|assumption)
      obtain ⟨ad193,e193,hx193_0,hx193_1,hx193_2,hx193_3,hx193_4,hx193_5,hx193_6⟩:=at_T93 HR1.out x5_1 p193 q193
      cases e193
      replace p193:=eq_true p193
      replace q193:=eq_true q193
      go_wp2
      repeat (go_quiet (fail);try go_wp2)
      go_ret
      exact ⟨by first|rfl|(simp;done)|(simp [*];done),by repeat (first|exact Drawn0.refl _|apply Drawn0.step)⟩
     rw [if_neg c7] at H
     have c7b0:(!((((rd_T93 l0 x5_1).f0).toList) == (((rd_T93 l1 x5_1).f0).toList)) || (!(((rd_T93 l0 x5_1).f1) == ((rd_T93 l1 x5_1).f1)) || (!(((rd_T93 l0 x5_1).f2) == ((rd_T93 l1 x5_1).f2)) || (!(((rd_T93 l0 x5_1).f3) == ((rd_T93 l1 x5_1).f3)) || (!((((rd_T93 l0 x5_1).f4).toList) == (((rd_T93 l1 x5_1).f4).toList)) || (!((((rd_T93 l0 x5_1).f5).toList) == (((rd_T93 l1 x5_1).f5).toList)) || (!(((rd_T93 l0 x5_1).f6) == ((rd_T93 l1 x5_1).f6)))))))))=false:=by simpa using c7
     clear c7
     have H':=am_ H
     clear H
     have p192:0≤(x5_1:Int):=of_decide_eq_true (by first|(with_reducible assumption)|assumption)
     have q192:x5_1 < (l0.length:Int):=of_decide_eq_true (by first|(with_reducible assumption)|assumption)
     obtain ⟨ad192,e192,hx192_0,hx192_1,hx192_2,hx192_3,hx192_4,hx192_5,hx192_6⟩:=at_T93 HR0.out x5_1 p192 q192
     cases e192
     replace p192:=eq_true p192
     replace q192:=eq_true q192
     have p193:0≤(x5_1:Int):=of_decide_eq_true (by first|(with_reducible assumption)|assumption)
     have q193:x5_1 < (l1.length:Int):=of_decide_eq_true (by first|(with_reducible assumption)|assumption)
     obtain ⟨ad193,e193,hx193_0,hx193_1,hx193_2,hx193_3,hx193_4,hx193_5,hx193_6⟩:=at_T93 HR1.out x5_1 p193 q193
     cases e193
     replace p193:=eq_true p193
     replace q193:=eq_true q193
     go_wp2
     repeat (go_quiet (fail);try go_wp2)
     go_roundg k1
     case measure=>have:=HK1.out;omega
     case rel=>exact ⟨(wrap64 (x5_1+1)),(by first|rfl|(simp;done)|(simp [*];done)),H',⟨by have:=HK1.out;omega⟩,by repeat (first|exact Drawn0.refl _|apply Drawn0.step)⟩
    rw [if_neg c4] at H
    have c4b0:decide (x5_1 < (l0.length:Int))=false:=decide_eq_false c4
    clear c4
    obtain rfl:=e5_ H
    go_wp2
    repeat (go_quiet (fail);try go_wp2)
    go_ret
    exact ⟨by first|rfl|(simp;done)|(simp [*];done),by repeat (first|exact Drawn0.refl _|apply Drawn0.step)⟩
 rw [if_neg c3] at H
 have c3b0:((l0.length:Int) == (l1.length:Int))=false:=e2_ c3
 have c3b1:((l0.length:Int) != (l1.length:Int))=true:=bne_iff_ne.mpr c3
 have c3b2:(l0.length == l1.length)=false:=by first|simpa using c3|(simp at c3 ⊢;omega)
 obtain rfl:=e5_ H
 go_enter Tryz.func38,Tryz.ntmps38
 go_wp2
 repeat (go_quiet (fail);try go_wp2)
 go_ret
 exact ⟨by first|rfl|(simp;done)|(simp [*];done),by repeat (first|exact Drawn0.refl _|apply Drawn0.step)⟩

/-! ### pinfoldlaw0_SameConfig: function 11 -/
-- BY HAND
-- 36 37 38
def pinfoldlaw0_SameConfig.f (k:Nat) (a0_0:Int) (a0_1:Int) (l0_2:List Int) (l0_3:List S95) (a0_4:Int) (a0_5:ByteArray) (l0_6:List S93) (a1_0:Int) (a1_1:Int) (l1_2:List Int) (l1_3:List S95) (a1_4:Int) (a1_5:ByteArray) (l1_6:List S93):Option Bool :=
 if a0_0=a1_0∧a0_1=a1_1∧a0_4=a1_4∧a0_5.toList=a1_5.toList then (pinfoldlaw0_SameInts.f k l0_2 l1_2).bind fun x=>if x=true then (pinfoldlaw0_SameReserves.f k l0_3 l1_3).bind fun y=>if y=true then pinfoldlaw0_SameRRs.f k l0_6 l1_6 else none else none else none
theorem pinfoldlaw0_SameConfig.mono:∀ a0_0 a0_1 l0_2 l0_3 a0_4 a0_5 l0_6 a1_0 a1_1 l1_2 l1_3 a1_4 a1_5 l1_6 k,LeO (pinfoldlaw0_SameConfig.f k a0_0 a0_1 l0_2 l0_3 a0_4 a0_5 l0_6 a1_0 a1_1 l1_2 l1_3 a1_4 a1_5 l1_6) (pinfoldlaw0_SameConfig.f (k+1) a0_0 a0_1 l0_2 l0_3 a0_4 a0_5 l0_6 a1_0 a1_1 l1_2 l1_3 a1_4 a1_5 l1_6):=by
 intro a0_0 a0_1 l0_2 l0_3 a0_4 a0_5 l0_6 a1_0 a1_1 l1_2 l1_3 a1_4 a1_5 l1_6 k r h
 unfold pinfoldlaw0_SameConfig.f at h ⊢
 by_cases q:a0_0=a1_0∧a0_1=a1_1∧a0_4=a1_4∧a0_5.toList=a1_5.toList
 rotate_left
 ·rw [if_neg q] at h
  cases h
 rw [if_pos q] at h ⊢
 obtain ⟨x,hx,h⟩:=Option.bind_eq_some_iff.1 h
 rw [pinfoldlaw0_SameInts.mono _ _ k x hx,Option.bind_some]
 by_cases qx:x=true
 rotate_left
 ·rw [if_neg qx] at h
  cases h
 rw [if_pos qx] at h ⊢
 obtain ⟨y,hy,h⟩:=Option.bind_eq_some_iff.1 h
 rw [pinfoldlaw0_SameReserves.mono _ _ k y hy,Option.bind_some]
 by_cases qy:y=true
 rotate_left
 ·rw [if_neg qy] at h
  cases h
 rw [if_pos qy] at h ⊢
 exact pinfoldlaw0_SameRRs.mono _ _ k r h
theorem pinfoldlaw0_SameConfig.calls (k:Nat) (a0_0:Int) (a0_1:Int) (A0_2:Option Addr) (c0_2:Nat) (l0_2:List Int) (A0_3:Option Addr) (c0_3:Nat) (l0_3:List S95) (a0_4:Int) (a0_5:ByteArray) (A0_6:Option Addr) (c0_6:Nat) (l0_6:List S93) (a1_0:Int) (a1_1:Int) (A1_2:Option Addr) (c1_2:Nat) (l1_2:List Int) (A1_3:Option Addr) (c1_3:Nat) (l1_3:List S95) (a1_4:Int) (a1_5:ByteArray) (A1_6:Option Addr) (c1_6:Nat) (l1_6:List S93) (r:Bool) (w:World) (hr0_2:Kd.C (Kd.int .i64) w A0_2 l0_2.length l0_2) (hc0_2:l0_2.length≤c0_2) (hr0_3:Kd.C k95 w A0_3 l0_3.length l0_3) (hc0_3:l0_3.length≤c0_3) (hr0_6:Kd.C k93 w A0_6 l0_6.length l0_6) (hc0_6:l0_6.length≤c0_6) (hr1_2:Kd.C (Kd.int .i64) w A1_2 l1_2.length l1_2) (hc1_2:l1_2.length≤c1_2) (hr1_3:Kd.C k95 w A1_3 l1_3.length l1_3) (hc1_3:l1_3.length≤c1_3) (hr1_6:Kd.C k93 w A1_6 l1_6.length l1_6) (hc1_6:l1_6.length≤c1_6) (h:pinfoldlaw0_SameConfig.f k a0_0 a0_1 l0_2 l0_3 a0_4 a0_5 l0_6 a1_0 a1_1 l1_2 l1_3 a1_4 a1_5 l1_6=some r) :
  Calls Tryz.prog 11 #[.agg #[.int .i64 a0_0,.int .i64 a0_1,.slice A0_2 l0_2.length c0_2,.slice A0_3 l0_3.length c0_3,.int .i64 a0_4,.string a0_5,.slice A0_6 l0_6.length c0_6],.agg #[.int .i64 a1_0,.int .i64 a1_1,.slice A1_2 l1_2.length c1_2,.slice A1_3 l1_3.length c1_3,.int .i64 a1_4,.string a1_5,.slice A1_6 l1_6.length c1_6]] w fun e w'=>e=.returned (.bool r)∧Below w.heap.size w w':=by
 unfold pinfoldlaw0_SameConfig.f at h
 by_cases q:a0_0=a1_0∧a0_1=a1_1∧a0_4=a1_4∧a0_5.toList=a1_5.toList
 rotate_left
 ·rw [if_neg q] at h
  cases h
 rw [if_pos q] at h
 obtain ⟨x,hx,h⟩:=Option.bind_eq_some_iff.1 h
 by_cases qx:x=true
 rotate_left
 ·rw [if_neg qx] at h
  cases h
 rw [if_pos qx] at h
 obtain ⟨y,hy,h⟩:=Option.bind_eq_some_iff.1 h
 by_cases qy:y=true
 rotate_left
 ·rw [if_neg qy] at h
  cases h
 rw [if_pos qy] at h
 subst qx qy
 obtain ⟨rfl,rfl,rfl,qz⟩:=q
 have c0:(a0_0 == a0_0)=true:=by simp
 have c1:(a0_1 == a0_1)=true:=by simp
 have c4:(a0_4 == a0_4)=true:=by simp
 have c5:(a0_5.toList == a1_5.toList)=true:=by simpa using qz
 clear qz
 have C2:=am_ (fun W h1 h2=>pinfoldlaw0_SameInts.calls k A0_2 c0_2 l0_2 A1_2 c1_2 l1_2 true W h1 hc0_2 h2 hc1_2 hx)
 have C3:=am_ (fun W h1 h2=>pinfoldlaw0_SameReserves.calls k A0_3 c0_3 l0_3 A1_3 c1_3 l1_3 true W h1 hc0_3 h2 hc1_3 hy)
 have C6:=am_ (fun W h1 h2=>pinfoldlaw0_SameRRs.calls k A0_6 c0_6 l0_6 A1_6 c1_6 l1_6 r W h1 hc0_6 h2 hc1_6 h)
 have R2:=am_ hr0_2
 have R3:=am_ hr0_3
 have R6:=am_ hr0_6
 have T2:=am_ hr1_2
 have T3:=am_ hr1_3
 have T6:=am_ hr1_6
 clear hx hy h hr0_2 hr0_3 hr0_6 hr1_2 hr1_3 hr1_6 hc0_2 hc0_3 hc0_6 hc1_2 hc1_3 hc1_6
 go_enter Tryz.func11,Tryz.ntmps11
 go_wp2_with (first|(go_at_call 36;(with_reducible refine (C2.out _ (by (with_reducible repeat (first|exact R2.out|refine c2_ ?_ _|refine c3_ ?_|refine c1_ ?_ _))) (by (with_reducible repeat (first|exact T2.out|refine c2_ ?_ _|refine c3_ ?_|refine c1_ ?_ _)))).mono ?_);rintro e wq ⟨rfl,⟨nd,rfl⟩⟩)|(go_at_call 37;(with_reducible refine (C3.out _ (by (with_reducible repeat (first|exact R3.out|refine c2_ ?_ _|refine c3_ ?_|refine c1_ ?_ _))) (by (with_reducible repeat (first|exact T3.out|refine c2_ ?_ _|refine c3_ ?_|refine c1_ ?_ _)))).mono ?_);rintro e wq ⟨rfl,⟨nd,rfl⟩⟩)|(go_at_call 38;(with_reducible refine (C6.out _ (by (with_reducible repeat (first|exact R6.out|refine c2_ ?_ _|refine c3_ ?_|refine c1_ ?_ _))) (by (with_reducible repeat (first|exact T6.out|refine c2_ ?_ _|refine c3_ ?_|refine c1_ ?_ _)))).mono ?_);rintro e wq ⟨rfl,⟨nd,rfl⟩⟩))
 go_ret
 exact ⟨rfl,by repeat (with_reducible first|exact Below.refl _ _|apply p3_|apply p1_|apply p2_)⟩

end Go.Proofs.YtibalpbkmgegnaaGreatDoor.PL
