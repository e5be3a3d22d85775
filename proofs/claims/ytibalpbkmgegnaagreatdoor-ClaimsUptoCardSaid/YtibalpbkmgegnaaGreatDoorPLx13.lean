-- Made by wip/pr.py out of the translation (a turned copy of the kit's print; contracts by hand where said).
import Derived.Test.YtibalpbkmgegnaaGreatDoorPLx0
import Derived.Test.YtibalpbkmgegnaaGreatDoorPLx4
namespace Go.Proofs.YtibalpbkmgegnaaGreatDoor.PL
open Go.RowKit Go.Proofs.YtibalpbkmgegnaaGreatDoorW.PrintWords Go.Proofs.YtibalpbkmgegnaaGreatDoorW.PrintLast Go.Proofs.YtibalpbkmgegnaaGreatDoorW.PrintMore
-- shrunk
attribute [local go_sem] max2_int min2_int max_two min_two max_three min_three max_four min_four   -- for this text's walks alone
set_option linter.unusedVariables false
set_option linter.unusedSimpArgs false
set_option maxHeartbeats 8000000
set_option maxRecDepth 100000

/-! ### pinfoldref1_parts: function 59 -/
def pinfoldref1_parts.l0:Nat→ByteArray→List ByteArray→Int→Int→Option (List ByteArray)
 | 0,_,_,_,_=>none
 | k+1,x0,x3,x4,x5=>if x5≤(x0.size:Int) then (if x5=(x0.size:Int) then (if 0≤x4 then (if x4≤x5 then (if x3.length < 8796093022208 then (pinfoldref1_parts.l0 k x0 (x3 ++ [x0.extract (x4:Int).toNat (x5:Int).toNat]) (wrap64 (x5+1)) (wrap64 (x5+1))) else (none)) else (none)) else (none)) else (if 0≤x5 then (if x5 < (x0.size:Int) then (if (bt x0 x5)=46 then (if 0≤x4 then (if x4≤x5 then (if x3.length < 8796093022208 then (pinfoldref1_parts.l0 k x0 (x3 ++ [x0.extract (x4:Int).toNat (x5:Int).toNat]) (wrap64 (x5+1)) (wrap64 (x5+1))) else (none)) else (none)) else (none)) else (pinfoldref1_parts.l0 k x0 x3 x4 (wrap64 (x5+1)))) else (none)) else (none))) else (some x3)
def pinfoldref1_parts.f (k:Nat) (a0:ByteArray):Option (List ByteArray):=pinfoldref1_parts.l0 k a0 ([]:List ByteArray) 0 0
theorem pinfoldref1_parts.mono_l:∀ k,(∀y0 y1 y2 y3,LeO (pinfoldref1_parts.l0 k y0 y1 y2 y3) (pinfoldref1_parts.l0 (k+1) y0 y1 y2 y3))
 | 0=>fun _ _ _ _ r h=>by simp [pinfoldref1_parts.l0] at h
 | k+1=>by
  have ih0:=pinfoldref1_parts.mono_l k
  ·intro y0 y1 y2 y3
   unfold pinfoldref1_parts.l0
   repeat' first
   | (with_reducible exact ih0 _ _ _ _)
   | (with_reducible exact LeO.refl _)
   | (with_reducible exact LeO.none _)
   | (with_reducible refine LeO.ite ?_ ?_)
   | (with_reducible refine LeO.bind ?_ (fun _=>?_))
   | exact ih0 _ _ _ _
   | exact LeO.none _
   | refine LeO.ite ?_ ?_
   | refine LeO.bind ?_ (fun _=>?_)
theorem pinfoldref1_parts.mono:∀ a0 k,LeO (pinfoldref1_parts.f k a0) (pinfoldref1_parts.f (k+1) a0):=by
 intro a0 k
 have ih0:=pinfoldref1_parts.mono_l k
 unfold pinfoldref1_parts.f
 repeat' first
   | (with_reducible exact ih0 _ _ _ _)
   | (with_reducible exact LeO.refl _)
   | (with_reducible exact LeO.none _)
   | (with_reducible refine LeO.ite ?_ ?_)
   | (with_reducible refine LeO.bind ?_ (fun _=>?_))
   | exact ih0 _ _ _ _
   | exact LeO.none _
   | refine LeO.ite ?_ ?_
   | refine LeO.bind ?_ (fun _=>?_)
theorem pinfoldref1_parts.calls (k:Nat) (a0:ByteArray) (r:List ByteArray) (w:World) (h:pinfoldref1_parts.f k a0=some r) :
  Calls Tryz.prog 59 #[.string a0] w fun e w'=>∃ v0_:Value,e=.returned (v0_)∧Kd.R Kd.string 9 w' w.heap.size (fun _=>True) v0_ r∧Below w.heap.size w w':=by
 have HB:=am_ (Below.refl w.heap.size w)
 have H:(pinfoldref1_parts.l0 k a0 ([]:List ByteArray) 0 0)=some r:=h
 clear h
 have H':=am_ H
 clear H
 go_enter Tryz.func59,Tryz.ntmps59
 go_wp2
 go_loopg [3,4,5] k (fun kq v3 v4 v5 w'=>∃ (x3_1:List ByteArray) (x4_1:Int) (x5_1:Int),v4=.int .i64 x4_1∧v5=.int .i64 x5_1∧Aside0 (pinfoldref1_parts.l0 kq a0 x3_1 x4_1 x5_1=some r)∧Aside0 (kq≤k)∧Aside0 (Kd.R Kd.string 9 w' w.heap.size (fun _=>True) v3 x3_1)∧Aside0 (Below w.heap.size w w'))
 case atStart=>exact ⟨(([]:List ByteArray)),(0),(0),(by first|rfl|(simp;done)|(simp [*];done)),(by first|rfl|(simp;done)|(simp [*];done)),H',⟨Nat.le_refl _⟩,⟨by first|exact Kd.R_nil _ _ _ _ _|exact Kd.N_nil _ _ _ _ _|exact Kd.V_nil _ _ _ _ _|exact Kd.Q_nil _ _ _ _ _|exact Kd.S_nil _ _ _ _ _⟩,⟨by repeat (with_reducible first|exact HB.out|apply p3_|apply p1_|apply p2_)⟩⟩
 case round =>
  clear H'
  obtain ⟨x3_1,x4_1,x5_1,rfl,rfl,HA,HK1,HO_3,HB⟩:=hrel
  cases gk with
  | zero=>exact absurd HA.out (by simp [pinfoldref1_parts.l0])
  | succ k1 =>
   have H:=HA.out
   clear HA
   simp only [pinfoldref1_parts.l0] at H
   by_cases c2:x5_1≤(a0.size:Int)
   ·rw [if_pos c2] at H
    have c2b0:decide (x5_1≤(a0.size:Int))=true:=decide_eq_true c2
    clear c2
    by_cases c3:x5_1=(a0.size:Int)
    ·rw [if_pos c3] at H
     have c3b0:(x5_1 == (a0.size:Int))=true:=beq_iff_eq.mpr c3
     have c3b1:(x5_1 != (a0.size:Int))=false:=e1_ c3
     clear c3
     by_cases c4:0≤x4_1
     rotate_left
     ·rw [if_neg c4] at H
      exact absurd H (by simp)
     rw [if_pos c4] at H
     have c4b0:=eq_true c4
     have c4b1:decide (0≤x4_1)=true:=decide_eq_true c4
     clear c4
     by_cases c5:x4_1≤x5_1
     rotate_left
     ·rw [if_neg c5] at H
      exact absurd H (by simp)
     rw [if_pos c5] at H
     have c5b0:=eq_true c5
     have c5b1:decide (x4_1≤x5_1)=true:=decide_eq_true c5
     clear c5
     have c6b0:=eq_true (of_decide_eq_true (by first|(with_reducible assumption)|assumption):x5_1≤(a0.size:Int))
     by_cases c7:x3_1.length < 8796093022208
     rotate_left
     ·rw [if_neg c7] at H
      exact absurd H (by simp)
     rw [if_pos c7] at H
     have LMc7:=am_ c7
     clear c7
     obtain ⟨y154,hy154⟩:∃ y_:List ByteArray,y_=(x3_1 ++ [a0.extract (x4_1:Int).toNat (x5_1:Int).toNat]):=⟨_,rfl⟩
     replace H:(pinfoldref1_parts.l0 k1 a0 y154 (wrap64 (x5_1+1)) (wrap64 (x5_1+1)))=some r:=by first|(rw [hy154];with_reducible exact H)|(have H2_:=(Option.bind_some _ _).symm.trans H;rw [hy154];with_reducible exact H2_)|(have H2_:=(Option.bind_some _ _).symm.trans H;with_reducible exact H2_)|with_reducible exact H|(rw [hy154];exact H)|exact H
     have Ny154:=am_ hy154
     clear hy154
     have H':=am_ H
     clear H
     go_wp2_with (first|((with_reducible refine gate_builtin (b:=.append) (xs:=#[.tmp 22,.tmp 27]) rfl ?_);at_builtin;refine Kd.R_append Kd.string (w0:=w) w.heap.size rfl (.tmp 22) (.tmp 27) 88 9 (.string ⟨#[]⟩) 16 rfl Tryz.underlying88 info9 rfl (by decide) (by omega) u3 x3_1 (a0.extract (x4_1:Int).toNat (x5_1:Int).toNat) [.string (a0.extract (x4_1:Int).toNat (x5_1:Int).toNat)] (fun _=>True) (fun _=>False) rfl rfl ?aP (fun _ hk=>hk.elim) ?aF ?aO ?aB ?aS ?aL ?_;(case aP=>exact rfl);(case aB=>exact (by repeat (with_reducible first|exact HB.out|apply p3_|apply p1_|apply p2_)));(case aF=>exact (fun _ _=>trivial));(case aO=>exact (by (with_reducible repeat (first|apply r1_|apply r2_|apply r3_));exact HO_3.out));(case aS=>exact (bz_ (by repeat (with_reducible first|exact HB.out|apply p3_|apply p1_|apply p2_))));(case aL=>have:=LMc7.out;omega);intro v155 w8 ho hb hg hat;rw [←Ny154.out] at ho;have n0_:=am_ (hb);have n1_:=am_ (ho);clear HB;clear HO_3;have HB:=n0_;have HO156:=n1_;clear n0_ n1_;clear ho hb hg hat))
     go_roundg k1
     case measure=>have:=HK1.out;omega
     case rel=>exact ⟨(y154),(wrap64 (x5_1+1)),(wrap64 (x5_1+1)),(by first|rfl|(simp;done)|(simp [*];done)),(by first|rfl|(simp;done)|(simp [*];done)),H',⟨by have:=HK1.out;omega⟩,⟨by (with_reducible repeat (first|apply r1_|apply r2_|apply r3_));exact HO156.out⟩,⟨by repeat (with_reducible first|exact HB.out|apply p3_|apply p1_|apply p2_)⟩⟩
    rw [if_neg c3] at H
    have c3b0:(x5_1 == (a0.size:Int))=false:=e2_ c3
    have c3b1:(x5_1 != (a0.size:Int))=true:=bne_iff_ne.mpr c3
    by_cases c9:0≤x5_1
    rotate_left
    ·rw [if_neg c9] at H
     exact absurd H (by simp)
    rw [if_pos c9] at H
    have c9b0:decide (0≤x5_1)=true:=decide_eq_true c9
    clear c9
    by_cases c10:x5_1 < (a0.size:Int)
    rotate_left
    ·rw [if_neg c10] at H
     exact absurd H (by simp)
    rw [if_pos c10] at H
    have c10b0:decide (x5_1 < (a0.size:Int))=true:=decide_eq_true c10
    clear c10
    by_cases c12:(bt a0 x5_1)=46
    ·rw [if_pos c12] at H
     have c12b0:((bt a0 x5_1) == 46)=true:=beq_iff_eq.mpr c12
     have c12b1:((bt a0 x5_1) != 46)=false:=e1_ c12
     clear c12
     by_cases c13:0≤x4_1
     rotate_left
     ·rw [if_neg c13] at H
      exact absurd H (by simp)
     rw [if_pos c13] at H
     have c13b0:=eq_true c13
     have c13b1:decide (0≤x4_1)=true:=decide_eq_true c13
     clear c13
     by_cases c14:x4_1≤x5_1
     rotate_left
     ·rw [if_neg c14] at H
      exact absurd H (by simp)
     rw [if_pos c14] at H
     have c14b0:=eq_true c14
     have c14b1:decide (x4_1≤x5_1)=true:=decide_eq_true c14
     clear c14
     have c15b0:=eq_true (of_decide_eq_true (by first|(with_reducible assumption)|assumption):x5_1≤(a0.size:Int))
     by_cases c16:x3_1.length < 8796093022208
     rotate_left
     ·rw [if_neg c16] at H
      exact absurd H (by simp)
     rw [if_pos c16] at H
     have LMc16:=am_ c16
     clear c16
     obtain ⟨y157,hy157⟩:∃ y_:List ByteArray,y_=(x3_1 ++ [a0.extract (x4_1:Int).toNat (x5_1:Int).toNat]):=⟨_,rfl⟩
     replace H:(pinfoldref1_parts.l0 k1 a0 y157 (wrap64 (x5_1+1)) (wrap64 (x5_1+1)))=some r:=by first|(rw [hy157];with_reducible exact H)|(have H2_:=(Option.bind_some _ _).symm.trans H;rw [hy157];with_reducible exact H2_)|(have H2_:=(Option.bind_some _ _).symm.trans H;with_reducible exact H2_)|with_reducible exact H|(rw [hy157];exact H)|exact H
     have Ny157:=am_ hy157
     clear hy157
     have H':=am_ H
     clear H
     have p11:0≤(x5_1:Int):=of_decide_eq_true (by first|(with_reducible assumption)|assumption)
     have q11:x5_1 < (a0.size:Int):=of_decide_eq_true (by first|(with_reducible assumption)|assumption)
     have hx11:=bt_at a0 x5_1
     replace p11:=eq_true p11
     replace q11:=eq_true q11
     go_wp2_with (first|((with_reducible refine gate_builtin (b:=.append) (xs:=#[.tmp 22,.tmp 27]) rfl ?_);at_builtin;refine Kd.R_append Kd.string (w0:=w) w.heap.size rfl (.tmp 22) (.tmp 27) 88 9 (.string ⟨#[]⟩) 16 rfl Tryz.underlying88 info9 rfl (by decide) (by omega) u3 x3_1 (a0.extract (x4_1:Int).toNat (x5_1:Int).toNat) [.string (a0.extract (x4_1:Int).toNat (x5_1:Int).toNat)] (fun _=>True) (fun _=>False) rfl rfl ?aP (fun _ hk=>hk.elim) ?aF ?aO ?aB ?aS ?aL ?_;(case aP=>exact rfl);(case aB=>exact (by repeat (with_reducible first|exact HB.out|apply p3_|apply p1_|apply p2_)));(case aF=>exact (fun _ _=>trivial));(case aO=>exact (by (with_reducible repeat (first|apply r1_|apply r2_|apply r3_));exact HO_3.out));(case aS=>exact (bz_ (by repeat (with_reducible first|exact HB.out|apply p3_|apply p1_|apply p2_))));(case aL=>have:=LMc16.out;omega);intro v158 w17 ho hb hg hat;rw [←Ny157.out] at ho;have n0_:=am_ (hb);have n1_:=am_ (ho);clear HB;clear HO_3;have HB:=n0_;have HO159:=n1_;clear n0_ n1_;clear ho hb hg hat))
     go_roundg k1
     case measure=>have:=HK1.out;omega
     case rel=>exact ⟨(y157),(wrap64 (x5_1+1)),(wrap64 (x5_1+1)),(by first|rfl|(simp;done)|(simp [*];done)),(by first|rfl|(simp;done)|(simp [*];done)),H',⟨by have:=HK1.out;omega⟩,⟨by (with_reducible repeat (first|apply r1_|apply r2_|apply r3_));exact HO159.out⟩,⟨by repeat (with_reducible first|exact HB.out|apply p3_|apply p1_|apply p2_)⟩⟩
    rw [if_neg c12] at H
    have c12b0:((bt a0 x5_1) == 46)=false:=e2_ c12
    have c12b1:((bt a0 x5_1) != 46)=true:=bne_iff_ne.mpr c12
    have H':=am_ H
    clear H
    have p11:0≤(x5_1:Int):=of_decide_eq_true (by first|(with_reducible assumption)|assumption)
    have q11:x5_1 < (a0.size:Int):=of_decide_eq_true (by first|(with_reducible assumption)|assumption)
    have hx11:=bt_at a0 x5_1
    replace p11:=eq_true p11
    replace q11:=eq_true q11
    go_wp2
    go_roundg k1
    case measure=>have:=HK1.out;omega
    case rel=>exact ⟨(x3_1),(x4_1),(wrap64 (x5_1+1)),(by first|rfl|(simp;done)|(simp [*];done)),(by first|rfl|(simp;done)|(simp [*];done)),H',⟨by have:=HK1.out;omega⟩,⟨by (with_reducible repeat (first|apply r1_|apply r2_|apply r3_));exact HO_3.out⟩,⟨by repeat (with_reducible first|exact HB.out|apply p3_|apply p1_|apply p2_)⟩⟩
   rw [if_neg c2] at H
   have c2b0:decide (x5_1≤(a0.size:Int))=false:=decide_eq_false c2
   clear c2
   obtain rfl:=e5_ H
   go_wp2
   go_ret
   exact ⟨_,by first|rfl|(simp [errW_none,errW_some]<;>rfl)|(simp [*,errW_none,errW_some]<;>rfl),by (with_reducible repeat (first|apply r1_|apply r2_|apply r3_));exact HO_3.out,by repeat (with_reducible first|exact HB.out|apply p3_|apply p1_|apply p2_)⟩

/-! ### pinfoldref1_labelMay: function 60 -/
def pinfoldref1_labelMay.l0:Nat→ByteArray→Int→Option (Bool)
 | 0,_,_=>none
 | k+1,x0,x3=>if x3 < (x0.size:Int) then (if 0≤x3 then (if (bt x0 x3) < 97 then (if (bt x0 x3) < 48 then (if (bt x0 x3)=45 then (pinfoldref1_labelMay.l0 k x0 (wrap64 (x3+1))) else (some false)) else (if (bt x0 x3) > 57 then (if (bt x0 x3)=45 then (pinfoldref1_labelMay.l0 k x0 (wrap64 (x3+1))) else (some false)) else (pinfoldref1_labelMay.l0 k x0 (wrap64 (x3+1))))) else (if (bt x0 x3) > 122 then (if (bt x0 x3) < 48 then (if (bt x0 x3)=45 then (pinfoldref1_labelMay.l0 k x0 (wrap64 (x3+1))) else (some false)) else (if (bt x0 x3) > 57 then (if (bt x0 x3)=45 then (pinfoldref1_labelMay.l0 k x0 (wrap64 (x3+1))) else (some false)) else (pinfoldref1_labelMay.l0 k x0 (wrap64 (x3+1))))) else (pinfoldref1_labelMay.l0 k x0 (wrap64 (x3+1))))) else (none)) else (if (x0.size:Int) ≥ 1 then (some (decide ((x0.size:Int)≤8))) else (some false))
def pinfoldref1_labelMay.f (k:Nat) (a0:ByteArray):Option (Bool):=pinfoldref1_labelMay.l0 k a0 0
theorem pinfoldref1_labelMay.mono_l:∀ k,(∀y0 y1,LeO (pinfoldref1_labelMay.l0 k y0 y1) (pinfoldref1_labelMay.l0 (k+1) y0 y1))
 | 0=>fun _ _ r h=>by simp [pinfoldref1_labelMay.l0] at h
 | k+1=>by
  have ih0:=pinfoldref1_labelMay.mono_l k
  ·intro y0 y1
   unfold pinfoldref1_labelMay.l0
   repeat' first
   | (with_reducible exact ih0 _ _)
   | (with_reducible exact LeO.refl _)
   | (with_reducible exact LeO.none _)
   | (with_reducible refine LeO.ite ?_ ?_)
   | (with_reducible refine LeO.bind ?_ (fun _=>?_))
   | exact ih0 _ _
   | exact LeO.none _
   | refine LeO.ite ?_ ?_
   | refine LeO.bind ?_ (fun _=>?_)
theorem pinfoldref1_labelMay.mono:∀ a0 k,LeO (pinfoldref1_labelMay.f k a0) (pinfoldref1_labelMay.f (k+1) a0):=by
 intro a0 k
 have ih0:=pinfoldref1_labelMay.mono_l k
 unfold pinfoldref1_labelMay.f
 repeat' first
   | (with_reducible exact ih0 _ _)
   | (with_reducible exact LeO.refl _)
   | (with_reducible exact LeO.none _)
   | (with_reducible refine LeO.ite ?_ ?_)
   | (with_reducible refine LeO.bind ?_ (fun _=>?_))
   | exact ih0 _ _
   | exact LeO.none _
   | refine LeO.ite ?_ ?_
   | refine LeO.bind ?_ (fun _=>?_)
theorem pinfoldref1_labelMay.calls (k:Nat) (a0:ByteArray) (r:Bool) (w:World) (h:pinfoldref1_labelMay.f k a0=some r) :
  Calls Tryz.prog 60 #[.string a0] w fun e w'=>e=.returned (.bool r)∧Drawn0 w w':=by
 have H:(pinfoldref1_labelMay.l0 k a0 0)=some r:=h
 clear h
 have H':=am_ H
 clear H
 go_enter Tryz.func60,Tryz.ntmps60
 go_wp2
 go_loopg [3] k (fun kq v3 w'=>∃ (x3_1:Int),v3=.int .i64 x3_1∧Aside0 (pinfoldref1_labelMay.l0 kq a0 x3_1=some r)∧Aside0 (kq≤k)∧Drawn0 w w')
 case atStart=>exact ⟨(0),(by first|rfl|(simp;done)|(simp [*];done)),H',⟨Nat.le_refl _⟩,by repeat (first|exact Drawn0.refl _|apply Drawn0.step)⟩
 case round =>
  clear H'
  obtain ⟨x3_1,rfl,HA,HK1,⟨m1,rfl⟩⟩:=hrel
  cases gk with
  | zero=>exact absurd HA.out (by simp [pinfoldref1_labelMay.l0])
  | succ k1 =>
   have H:=HA.out
   clear HA
   simp only [pinfoldref1_labelMay.l0] at H
   by_cases c2:x3_1 < (a0.size:Int)
   ·rw [if_pos c2] at H
    have c2b0:decide (x3_1 < (a0.size:Int))=true:=decide_eq_true c2
    clear c2
    by_cases c3:0≤x3_1
    rotate_left
    ·rw [if_neg c3] at H
     exact absurd H (by simp)
    rw [if_pos c3] at H
    have c3b0:decide (0≤x3_1)=true:=decide_eq_true c3
    clear c3
    by_cases c5:(bt a0 x3_1) < 97
    ·rw [if_pos c5] at H
     have c5b0:decide ((bt a0 x3_1) < 97)=true:=decide_eq_true c5
     clear c5
     by_cases c6:(bt a0 x3_1) < 48
     ·rw [if_pos c6] at H
      have c6b0:decide ((bt a0 x3_1) < 48)=true:=decide_eq_true c6
      clear c6
      by_cases c7:(bt a0 x3_1)=45
      ·rw [if_pos c7] at H
       have c7b0:((bt a0 x3_1) == 45)=true:=beq_iff_eq.mpr c7
       have c7b1:((bt a0 x3_1) != 45)=false:=e1_ c7
       clear c7
       have H':=am_ H
       clear H
       have p4:0≤(x3_1:Int):=of_decide_eq_true (by first|(with_reducible assumption)|assumption)
       have q4:x3_1 < (a0.size:Int):=of_decide_eq_true (by first|(with_reducible assumption)|assumption)
       have hx4:=bt_at a0 x3_1
       replace p4:=eq_true p4
       replace q4:=eq_true q4
       go_wp2
       go_roundg k1
       case measure=>have:=HK1.out;omega
       case rel=>exact ⟨(wrap64 (x3_1+1)),(by first|rfl|(simp;done)|(simp [*];done)),H',⟨by have:=HK1.out;omega⟩,by repeat (first|exact Drawn0.refl _|apply Drawn0.step)⟩
      rw [if_neg c7] at H
      have c7b0:((bt a0 x3_1) == 45)=false:=e2_ c7
      have c7b1:((bt a0 x3_1) != 45)=true:=bne_iff_ne.mpr c7
      obtain rfl:=e5_ H
      have p4:0≤(x3_1:Int):=of_decide_eq_true (by first|(with_reducible assumption)|assumption)
      have q4:x3_1 < (a0.size:Int):=of_decide_eq_true (by first|(with_reducible assumption)|assumption)
      have hx4:=bt_at a0 x3_1
      replace p4:=eq_true p4
      replace q4:=eq_true q4
      go_wp2
      go_ret
      exact ⟨by first|rfl|(simp;done)|(simp [*];done),by repeat (first|exact Drawn0.refl _|apply Drawn0.step)⟩
     rw [if_neg c6] at H
     have c6b0:decide ((bt a0 x3_1) < 48)=false:=decide_eq_false c6
     clear c6
     by_cases c8:(bt a0 x3_1) > 57
     ·rw [if_pos c8] at H
      have c8b0:decide (57 < (bt a0 x3_1))=true:=decide_eq_true c8
      clear c8
      by_cases c9:(bt a0 x3_1)=45
      ·rw [if_pos c9] at H
       have c9b0:((bt a0 x3_1) == 45)=true:=beq_iff_eq.mpr c9
       have c9b1:((bt a0 x3_1) != 45)=false:=e1_ c9
       clear c9
       have H':=am_ H
       clear H
       have p4:0≤(x3_1:Int):=of_decide_eq_true (by first|(with_reducible assumption)|assumption)
       have q4:x3_1 < (a0.size:Int):=of_decide_eq_true (by first|(with_reducible assumption)|assumption)
       have hx4:=bt_at a0 x3_1
       replace p4:=eq_true p4
       replace q4:=eq_true q4
       go_wp2
       go_roundg k1
       case measure=>have:=HK1.out;omega
       case rel=>exact ⟨(wrap64 (x3_1+1)),(by first|rfl|(simp;done)|(simp [*];done)),H',⟨by have:=HK1.out;omega⟩,by repeat (first|exact Drawn0.refl _|apply Drawn0.step)⟩
      rw [if_neg c9] at H
      have c9b0:((bt a0 x3_1) == 45)=false:=e2_ c9
      have c9b1:((bt a0 x3_1) != 45)=true:=bne_iff_ne.mpr c9
      obtain rfl:=e5_ H
      have p4:0≤(x3_1:Int):=of_decide_eq_true (by first|(with_reducible assumption)|assumption)
      have q4:x3_1 < (a0.size:Int):=of_decide_eq_true (by first|(with_reducible assumption)|assumption)
      have hx4:=bt_at a0 x3_1
      replace p4:=eq_true p4
      replace q4:=eq_true q4
      go_wp2
      go_ret
      exact ⟨by first|rfl|(simp;done)|(simp [*];done),by repeat (first|exact Drawn0.refl _|apply Drawn0.step)⟩
     rw [if_neg c8] at H
     have c8b0:decide (57 < (bt a0 x3_1))=false:=decide_eq_false c8
     clear c8
     have H':=am_ H
     clear H
     have p4:0≤(x3_1:Int):=of_decide_eq_true (by first|(with_reducible assumption)|assumption)
     have q4:x3_1 < (a0.size:Int):=of_decide_eq_true (by first|(with_reducible assumption)|assumption)
     have hx4:=bt_at a0 x3_1
     replace p4:=eq_true p4
     replace q4:=eq_true q4
     go_wp2
     go_roundg k1
     case measure=>have:=HK1.out;omega
     case rel=>exact ⟨(wrap64 (x3_1+1)),(by first|rfl|(simp;done)|(simp [*];done)),H',⟨by have:=HK1.out;omega⟩,by repeat (first|exact Drawn0.refl _|apply Drawn0.step)⟩
    rw [if_neg c5] at H
    have c5b0:decide ((bt a0 x3_1) < 97)=false:=decide_eq_false c5
    clear c5
    by_cases c10:(bt a0 x3_1) > 122
    ·rw [if_pos c10] at H
     have c10b0:decide (122 < (bt a0 x3_1))=true:=decide_eq_true c10
     clear c10
     by_cases c11:(bt a0 x3_1) < 48
     ·rw [if_pos c11] at H
      have c11b0:decide ((bt a0 x3_1) < 48)=true:=decide_eq_true c11
      clear c11
      by_cases c12:(bt a0 x3_1)=45
      ·rw [if_pos c12] at H
       have c12b0:((bt a0 x3_1) == 45)=true:=beq_iff_eq.mpr c12
       have c12b1:((bt a0 x3_1) != 45)=false:=e1_ c12
       clear c12
       have H':=am_ H
       clear H
       have p4:0≤(x3_1:Int):=of_decide_eq_true (by first|(with_reducible assumption)|assumption)
       have q4:x3_1 < (a0.size:Int):=of_decide_eq_true (by first|(with_reducible assumption)|assumption)
       have hx4:=bt_at a0 x3_1
       replace p4:=eq_true p4
       replace q4:=eq_true q4
       go_wp2
       go_roundg k1
       case measure=>have:=HK1.out;omega
       case rel=>exact ⟨(wrap64 (x3_1+1)),(by first|rfl|(simp;done)|(simp [*];done)),H',⟨by have:=HK1.out;omega⟩,by repeat (first|exact Drawn0.refl _|apply Drawn0.step)⟩
      rw [if_neg c12] at H
      have c12b0:((bt a0 x3_1) == 45)=false:=e2_ c12
      have c12b1:((bt a0 x3_1) != 45)=true:=bne_iff_ne.mpr c12
      obtain rfl:=e5_ H
      have p4:0≤(x3_1:Int):=of_decide_eq_true (by first|(with_reducible assumption)|assumption)
      have q4:x3_1 < (a0.size:Int):=of_decide_eq_true (by first|(with_reducible assumption)|assumption)
      have hx4:=bt_at a0 x3_1
      replace p4:=eq_true p4
      replace q4:=eq_true q4
      go_wp2
      go_ret
      exact ⟨by first|rfl|(simp;done)|(simp [*];done),by repeat (first|exact Drawn0.refl _|apply Drawn0.step)⟩
     rw [if_neg c11] at H
     have c11b0:decide ((bt a0 x3_1) < 48)=false:=decide_eq_false c11
     clear c11
     by_cases c13:(bt a0 x3_1) > 57
     ·rw [if_pos c13] at H
      have c13b0:decide (57 < (bt a0 x3_1))=true:=decide_eq_true c13
      clear c13
      by_cases c14:(bt a0 x3_1)=45
      ·rw [if_pos c14] at H
       have c14b0:((bt a0 x3_1) == 45)=true:=beq_iff_eq.mpr c14
       have c14b1:((bt a0 x3_1) != 45)=false:=e1_ c14
       clear c14
       have H':=am_ H
       clear H
       have p4:0≤(x3_1:Int):=of_decide_eq_true (by first|(with_reducible assumption)|assumption)
       have q4:x3_1 < (a0.size:Int):=of_decide_eq_true (by first|(with_reducible assumption)|assumption)
       have hx4:=bt_at a0 x3_1
       replace p4:=eq_true p4
       replace q4:=eq_true q4
       go_wp2
       go_roundg k1
       case measure=>have:=HK1.out;omega
       case rel=>exact ⟨(wrap64 (x3_1+1)),(by first|rfl|(simp;done)|(simp [*];done)),H',⟨by have:=HK1.out;omega⟩,by repeat (first|exact Drawn0.refl _|apply Drawn0.step)⟩
      rw [if_neg c14] at H
      have c14b0:((bt a0 x3_1) == 45)=false:=e2_ c14
      have c14b1:((bt a0 x3_1) != 45)=true:=bne_iff_ne.mpr c14
      obtain rfl:=e5_ H
      have p4:0≤(x3_1:Int):=of_decide_eq_true (by first|(with_reducible assumption)|assumption)
      have q4:x3_1 < (a0.size:Int):=of_decide_eq_true (by first|(with_reducible assumption)|assumption)
      have hx4:=bt_at a0 x3_1
      replace p4:=eq_true p4
      replace q4:=eq_true q4
      go_wp2
      go_ret
      exact ⟨by first|rfl|(simp;done)|(simp [*];done),by repeat (first|exact Drawn0.refl _|apply Drawn0.step)⟩
     rw [if_neg c13] at H
     have c13b0:decide (57 < (bt a0 x3_1))=false:=decide_eq_false c13
     clear c13
     have H':=am_ H
     clear H
     have p4:0≤(x3_1:Int):=of_decide_eq_true (by first|(with_reducible assumption)|assumption)
     have q4:x3_1 < (a0.size:Int):=of_decide_eq_true (by first|(with_reducible assumption)|assumption)
     have hx4:=bt_at a0 x3_1
     replace p4:=eq_true p4
     replace q4:=eq_true q4
     go_wp2
     go_roundg k1
     case measure=>have:=HK1.out;omega
     case rel=>exact ⟨(wrap64 (x3_1+1)),(by first|rfl|(simp;done)|(simp [*];done)),H',⟨by have:=HK1.out;omega⟩,by repeat (first|exact Drawn0.refl _|apply Drawn0.step)⟩
    rw [if_neg c10] at H
    have c10b0:decide (122 < (bt a0 x3_1))=false:=decide_eq_false c10
    clear c10
    have H':=am_ H
    clear H
    have p4:0≤(x3_1:Int):=of_decide_eq_true (by first|(with_reducible assumption)|assumption)
    have q4:x3_1 < (a0.size:Int):=of_decide_eq_true (by first|(with_reducible assumption)|assumption)
    have hx4:=bt_at a0 x3_1
    replace p4:=eq_true p4
    replace q4:=eq_true q4
    go_wp2
    go_roundg k1
    case measure=>have:=HK1.out;omega
    case rel=>exact ⟨(wrap64 (x3_1+1)),(by first|rfl|(simp;done)|(simp [*];done)),H',⟨by have:=HK1.out;omega⟩,by repeat (first|exact Drawn0.refl _|apply Drawn0.step)⟩
   rw [if_neg c2] at H
   have c2b0:decide (x3_1 < (a0.size:Int))=false:=decide_eq_false c2
   clear c2
   by_cases c15:(a0.size:Int) ≥ 1
   ·rw [if_pos c15] at H
    have c15b0:decide (1≤(a0.size:Int))=true:=decide_eq_true c15
    have c15b1:decide (1≤a0.size)=true:=decide_eq_true (by omega)
    clear c15
    obtain rfl:=e5_ H
    go_wp2
    go_ret
    exact ⟨by first|rfl|(simp;done)|(simp [*];done),by repeat (first|exact Drawn0.refl _|apply Drawn0.step)⟩
   rw [if_neg c15] at H
   have c15b0:decide (1≤(a0.size:Int))=false:=decide_eq_false c15
   have c15b1:decide (1≤a0.size)=false:=decide_eq_false (by omega)
   clear c15
   obtain rfl:=e5_ H
   go_wp2
   go_ret
   exact ⟨by first|rfl|(simp;done)|(simp [*];done),by repeat (first|exact Drawn0.refl _|apply Drawn0.step)⟩

/-! ### pinfoldref1_NameMay: function 28 -/
def pinfoldref1_NameMay.l0:Nat→List ByteArray→Int→Option (Bool)
 | 0,_,_=>none
 | k+1,x3,x4=>if x4 < (x3.length:Int) then (if 0≤x4 then ((pinfoldref1_labelMay.f k (rdOf ByteArray.empty x3 x4)).bind fun t164=>(if t164=true then (pinfoldref1_NameMay.l0 k x3 (wrap64 (x4+1))) else (some false))) else (none)) else (some (decide ((x3.length:Int)≤8)))
def pinfoldref1_NameMay.f (k:Nat) (a0:ByteArray):Option (Bool):=if a0.toList=([]:List UInt8) then (some true) else ((pinfoldref1_parts.f k a0).bind fun t160=>(pinfoldref1_NameMay.l0 k t160 0))
theorem pinfoldref1_NameMay.mono_l:∀ k,(∀y0 y1,LeO (pinfoldref1_NameMay.l0 k y0 y1) (pinfoldref1_NameMay.l0 (k+1) y0 y1))
 | 0=>fun _ _ r h=>by simp [pinfoldref1_NameMay.l0] at h
 | k+1=>by
  have ih0:=pinfoldref1_NameMay.mono_l k
  ·intro y0 y1
   unfold pinfoldref1_NameMay.l0
   repeat' first
   | (with_reducible exact ih0 _ _)
   | (with_reducible exact pinfoldref1_labelMay.mono _ _)
   | (with_reducible exact pinfoldref1_parts.mono _ _)
   | (with_reducible exact LeO.refl _)
   | (with_reducible exact LeO.none _)
   | (with_reducible refine LeO.ite ?_ ?_)
   | (with_reducible refine LeO.bind ?_ (fun _=>?_))
   | exact ih0 _ _
   | exact pinfoldref1_labelMay.mono _ _
   | exact pinfoldref1_parts.mono _ _
   | exact LeO.none _
   | refine LeO.ite ?_ ?_
   | refine LeO.bind ?_ (fun _=>?_)
theorem pinfoldref1_NameMay.mono:∀ a0 k,LeO (pinfoldref1_NameMay.f k a0) (pinfoldref1_NameMay.f (k+1) a0):=by
 intro a0 k
 have ih0:=pinfoldref1_NameMay.mono_l k
 unfold pinfoldref1_NameMay.f
 repeat' first
   | (with_reducible exact ih0 _ _)
   | (with_reducible exact pinfoldref1_labelMay.mono _ _)
   | (with_reducible exact pinfoldref1_parts.mono _ _)
   | (with_reducible exact LeO.refl _)
   | (with_reducible exact LeO.none _)
   | (with_reducible refine LeO.ite ?_ ?_)
   | (with_reducible refine LeO.bind ?_ (fun _=>?_))
   | exact ih0 _ _
   | exact pinfoldref1_labelMay.mono _ _
   | exact pinfoldref1_parts.mono _ _
   | exact LeO.none _
   | refine LeO.ite ?_ ?_
   | refine LeO.bind ?_ (fun _=>?_)
theorem pinfoldref1_NameMay.calls (k:Nat) (a0:ByteArray) (r:Bool) (w:World) (h:pinfoldref1_NameMay.f k a0=some r) :
  Calls Tryz.prog 28 #[.string a0] w fun e w'=>e=.returned (.bool r)∧Below w.heap.size w w':=by
 have HB:=am_ (Below.refl w.heap.size w)
 have H:(if a0.toList=([]:List UInt8) then (some true) else ((pinfoldref1_parts.f k a0).bind fun t160=>(pinfoldref1_NameMay.l0 k t160 0)))=some r:=h
 clear h
 by_cases c2:a0.toList=([]:List UInt8)
 ·rw [if_pos c2] at H
  have c2b0:(a0.toList == ([]:List UInt8))=true:=beq_iff_eq.mpr c2
  have c2b1:(a0.toList != ([]:List UInt8))=false:=e1_ c2
  clear c2
  obtain rfl:=e5_ H
  go_enter Tryz.func28,Tryz.ntmps28
  go_wp2
  go_ret
  exact ⟨by first|rfl|(simp [errW_none,errW_some]<;>rfl)|(simp [*,errW_none,errW_some]<;>rfl)|(simp only [str_ne_];rfl)|(simp only [str_eq_];rfl),by repeat (with_reducible first|exact HB.out|apply p3_|apply p1_|apply p2_)⟩
 rw [if_neg c2] at H
 have c2b0:(a0.toList == ([]:List UInt8))=false:=e2_ c2
 have c2b1:(a0.toList != ([]:List UInt8))=true:=bne_iff_ne.mpr c2
 replace H:=e4_ H
 obtain ⟨t160,A30,H⟩:=H
 replace H:(pinfoldref1_NameMay.l0 k t160 0)=some r:=H
 have A3:=am_ A30
 clear A30
 have H':=am_ H
 clear H
 go_enter Tryz.func28,Tryz.ntmps28
 go_wp2_with (first|((with_reducible refine gate_callee (f:=59) rfl ?_);refine goesL_ (some 8) rfl rfl Tryz.func59 (by kernel_rfl) rfl #[.string a0] rfl (by (try simp only [List.map_toArray,List.map_cons,List.map_nil]);first|done|rfl|(simp only [List.length_drop,List.length_take];rfl)) ?_;(with_reducible refine (pinfoldref1_parts.calls k a0 t160 _ A3.out).mono ?_);rintro e w4 ⟨v161,rfl,ho0,hb⟩;refine ⟨_,rfl,?_⟩;have n0_:=am_ (Kd.R_lower ho0 (bz_ (by repeat (with_reducible first|exact HB.out|apply p3_|apply p1_|apply p2_))));have n1_:=am_ (bt_ (by repeat (with_reducible first|exact HB.out|apply p3_|apply p1_|apply p2_)) hb);clear HB;have HO162:=n0_;have HB:=n1_;clear n0_ n1_;(try clear hb);(try clear ho0)))
 go_loopg [4] k (fun kq v4 w'=>∃ (x4_1:Int),v4=.int .i64 x4_1∧Aside0 (pinfoldref1_NameMay.l0 kq t160 x4_1=some r)∧Aside0 (kq≤k)∧Aside0 (Kd.R Kd.string 9 w' w.heap.size (fun _=>True) v161 t160)∧Aside0 (Below w.heap.size w w'))
 case atStart=>exact ⟨(0),(by first|rfl|(simp;done)|(simp [*];done)|(simp only [str_ne_];rfl)|(simp only [str_eq_];rfl)),H',⟨Nat.le_refl _⟩,⟨by (with_reducible repeat (first|apply r1_|apply r2_|apply r3_));exact HO162.out⟩,⟨by repeat (with_reducible first|exact HB.out|apply p3_|apply p1_|apply p2_)⟩⟩
 case round =>
  clear H'
  (try clear c2);(try clear c2b0);(try clear c2b1)
  obtain ⟨x4_1,rfl,HA,HK1,HO_3,HB⟩:=hrel
  cases gk with
  | zero=>exact absurd HA.out (by simp [pinfoldref1_NameMay.l0])
  | succ k1 =>
   have H:=HA.out
   clear HA
   simp only [pinfoldref1_NameMay.l0] at H
   by_cases c5:x4_1 < (t160.length:Int)
   ·rw [if_pos c5] at H
    have c5b0:decide (x4_1 < (t160.length:Int))=true:=decide_eq_true c5
    clear c5
    by_cases c6:0≤x4_1
    rotate_left
    ·rw [if_neg c6] at H
     exact absurd H (by simp)
    rw [if_pos c6] at H
    have c6b0:decide (0≤x4_1)=true:=decide_eq_true c6
    clear c6
    replace H:=e4_ H
    obtain ⟨t164,A70,H⟩:=H
    replace H:(if t164=true then (pinfoldref1_NameMay.l0 k1 t160 (wrap64 (x4_1+1))) else (some false))=some r:=H
    have A7:=am_ A70
    clear A70
    by_cases c8:t164=true
    ·subst c8
     have H1:(pinfoldref1_NameMay.l0 k1 t160 (wrap64 (x4_1+1)))=some r:=by rw [if_pos rfl] at H;exact H
     clear H
     have H:=H1
     clear H1
     have H':=am_ H
     clear H
     obtain ⟨Ao9,co9,eo9⟩:=Kd.R_slice HO_3.out
     subst eo9
     have p163:0≤(x4_1:Int):=of_decide_eq_true (by first|(with_reducible assumption)|assumption)
     have q163:x4_1 < (t160.length:Int):=of_decide_eq_true (by first|(with_reducible assumption)|assumption)
     obtain ⟨ad163,e163,hx163_0⟩:=Kd.at_string (Kd.R_reads' HO_3.out).2.2 x4_1 p163 q163
     cases e163
     replace p163:=eq_true p163
     replace q163:=eq_true q163
     go_wp2_with (first|((with_reducible refine gate_callee (f:=60) rfl ?_);refine goesL_ (some 19) rfl rfl Tryz.func60 (by kernel_rfl) rfl #[.string (rdOf ByteArray.empty t160 x4_1)] rfl (by (try simp only [List.map_toArray,List.map_cons,List.map_nil]);first|done|rfl|(simp only [List.length_drop,List.length_take];rfl)) ?_;(with_reducible refine (pinfoldref1_labelMay.calls k1 (rdOf ByteArray.empty t160 x4_1) true _ A7.out).mono ?_);rintro e w' ⟨rfl,⟨nd,rfl⟩⟩;refine ⟨_,rfl,?_⟩))
     go_roundg k1
     case measure=>have:=HK1.out;omega
     case rel=>exact ⟨(wrap64 (x4_1+1)),(by first|rfl|(simp;done)|(simp [*];done)|(simp only [str_ne_];rfl)|(simp only [str_eq_];rfl)),H',⟨by have:=HK1.out;omega⟩,⟨by (with_reducible repeat (first|apply r1_|apply r2_|apply r3_));exact HO_3.out⟩,⟨by repeat (with_reducible first|exact HB.out|apply p3_|apply p1_|apply p2_)⟩⟩
    replace c8:=e3_ c8
    subst c8
    have H1:(some false)=some r:=by rw [if_neg (show ¬(false=true) by decide)] at H;exact H
    clear H
    have H:=H1
    clear H1
    obtain rfl:=e5_ H
    obtain ⟨Ao10,co10,eo10⟩:=Kd.R_slice HO_3.out
    subst eo10
    have p163:0≤(x4_1:Int):=of_decide_eq_true (by first|(with_reducible assumption)|assumption)
    have q163:x4_1 < (t160.length:Int):=of_decide_eq_true (by first|(with_reducible assumption)|assumption)
    obtain ⟨ad163,e163,hx163_0⟩:=Kd.at_string (Kd.R_reads' HO_3.out).2.2 x4_1 p163 q163
    cases e163
    replace p163:=eq_true p163
    replace q163:=eq_true q163
    go_wp2_with (first|((with_reducible refine gate_callee (f:=60) rfl ?_);refine goesL_ (some 19) rfl rfl Tryz.func60 (by kernel_rfl) rfl #[.string (rdOf ByteArray.empty t160 x4_1)] rfl (by (try simp only [List.map_toArray,List.map_cons,List.map_nil]);first|done|rfl|(simp only [List.length_drop,List.length_take];rfl)) ?_;(with_reducible refine (pinfoldref1_labelMay.calls k1 (rdOf ByteArray.empty t160 x4_1) false _ A7.out).mono ?_);rintro e w' ⟨rfl,⟨nd,rfl⟩⟩;refine ⟨_,rfl,?_⟩))
    go_ret
    exact ⟨by first|rfl|(simp [errW_none,errW_some]<;>rfl)|(simp [*,errW_none,errW_some]<;>rfl)|(simp only [str_ne_];rfl)|(simp only [str_eq_];rfl),by repeat (with_reducible first|exact HB.out|apply p3_|apply p1_|apply p2_)⟩
   rw [if_neg c5] at H
   have c5b0:decide (x4_1 < (t160.length:Int))=false:=decide_eq_false c5
   clear c5
   obtain rfl:=e5_ H
   obtain ⟨Ao11,co11,eo11⟩:=Kd.R_slice HO_3.out
   subst eo11
   go_wp2
   go_ret
   exact ⟨by first|rfl|(simp [errW_none,errW_some]<;>rfl)|(simp [*,errW_none,errW_some]<;>rfl)|(simp only [str_ne_];rfl)|(simp only [str_eq_];rfl),by repeat (with_reducible first|exact HB.out|apply p3_|apply p1_|apply p2_)⟩

/-! ### pinfoldref1_NameMay_c: function 28 -/
-- inc refname.inc
theorem cutL_len:∀ l,(cutL l).length≤l.length+1
 | []=>by simp [cutL]
 | b :: l=>by
  have ih:=cutL_len l
  have hn:=cutL_ne l
  unfold cutL
  split
  ·simp only [List.length_cons];omega
  ·cases hc:cutL l with
   | nil=>exact absurd hc hn
   | cons q qs =>
    rw [hc] at ih
    simp only [glue,List.length_cons] at ih ⊢
    omega
theorem extract_end (s:ByteArray) (a b:Nat) (h:b≤a):bytesOf (s.extract a b)=[]:=by
 rw [bytesOf_extract,show b - a=0 by omega,List.take_zero]
theorem extract_next (s:ByteArray) (a b:Nat) (h:a≤b) (hb:b < s.size):bytesOf (s.extract a (b+1))=bytesOf (s.extract a b) ++ [bt s b]:=by
 rw [bytesOf_extract,bytesOf_extract,show b+1 - a=(b - a)+1 by omega,List.take_succ_eq_append_getElem (by rw [List.length_drop,bytesOf_length];omega)]
 congr 1
 have:=drop_cons s b hb
 rw [show b=a+(b - a) by omega,←List.drop_drop] at this
 rw [List.drop_eq_getElem_cons (by rw [List.length_drop,bytesOf_length];omega)] at this
 rw [List.cons.injEq] at this
 rw [this.1,show a+(b - a)=b by omega]

theorem reflabel_loop (s:ByteArray) (hs:s.size≤4611686018427387904) (d:Nat):∀ (k i:Nat),i+d=s.size→d < k →
  pinfoldref1_labelMay.l0 k s (i:Int)=some (((bytesOf s).drop i).all letterB && decide (1≤s.size∧s.size≤8)):=by
 have key:∀ (x:Option Bool) (b:Int),(if b < 97 then (if b < 48 then (if b=45 then x else some false) else (if b > 57 then (if b=45 then x else some false) else x)) else (if b > 122 then (if b < 48 then (if b=45 then x else some false) else (if b > 57 then (if b=45 then x else some false) else x)) else x))=if letterB b=true then x else some false:=by
  intro x b
  unfold letterB
  simp only [decide_eq_true_eq]
  repeat' split
  all_goals first
   | rfl
   | (exfalso;omega)
 induction d with
 | zero =>
  intro k i hi hk
  obtain ⟨k,rfl⟩:∃ m,k=m+1:=⟨k - 1,by omega⟩
  rw [pinfoldref1_labelMay.l0,if_neg (by omega),drop_end s i (by omega)]
  simp only [List.all_nil,Bool.true_and]
  split
  ·congr 1
   rw [Bool.eq_iff_iff]
   simp only [decide_eq_true_eq]
   omega
  ·congr 1
   symm
   rw [decide_eq_false_iff_not]
   omega
 | succ d ih =>
  intro k i hi hk
  obtain ⟨k,rfl⟩:∃ m,k=m+1:=⟨k - 1,by omega⟩
  rw [pinfoldref1_labelMay.l0,if_pos (by omega),if_pos (by omega),key,drop_cons s i (by omega)]
  simp only [List.all_cons]
  cases letterB (bt s i) with
  | true =>
   rw [if_pos rfl,w64 (by omega)]
   have:=ih k (i+1) (by omega) (by omega)
   rw [show ((i:Int)+1)=((i+1:Nat):Int) by omega,this]
   simp
  | false=>simp
theorem reflabel_eq (k:Nat) (s:ByteArray) (hs:s.size≤4611686018427387904) (hk:s.size < k):pinfoldref1_labelMay.f k s=some (labelB (bytesOf s)):=by
 unfold pinfoldref1_labelMay.f
 have:=reflabel_loop s hs s.size k 0 (by omega) hk
 rw [show ((0:Nat):Int)=0 by rfl] at this
 rw [this]
 unfold labelB
 rw [List.drop_zero,bytesOf_length]

theorem parts_loop (s:ByteArray) (hs:s.size≤140737488351232) (d:Nat):∀ (k i f:Nat) (out:List ByteArray),i+d=s.size→d+2≤k→f≤i→out.length+d+1≤8796093022208 →
  ∃r,pinfoldref1_parts.l0 k s out (f:Int) (i:Int)=some (out ++ r)∧r.map bytesOf=glue (bytesOf (s.extract f i)) (cutL ((bytesOf s).drop i))∧∀ x∈r,x.size≤s.size:=by
 induction d with
 | zero =>
  intro k i f out hi hk hf ho
  obtain ⟨k,rfl⟩:∃ m,k=m+2:=⟨k - 2,by omega⟩
  refine ⟨[s.extract f i],?_,?_,?_⟩
  ·rw [pinfoldref1_parts.l0,if_pos (by omega),if_pos (by omega),if_pos (by omega),if_pos (by omega),if_pos (by omega),w64 (by omega),pinfoldref1_parts.l0,if_neg (by omega),Int.toNat_natCast,Int.toNat_natCast]
  ·rw [drop_end s i (by omega)]
   simp [cutL,glue]
  ·intro x hx
   rw [List.mem_singleton.1 hx,ByteArray.size_extract]
   omega
 | succ d ih =>
  intro k i f out hi hk hf ho
  obtain ⟨k,rfl⟩:∃ m,k=m+1:=⟨k - 1,by omega⟩
  rw [pinfoldref1_parts.l0,if_pos (by omega),if_neg (by omega),if_pos (by omega),if_pos (by omega),drop_cons s i (by omega)]
  by_cases hp:bt s i=46
  ·obtain ⟨r,h1,h2,h3⟩:=ih k (i+1) (i+1) (out ++ [s.extract f i]) (by omega) (by omega) (by omega) (by rw [List.length_append,List.length_singleton];omega)
   refine ⟨s.extract f i :: r,?_,?_,?_⟩
   ·rw [if_pos hp,if_pos (by omega),if_pos (by omega),if_pos (by omega),w64 (by omega),Int.toNat_natCast,Int.toNat_natCast,show ((i:Int)+1)=((i+1:Nat):Int) by omega,h1,List.append_assoc]
    rfl
   ·rw [extract_end s (i+1) (i+1) (Nat.le_refl _),glue_nil _ (cutL_ne _)] at h2
    rw [List.map_cons,h2,hp,cutL_point]
    simp [glue]
   ·intro x hx
    rcases List.mem_cons.1 hx with rfl|hx
    ·rw [ByteArray.size_extract]
     omega
    ·exact h3 x hx
  ·obtain ⟨r,h1,h2,h3⟩:=ih k (i+1) f out (by omega) (by omega) (by omega) (by omega)
   refine ⟨r,?_,?_,h3⟩
   ·rw [if_neg hp,w64 (by omega),show ((i:Int)+1)=((i+1:Nat):Int) by omega,h1]
   ·rw [h2,cutL_other _ _ hp,extract_next s f i hf (by omega),glue_glue]
theorem parts_eq (k:Nat) (s:ByteArray) (hs:s.size≤8796093022000) (hk:s.size+2≤k) :
  ∃r,pinfoldref1_parts.f k s=some r∧r.map bytesOf=cutL (bytesOf s)∧∀ x∈r,x.size≤s.size:=by
 obtain ⟨r,h1,h2,h3⟩:=parts_loop s (by omega) s.size k 0 0 [] (by omega) hk (by omega) (by simp only [List.length_nil];omega)
 refine ⟨r,?_,?_,h3⟩
 ·unfold pinfoldref1_parts.f
  rw [show ((0:Nat):Int)=0 by rfl,List.nil_append] at h1
  exact h1
 ·rw [h2,extract_end s 0 0 (Nat.le_refl _),glue_nil _ (cutL_ne _),List.drop_zero]

theorem refname_loop (r:List ByteArray) (m:Nat) (hr:∀ x∈r,x.size≤m) (hm:m≤140737488351232) (hl:r.length≤140737488351232) (d:Nat):∀ (k i:Nat),i+d=r.length→d+m+2≤k →
  pinfoldref1_NameMay.l0 k r (i:Int)=some (((r.map bytesOf).drop i).all labelB && decide (r.length≤8)):=by
 induction d with
 | zero =>
  intro k i hi hk
  obtain ⟨k,rfl⟩:∃ j,k=j+1:=⟨k - 1,by omega⟩
  rw [pinfoldref1_NameMay.l0,if_neg (by omega),List.drop_eq_nil_of_le (by rw [List.length_map];omega),List.all_nil,Bool.true_and]
  congr 1
  rw [Bool.eq_iff_iff]
  simp only [decide_eq_true_eq]
  omega
 | succ d ih =>
  intro k i hi hk
  obtain ⟨k,rfl⟩:∃ j,k=j+1:=⟨k - 1,by omega⟩
  have hil:i < r.length:=by omega
  have e:rdOf ByteArray.empty r (i:Int)=r[i]:=by
   unfold rdOf
   rw [Int.toNat_natCast,List.getD_eq_getElem?_getD,List.getElem?_eq_getElem hil]
   rfl
  have hx:=hr r[i] (List.getElem_mem hil)
  rw [pinfoldref1_NameMay.l0,if_pos (by omega),if_pos (by omega),e,reflabel_eq k r[i] (by omega) (by omega),List.drop_eq_getElem_cons (by rw [List.length_map];exact hil),List.all_cons,List.getElem_map]
  simp only [Option.bind_some]
  cases labelB (bytesOf r[i]) with
  | true =>
   rw [if_pos rfl,w64 (by omega),show ((i:Int)+1)=((i+1:Nat):Int) by omega,ih k (i+1) (by omega) (by omega),Bool.true_and]
  | false=>rfl
/-- what the document says of a name. -/
theorem refname_eq (k:Nat) (s:ByteArray) (hs:s.size≤8796093022000) (hk:2 * s.size+10≤k):pinfoldref1_NameMay.f k s=some (nameB (bytesOf s)):=by
 unfold pinfoldref1_NameMay.f nameB
 by_cases h:s.size=0
 ·have hz:bytesOf s=[]:=List.length_eq_zero_iff.1 (by rw [bytesOf_length];omega)
  rw [if_pos ((toList_nil s).2 h),hz]
  rfl
 ·have hz:bytesOf s≠[]:=fun e=>h (by rw [←bytesOf_length,e];rfl)
  obtain ⟨r,h1,h2,h3⟩:=parts_eq k s hs (by omega)
  have hl:r.length=(cutL (bytesOf s)).length:=by rw [←h2,List.length_map]
  have hc:=cutL_len (bytesOf s)
  rw [bytesOf_length] at hc
  have:=refname_loop r s.size h3 (by omega) (by omega) r.length k 0 (by omega) (by omega)
  rw [show ((0:Nat):Int)=0 by rfl] at this
  rw [if_neg (fun e=>h ((toList_nil s).1 e)),h1,Option.bind_some,this,List.drop_zero,h2,decide_eq_false hz,Bool.false_or,hl]
def pinfoldref1_NameMay_c.f (a0:ByteArray):Option Bool:=if a0.size≤8796093022000 then some (nameB (bytesOf a0)) else none
theorem pinfoldref1_NameMay_c.calls (a0:ByteArray) (r:Bool) (w:World) (h:pinfoldref1_NameMay_c.f a0=some r) :
  Calls Tryz.prog 28 #[.string a0] w fun e w'=>e=.returned (.bool r)∧Below w.heap.size w w':=by
 unfold pinfoldref1_NameMay_c.f at h
 by_cases hs:a0.size≤8796093022000
 ·rw [if_pos hs] at h
  obtain rfl:=e5_ h
  exact pinfoldref1_NameMay.calls (2 * a0.size+10) a0 _ w (refname_eq _ a0 hs (Nat.le_refl _))
 ·rw [if_neg hs] at h
  cases h

/-! ### pinfoldref11_clientMay: function 58 -/
def pinfoldref11_clientMay.f (a0:ByteArray):Option (Bool):=if (a0.size:Int) ≥ 1 then (some (decide ((a0.size:Int)≤16))) else (some false)
theorem pinfoldref11_clientMay.calls (a0:ByteArray) (r:Bool) (w:World) (h:pinfoldref11_clientMay.f a0=some r) :
  Calls Tryz.prog 58 #[.string a0] w fun e w'=>e=.returned (.bool r)∧Drawn0 w w':=by
 have H:(if (a0.size:Int) ≥ 1 then (some (decide ((a0.size:Int)≤16))) else (some false))=some r:=h
 clear h
 by_cases c2:(a0.size:Int) ≥ 1
 ·rw [if_pos c2] at H
  have c2b0:decide (1≤(a0.size:Int))=true:=decide_eq_true c2
  have c2b1:decide (1≤a0.size)=true:=decide_eq_true (by omega)
  clear c2
  obtain rfl:=e5_ H
  go_enter Tryz.func58,Tryz.ntmps58
  go_wp2
  go_ret
  exact ⟨by first|rfl|(simp;done)|(simp [*];done),by repeat (first|exact Drawn0.refl _|apply Drawn0.step)⟩
 rw [if_neg c2] at H
 have c2b0:decide (1≤(a0.size:Int))=false:=decide_eq_false c2
 have c2b1:decide (1≤a0.size)=false:=decide_eq_false (by omega)
 clear c2
 obtain rfl:=e5_ H
 go_enter Tryz.func58,Tryz.ntmps58
 go_wp2
 go_ret
 exact ⟨by first|rfl|(simp;done)|(simp [*];done),by repeat (first|exact Drawn0.refl _|apply Drawn0.step)⟩

/-! ### pinfoldref11_clientMay_c: function 58 -/
def pinfoldref11_clientMay_c.f (a0:ByteArray):Option Bool:=some (clientB a0)
theorem pinfoldref11_clientMay_c.calls (a0:ByteArray) (r:Bool) (w:World) (h:pinfoldref11_clientMay_c.f a0=some r) :
  Calls Tryz.prog 58 #[.string a0] w fun e w'=>e=.returned (.bool r)∧Drawn0 w w':=by
 refine pinfoldref11_clientMay.calls a0 r w ?_
 rw [←h]
 unfold pinfoldref11_clientMay.f pinfoldref11_clientMay_c.f clientB
 by_cases q:(a0.size:Int) ≥ 1
 ·rw [if_pos q]
  congr 1
  rw [Bool.eq_iff_iff,decide_eq_true_eq,decide_eq_true_eq]
  omega
 ·rw [if_neg q]
  congr 1
  symm
  rw [decide_eq_false_iff_not]
  omega

/-! ### pinfoldref1_Labels: function 79 -/
def pinfoldref1_Labels.f (k:Nat) (a0:ByteArray):Option (List ByteArray):=if a0.toList=([]:List UInt8) then (some ([]:List ByteArray)) else ((pinfoldref1_NameMay_c.f a0).bind fun t165=>(if t165=true then ((pinfoldref1_parts.f k a0).bind fun t166=>(some t166)) else (some ([]:List ByteArray))))
theorem pinfoldref1_Labels.mono:∀ a0 k,LeO (pinfoldref1_Labels.f k a0) (pinfoldref1_Labels.f (k+1) a0):=by
 intro a0 k
 unfold pinfoldref1_Labels.f
 repeat' first
   | (with_reducible exact pinfoldref1_parts.mono _ _)
   | (with_reducible exact LeO.refl _)
   | (with_reducible exact LeO.none _)
   | (with_reducible refine LeO.ite ?_ ?_)
   | (with_reducible refine LeO.bind ?_ (fun _=>?_))
   | exact pinfoldref1_parts.mono _ _
   | exact LeO.none _
   | refine LeO.ite ?_ ?_
   | refine LeO.bind ?_ (fun _=>?_)
theorem pinfoldref1_Labels.calls (k:Nat) (a0:ByteArray) (r:List ByteArray) (w:World) (h:pinfoldref1_Labels.f k a0=some r) :
  Calls Tryz.prog 79 #[.string a0] w fun e w'=>∃ v0_:Value,e=.returned (v0_)∧Kd.R Kd.string 9 w' w.heap.size (fun _=>True) v0_ r∧Below w.heap.size w w':=by
 have HB:=am_ (Below.refl w.heap.size w)
 have H:(if a0.toList=([]:List UInt8) then (some ([]:List ByteArray)) else ((pinfoldref1_NameMay_c.f a0).bind fun t165=>(if t165=true then ((pinfoldref1_parts.f k a0).bind fun t166=>(some t166)) else (some ([]:List ByteArray)))))=some r:=h
 clear h
 by_cases c2:a0.toList=([]:List UInt8)
 ·rw [if_pos c2] at H
  have c2b0:(a0.toList == ([]:List UInt8))=true:=beq_iff_eq.mpr c2
  have c2b1:(a0.toList != ([]:List UInt8))=false:=e1_ c2
  clear c2
  obtain rfl:=e5_ H
  go_enter Tryz.func79,Tryz.ntmps79
  go_wp2
  go_ret
  exact ⟨_,by first|rfl|(simp [errW_none,errW_some]<;>rfl)|(simp [*,errW_none,errW_some]<;>rfl)|(simp only [str_ne_];rfl)|(simp only [str_eq_];rfl),by first|exact Kd.R_nil _ _ _ _ _|exact Kd.N_nil _ _ _ _ _|exact Kd.V_nil _ _ _ _ _|exact Kd.Q_nil _ _ _ _ _|exact Kd.S_nil _ _ _ _ _,by repeat (with_reducible first|exact HB.out|apply p3_|apply p1_|apply p2_)⟩
 rw [if_neg c2] at H
 have c2b0:(a0.toList == ([]:List UInt8))=false:=e2_ c2
 have c2b1:(a0.toList != ([]:List UInt8))=true:=bne_iff_ne.mpr c2
 replace H:=e4_ H
 obtain ⟨t165,A30,H⟩:=H
 replace H:(if t165=true then ((pinfoldref1_parts.f k a0).bind fun t166=>(some t166)) else (some ([]:List ByteArray)))=some r:=H
 have A3:=am_ A30
 clear A30
 by_cases c4:t165=true
 ·subst c4
  have H1:((pinfoldref1_parts.f k a0).bind fun t166=>(some t166))=some r:=by rw [if_pos rfl] at H;exact H
  clear H
  have H:=H1
  clear H1
  replace H:=e4_ H
  obtain ⟨t166,A50,H⟩:=H
  replace H:(some t166)=some r:=H
  have A5:=am_ A50
  clear A50
  obtain rfl:=e5_ H
  go_enter Tryz.func79,Tryz.ntmps79
  go_wp2_with (first|(go_at_call 28;(with_reducible refine (pinfoldref1_NameMay_c.calls a0 true _ A3.out).mono ?_);rintro e w6 ⟨rfl,hb⟩;have n0_:=am_ (bt_ (by repeat (with_reducible first|exact HB.out|apply p3_|apply p1_|apply p2_)) hb);clear HB;have HB:=n0_;clear n0_;(try clear hb))|((with_reducible refine gate_callee (f:=59) rfl ?_);refine goesL_ (some 11) rfl rfl Tryz.func59 (by kernel_rfl) rfl #[.string a0] rfl (by (try simp only [List.map_toArray,List.map_cons,List.map_nil]);first|done|rfl|(simp only [List.length_drop,List.length_take];rfl)) ?_;(with_reducible refine (pinfoldref1_parts.calls k a0 t166 _ A5.out).mono ?_);rintro e w7 ⟨v167,rfl,ho0,hb⟩;refine ⟨_,rfl,?_⟩;have n0_:=am_ (Kd.R_lower ho0 (bz_ (by repeat (with_reducible first|exact HB.out|apply p3_|apply p1_|apply p2_))));have n1_:=am_ (bt_ (by repeat (with_reducible first|exact HB.out|apply p3_|apply p1_|apply p2_)) hb);clear HB;have HO168:=n0_;have HB:=n1_;clear n0_ n1_;(try clear hb);(try clear ho0)))
  go_ret
  exact ⟨_,by first|rfl|(simp [errW_none,errW_some]<;>rfl)|(simp [*,errW_none,errW_some]<;>rfl)|(simp only [str_ne_];rfl)|(simp only [str_eq_];rfl),by (with_reducible repeat (first|apply r1_|apply r2_|apply r3_));exact HO168.out,by repeat (with_reducible first|exact HB.out|apply p3_|apply p1_|apply p2_)⟩
 replace c4:=e3_ c4
 subst c4
 have H1:(some ([]:List ByteArray))=some r:=by rw [if_neg (show ¬(false=true) by decide)] at H;exact H
 clear H
 have H:=H1
 clear H1
 obtain rfl:=e5_ H
 go_enter Tryz.func79,Tryz.ntmps79
 go_wp2_with (first|(go_at_call 28;(with_reducible refine (pinfoldref1_NameMay_c.calls a0 false _ A3.out).mono ?_);rintro e w8 ⟨rfl,hb⟩;have n0_:=am_ (bt_ (by repeat (with_reducible first|exact HB.out|apply p3_|apply p1_|apply p2_)) hb);clear HB;have HB:=n0_;clear n0_;(try clear hb)))
 go_ret
 exact ⟨_,by first|rfl|(simp [errW_none,errW_some]<;>rfl)|(simp [*,errW_none,errW_some]<;>rfl)|(simp only [str_ne_];rfl)|(simp only [str_eq_];rfl),by first|exact Kd.R_nil _ _ _ _ _|exact Kd.N_nil _ _ _ _ _|exact Kd.V_nil _ _ _ _ _|exact Kd.Q_nil _ _ _ _ _|exact Kd.S_nil _ _ _ _ _,by repeat (with_reducible first|exact HB.out|apply p3_|apply p1_|apply p2_)⟩

end Go.Proofs.YtibalpbkmgegnaaGreatDoor.PL
