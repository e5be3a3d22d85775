-- Made by wip/pr.py out of the translation (a turned copy of the kit's print; contracts by hand where said).
import Derived.Test.YtibalpbkmgegnaaGreatDoorPLx0
import Derived.Test.YtibalpbkmgegnaaGreatDoorPLx4
import Derived.Test.YtibalpbkmgegnaaGreatDoorPLx13
namespace Go.Proofs.YtibalpbkmgegnaaGreatDoor.PL
open Go.RowKit Go.Proofs.YtibalpbkmgegnaaGreatDoorW.PrintWords Go.Proofs.YtibalpbkmgegnaaGreatDoorW.PrintLast Go.Proofs.YtibalpbkmgegnaaGreatDoorW.PrintMore
-- shrunk
attribute [local go_sem] max2_int min2_int max_two min_two max_three min_three max_four min_four   -- for this text's walks alone
set_option linter.unusedVariables false
set_option linter.unusedSimpArgs false
set_option maxHeartbeats 8000000
set_option maxRecDepth 100000

/-! ### pinfoldref1_Labels_c: function 79 -/
theorem reflabels_eq_ (s:ByteArray) (hs:s.size≤8796093022000):pinfoldref1_Labels.f (s.size+2) s=some (labelsS s):=by
 unfold pinfoldref1_Labels.f pinfoldref1_NameMay_c.f labelsS
 rw [if_pos hs,Option.bind_some]
 by_cases q:s.toList=([]:List UInt8)
 ·have hz:=(toList_nil s).1 q
  rw [if_pos q,if_neg (by simp [hz])]
 ·have hz:s.size≠0:=fun e=>q ((toList_nil s).2 e)
  rw [if_neg q]
  cases h:nameB (bytesOf s) with
  | false=>simp
  | true =>
   obtain ⟨r,h1,h2,_⟩:=parts_eq (s.size+2) s hs (Nat.le_refl _)
   rw [if_pos rfl,h1,if_pos (by simp [hz]),of_map_bytes _ _ h2]
   rfl
def pinfoldref1_Labels_c.f (a0:ByteArray):Option (List ByteArray):=if a0.size≤8796093022000 then some (labelsS a0) else none
theorem pinfoldref1_Labels_c.calls (a0:ByteArray) (r:List ByteArray) (w:World) (h:pinfoldref1_Labels_c.f a0=some r) :
  Calls Tryz.prog 79 #[.string a0] w fun e w'=>∃ v0_:Value,e=.returned (v0_)∧Kd.R Kd.string 9 w' w.heap.size (fun _=>True) v0_ r∧Below w.heap.size w w':=by
 unfold pinfoldref1_Labels_c.f at h
 by_cases hs:a0.size≤8796093022000
 ·rw [if_pos hs] at h
  exact pinfoldref1_Labels.calls _ a0 r w (by rw [reflabels_eq_ a0 hs];exact h)
 ·rw [if_neg hs] at h
  cases h

/-! ### pinfoldref1_Under: function 81 -/
def pinfoldref1_Under.f (a0:ByteArray) (a1:ByteArray):Option (Bool):=(pinfoldref1_NameMay_c.f a0).bind fun t169=>(if t169=true then ((pinfoldref1_NameMay_c.f a1).bind fun t170=>(if t170=true then (if a1.toList=([]:List UInt8) then (some true) else (if a0.toList=a1.toList then (some true) else (if (wrap64 ((a0.size:Int) - (a1.size:Int))) > 1 then (if 0≤(wrap64 ((a0.size:Int) - (a1.size:Int))) then (if (wrap64 ((a0.size:Int) - (a1.size:Int)))≤(a0.size:Int) then (if (a0.extract ((wrap64 ((a0.size:Int) - (a1.size:Int))):Int).toNat a0.size).toList=a1.toList then (if 0≤(wrap64 ((wrap64 ((a0.size:Int) - (a1.size:Int))) - 1)) then (if (wrap64 ((wrap64 ((a0.size:Int) - (a1.size:Int))) - 1)) < (a0.size:Int) then (some ((bt a0 (wrap64 ((wrap64 ((a0.size:Int) - (a1.size:Int))) - 1))) == 46)) else (none)) else (none)) else (some false)) else (none)) else (none)) else (some false)))) else (some false))) else (some false))
theorem pinfoldref1_Under.calls (a0:ByteArray) (a1:ByteArray) (r:Bool) (w:World) (h:pinfoldref1_Under.f a0 a1=some r) :
  Calls Tryz.prog 81 #[.string a0,.string a1] w fun e w'=>e=.returned (.bool r)∧Below w.heap.size w w':=by
 have HB:=am_ (Below.refl w.heap.size w)
 have H:((pinfoldref1_NameMay_c.f a0).bind fun t169=>(if t169=true then ((pinfoldref1_NameMay_c.f a1).bind fun t170=>(if t170=true then (if a1.toList=([]:List UInt8) then (some true) else (if a0.toList=a1.toList then (some true) else (if (wrap64 ((a0.size:Int) - (a1.size:Int))) > 1 then (if 0≤(wrap64 ((a0.size:Int) - (a1.size:Int))) then (if (wrap64 ((a0.size:Int) - (a1.size:Int)))≤(a0.size:Int) then (if (a0.extract ((wrap64 ((a0.size:Int) - (a1.size:Int))):Int).toNat a0.size).toList=a1.toList then (if 0≤(wrap64 ((wrap64 ((a0.size:Int) - (a1.size:Int))) - 1)) then (if (wrap64 ((wrap64 ((a0.size:Int) - (a1.size:Int))) - 1)) < (a0.size:Int) then (some ((bt a0 (wrap64 ((wrap64 ((a0.size:Int) - (a1.size:Int))) - 1))) == 46)) else (none)) else (none)) else (some false)) else (none)) else (none)) else (some false)))) else (some false))) else (some false)))=some r:=h
 clear h
 replace H:=e4_ H
 obtain ⟨t169,A30,H⟩:=H
 replace H:(if t169=true then ((pinfoldref1_NameMay_c.f a1).bind fun t170=>(if t170=true then (if a1.toList=([]:List UInt8) then (some true) else (if a0.toList=a1.toList then (some true) else (if (wrap64 ((a0.size:Int) - (a1.size:Int))) > 1 then (if 0≤(wrap64 ((a0.size:Int) - (a1.size:Int))) then (if (wrap64 ((a0.size:Int) - (a1.size:Int)))≤(a0.size:Int) then (if (a0.extract ((wrap64 ((a0.size:Int) - (a1.size:Int))):Int).toNat a0.size).toList=a1.toList then (if 0≤(wrap64 ((wrap64 ((a0.size:Int) - (a1.size:Int))) - 1)) then (if (wrap64 ((wrap64 ((a0.size:Int) - (a1.size:Int))) - 1)) < (a0.size:Int) then (some ((bt a0 (wrap64 ((wrap64 ((a0.size:Int) - (a1.size:Int))) - 1))) == 46)) else (none)) else (none)) else (some false)) else (none)) else (none)) else (some false)))) else (some false))) else (some false))=some r:=H
 have A3:=am_ A30
 clear A30
 by_cases c4:t169=true
 ·subst c4
  have H1:((pinfoldref1_NameMay_c.f a1).bind fun t170=>(if t170=true then (if a1.toList=([]:List UInt8) then (some true) else (if a0.toList=a1.toList then (some true) else (if (wrap64 ((a0.size:Int) - (a1.size:Int))) > 1 then (if 0≤(wrap64 ((a0.size:Int) - (a1.size:Int))) then (if (wrap64 ((a0.size:Int) - (a1.size:Int)))≤(a0.size:Int) then (if (a0.extract ((wrap64 ((a0.size:Int) - (a1.size:Int))):Int).toNat a0.size).toList=a1.toList then (if 0≤(wrap64 ((wrap64 ((a0.size:Int) - (a1.size:Int))) - 1)) then (if (wrap64 ((wrap64 ((a0.size:Int) - (a1.size:Int))) - 1)) < (a0.size:Int) then (some ((bt a0 (wrap64 ((wrap64 ((a0.size:Int) - (a1.size:Int))) - 1))) == 46)) else (none)) else (none)) else (some false)) else (none)) else (none)) else (some false)))) else (some false)))=some r:=by rw [if_pos rfl] at H;exact H
  clear H
  have H:=H1
  clear H1
  replace H:=e4_ H
  obtain ⟨t170,A50,H⟩:=H
  replace H:(if t170=true then (if a1.toList=([]:List UInt8) then (some true) else (if a0.toList=a1.toList then (some true) else (if (wrap64 ((a0.size:Int) - (a1.size:Int))) > 1 then (if 0≤(wrap64 ((a0.size:Int) - (a1.size:Int))) then (if (wrap64 ((a0.size:Int) - (a1.size:Int)))≤(a0.size:Int) then (if (a0.extract ((wrap64 ((a0.size:Int) - (a1.size:Int))):Int).toNat a0.size).toList=a1.toList then (if 0≤(wrap64 ((wrap64 ((a0.size:Int) - (a1.size:Int))) - 1)) then (if (wrap64 ((wrap64 ((a0.size:Int) - (a1.size:Int))) - 1)) < (a0.size:Int) then (some ((bt a0 (wrap64 ((wrap64 ((a0.size:Int) - (a1.size:Int))) - 1))) == 46)) else (none)) else (none)) else (some false)) else (none)) else (none)) else (some false)))) else (some false))=some r:=H
  have A5:=am_ A50
  clear A50
  by_cases c6:t170=true
  ·subst c6
   have H1:(if a1.toList=([]:List UInt8) then (some true) else (if a0.toList=a1.toList then (some true) else (if (wrap64 ((a0.size:Int) - (a1.size:Int))) > 1 then (if 0≤(wrap64 ((a0.size:Int) - (a1.size:Int))) then (if (wrap64 ((a0.size:Int) - (a1.size:Int)))≤(a0.size:Int) then (if (a0.extract ((wrap64 ((a0.size:Int) - (a1.size:Int))):Int).toNat a0.size).toList=a1.toList then (if 0≤(wrap64 ((wrap64 ((a0.size:Int) - (a1.size:Int))) - 1)) then (if (wrap64 ((wrap64 ((a0.size:Int) - (a1.size:Int))) - 1)) < (a0.size:Int) then (some ((bt a0 (wrap64 ((wrap64 ((a0.size:Int) - (a1.size:Int))) - 1))) == 46)) else (none)) else (none)) else (some false)) else (none)) else (none)) else (some false))))=some r:=by rw [if_pos rfl] at H;exact H
   clear H
   have H:=H1
   clear H1
   by_cases c7:a1.toList=([]:List UInt8)
   ·rw [if_pos c7] at H
    have c7b0:(a1.toList == ([]:List UInt8))=true:=beq_iff_eq.mpr c7
    have c7b1:(a1.toList != ([]:List UInt8))=false:=e1_ c7
    clear c7
    obtain rfl:=e5_ H
    go_enter Tryz.func81,Tryz.ntmps81
    go_wp2_with (first|((with_reducible refine gate_callee (f:=28) rfl ?_);refine goesL_ (some 7) rfl rfl Tryz.func28 (by kernel_rfl) rfl #[.string a0] rfl (by (try simp only [List.map_toArray,List.map_cons,List.map_nil]);first|done|rfl|(simp only [List.length_drop,List.length_take];rfl)) ?_;(with_reducible refine (pinfoldref1_NameMay_c.calls a0 true _ A3.out).mono ?_);rintro e w8 ⟨rfl,hb⟩;refine ⟨_,rfl,?_⟩;have n0_:=am_ (bt_ (by repeat (with_reducible first|exact HB.out|apply p3_|apply p1_|apply p2_)) hb);clear HB;have HB:=n0_;clear n0_;(try clear hb))|(go_at_call 28;(with_reducible refine (pinfoldref1_NameMay_c.calls a1 true _ A5.out).mono ?_);rintro e w9 ⟨rfl,hb⟩;have n0_:=am_ (bt_ (by repeat (with_reducible first|exact HB.out|apply p3_|apply p1_|apply p2_)) hb);clear HB;have HB:=n0_;clear n0_;(try clear hb)))
    go_ret
    exact ⟨by first|rfl|(simp [errW_none,errW_some]<;>rfl)|(simp [*,errW_none,errW_some]<;>rfl)|(simp only [str_ne_];rfl)|(simp only [str_eq_];rfl),by repeat (with_reducible first|exact HB.out|apply p3_|apply p1_|apply p2_)⟩
   rw [if_neg c7] at H
   have c7b0:(a1.toList == ([]:List UInt8))=false:=e2_ c7
   have c7b1:(a1.toList != ([]:List UInt8))=true:=bne_iff_ne.mpr c7
   by_cases c10:a0.toList=a1.toList
   ·rw [if_pos c10] at H
    have c10b0:(a0.toList == a1.toList)=true:=beq_iff_eq.mpr c10
    have c10b1:(a0.toList != a1.toList)=false:=e1_ c10
    clear c10
    obtain rfl:=e5_ H
    go_enter Tryz.func81,Tryz.ntmps81
    go_wp2_with (first|((with_reducible refine gate_callee (f:=28) rfl ?_);refine goesL_ (some 7) rfl rfl Tryz.func28 (by kernel_rfl) rfl #[.string a0] rfl (by (try simp only [List.map_toArray,List.map_cons,List.map_nil]);first|done|rfl|(simp only [List.length_drop,List.length_take];rfl)) ?_;(with_reducible refine (pinfoldref1_NameMay_c.calls a0 true _ A3.out).mono ?_);rintro e w11 ⟨rfl,hb⟩;refine ⟨_,rfl,?_⟩;have n0_:=am_ (bt_ (by repeat (with_reducible first|exact HB.out|apply p3_|apply p1_|apply p2_)) hb);clear HB;have HB:=n0_;clear n0_;(try clear hb))|(go_at_call 28;(with_reducible refine (pinfoldref1_NameMay_c.calls a1 true _ A5.out).mono ?_);rintro e w12 ⟨rfl,hb⟩;have n0_:=am_ (bt_ (by repeat (with_reducible first|exact HB.out|apply p3_|apply p1_|apply p2_)) hb);clear HB;have HB:=n0_;clear n0_;(try clear hb)))
    go_ret
    exact ⟨by first|rfl|(simp [errW_none,errW_some]<;>rfl)|(simp [*,errW_none,errW_some]<;>rfl)|(simp only [str_ne_];rfl)|(simp only [str_eq_];rfl),by repeat (with_reducible first|exact HB.out|apply p3_|apply p1_|apply p2_)⟩
   rw [if_neg c10] at H
   have c10b0:(a0.toList == a1.toList)=false:=e2_ c10
   have c10b1:(a0.toList != a1.toList)=true:=bne_iff_ne.mpr c10
   by_cases c13:(wrap64 ((a0.size:Int) - (a1.size:Int))) > 1
   ·rw [if_pos c13] at H
    have c13b0:decide (1 < (wrap64 ((a0.size:Int) - (a1.size:Int))))=true:=decide_eq_true c13
    clear c13
    obtain ⟨ji14,hji14⟩:∃ j_:Int,(wrap64 ((a0.size:Int) - (a1.size:Int)))=j_:=⟨_,rfl⟩
    replace H:(if 0≤(ji14) then (if (ji14)≤(a0.size:Int) then (if (a0.extract ((ji14):Int).toNat a0.size).toList=a1.toList then (if 0≤(wrap64 ((ji14) - 1)) then (if (wrap64 ((ji14) - 1)) < (a0.size:Int) then (some ((bt a0 (wrap64 ((ji14) - 1))) == 46)) else (none)) else (none)) else (some false)) else (none)) else (none))=some r:=by first|(rw [hji14] at H;exact H)|(simp only [hji14] at H ⊢;exact H)
    (try rw [hji14] at c13b0)
    (try rw [hji14] at A3)
    (try rw [hji14] at A5)
    have hji14w:(IntKind.i64.wrap ((a0.size:Int) - (a1.size:Int)))=ji14:=(i64_w _).trans hji14
    by_cases c15:0≤(ji14)
    rotate_left
    ·rw [if_neg c15] at H
     exact absurd H (by simp)
    rw [if_pos c15] at H
    have c15b0:=eq_true c15
    have c15b1:decide (0≤(ji14))=true:=decide_eq_true c15
    clear c15
    by_cases c16:(ji14)≤(a0.size:Int)
    rotate_left
    ·rw [if_neg c16] at H
     exact absurd H (by simp)
    rw [if_pos c16] at H
    have c16b0:=eq_true c16
    have c16b1:decide ((ji14)≤(a0.size:Int))=true:=decide_eq_true c16
    clear c16
    by_cases c17:(a0.extract ((ji14):Int).toNat a0.size).toList=a1.toList
    ·rw [if_pos c17] at H
     have c17b0:((a0.extract ((ji14):Int).toNat a0.size).toList == a1.toList)=true:=beq_iff_eq.mpr c17
     have c17b1:((a0.extract ((ji14):Int).toNat a0.size).toList != a1.toList)=false:=e1_ c17
     clear c17
     obtain ⟨ji18,hji18⟩:∃ j_:Int,(wrap64 ((ji14) - 1))=j_:=⟨_,rfl⟩
     replace H:(if 0≤(ji18) then (if (ji18) < (a0.size:Int) then (some ((bt a0 (ji18)) == 46)) else (none)) else (none))=some r:=by first|(rw [hji18] at H;exact H)|(simp only [hji18] at H ⊢;exact H)
     (try rw [hji18] at A3)
     (try rw [hji18] at A5)
     have hji18w:(IntKind.i64.wrap ((ji14) - 1))=ji18:=(i64_w _).trans hji18
     by_cases c19:0≤(ji18)
     rotate_left
     ·rw [if_neg c19] at H
      exact absurd H (by simp)
     rw [if_pos c19] at H
     have c19b0:decide (0≤(ji18))=true:=decide_eq_true c19
     clear c19
     by_cases c20:(ji18) < (a0.size:Int)
     rotate_left
     ·rw [if_neg c20] at H
      exact absurd H (by simp)
     rw [if_pos c20] at H
     have c20b0:decide ((ji18) < (a0.size:Int))=true:=decide_eq_true c20
     clear c20
     obtain rfl:=e5_ H
     go_enter Tryz.func81,Tryz.ntmps81
     go_wp2_with (first|((with_reducible refine gate_callee (f:=28) rfl ?_);refine goesL_ (some 7) rfl rfl Tryz.func28 (by kernel_rfl) rfl #[.string a0] rfl (by (try simp only [List.map_toArray,List.map_cons,List.map_nil]);first|done|rfl|(simp only [List.length_drop,List.length_take];rfl)) ?_;(with_reducible refine (pinfoldref1_NameMay_c.calls a0 true _ A3.out).mono ?_);rintro e w22 ⟨rfl,hb⟩;refine ⟨_,rfl,?_⟩;have n0_:=am_ (bt_ (by repeat (with_reducible first|exact HB.out|apply p3_|apply p1_|apply p2_)) hb);clear HB;have HB:=n0_;clear n0_;(try clear hb))|(go_at_call 28;(with_reducible refine (pinfoldref1_NameMay_c.calls a1 true _ A5.out).mono ?_);rintro e w23 ⟨rfl,hb⟩;have n0_:=am_ (bt_ (by repeat (with_reducible first|exact HB.out|apply p3_|apply p1_|apply p2_)) hb);clear HB;have HB:=n0_;clear n0_;(try clear hb);have p21:0≤((ji18):Int):=of_decide_eq_true (by first|(with_reducible assumption)|assumption);have q21:(ji18) < (a0.size:Int):=of_decide_eq_true (by first|(with_reducible assumption)|assumption);have hx21:=bt_at a0 (ji18);replace p21:=eq_true p21;replace q21:=eq_true q21))
     go_ret
     exact ⟨by first|rfl|(simp [errW_none,errW_some]<;>rfl)|(simp only [←hji14,←hji18];first|rfl|(simp [errW_none,errW_some]<;>rfl))|(simp [*,errW_none,errW_some]<;>rfl)|(simp only [str_ne_];rfl)|(simp only [str_eq_];rfl),by repeat (with_reducible first|exact HB.out|apply p3_|apply p1_|apply p2_)⟩
    rw [if_neg c17] at H
    have c17b0:((a0.extract ((ji14):Int).toNat a0.size).toList == a1.toList)=false:=e2_ c17
    have c17b1:((a0.extract ((ji14):Int).toNat a0.size).toList != a1.toList)=true:=bne_iff_ne.mpr c17
    obtain rfl:=e5_ H
    go_enter Tryz.func81,Tryz.ntmps81
    go_wp2_with (first|((with_reducible refine gate_callee (f:=28) rfl ?_);refine goesL_ (some 7) rfl rfl Tryz.func28 (by kernel_rfl) rfl #[.string a0] rfl (by (try simp only [List.map_toArray,List.map_cons,List.map_nil]);first|done|rfl|(simp only [List.length_drop,List.length_take];rfl)) ?_;(with_reducible refine (pinfoldref1_NameMay_c.calls a0 true _ A3.out).mono ?_);rintro e w24 ⟨rfl,hb⟩;refine ⟨_,rfl,?_⟩;have n0_:=am_ (bt_ (by repeat (with_reducible first|exact HB.out|apply p3_|apply p1_|apply p2_)) hb);clear HB;have HB:=n0_;clear n0_;(try clear hb))|(go_at_call 28;(with_reducible refine (pinfoldref1_NameMay_c.calls a1 true _ A5.out).mono ?_);rintro e w25 ⟨rfl,hb⟩;have n0_:=am_ (bt_ (by repeat (with_reducible first|exact HB.out|apply p3_|apply p1_|apply p2_)) hb);clear HB;have HB:=n0_;clear n0_;(try clear hb)))
    go_ret
    exact ⟨by first|rfl|(simp [errW_none,errW_some]<;>rfl)|(simp only [←hji14];first|rfl|(simp [errW_none,errW_some]<;>rfl))|(simp [*,errW_none,errW_some]<;>rfl)|(simp only [str_ne_];rfl)|(simp only [str_eq_];rfl),by repeat (with_reducible first|exact HB.out|apply p3_|apply p1_|apply p2_)⟩
   rw [if_neg c13] at H
   have c13b0:decide (1 < (wrap64 ((a0.size:Int) - (a1.size:Int))))=false:=decide_eq_false c13
   clear c13
   obtain rfl:=e5_ H
   go_enter Tryz.func81,Tryz.ntmps81
   go_wp2_with (first|((with_reducible refine gate_callee (f:=28) rfl ?_);refine goesL_ (some 7) rfl rfl Tryz.func28 (by kernel_rfl) rfl #[.string a0] rfl (by (try simp only [List.map_toArray,List.map_cons,List.map_nil]);first|done|rfl|(simp only [List.length_drop,List.length_take];rfl)) ?_;(with_reducible refine (pinfoldref1_NameMay_c.calls a0 true _ A3.out).mono ?_);rintro e w26 ⟨rfl,hb⟩;refine ⟨_,rfl,?_⟩;have n0_:=am_ (bt_ (by repeat (with_reducible first|exact HB.out|apply p3_|apply p1_|apply p2_)) hb);clear HB;have HB:=n0_;clear n0_;(try clear hb))|(go_at_call 28;(with_reducible refine (pinfoldref1_NameMay_c.calls a1 true _ A5.out).mono ?_);rintro e w27 ⟨rfl,hb⟩;have n0_:=am_ (bt_ (by repeat (with_reducible first|exact HB.out|apply p3_|apply p1_|apply p2_)) hb);clear HB;have HB:=n0_;clear n0_;(try clear hb)))
   go_ret
   exact ⟨by first|rfl|(simp [errW_none,errW_some]<;>rfl)|(simp [*,errW_none,errW_some]<;>rfl)|(simp only [str_ne_];rfl)|(simp only [str_eq_];rfl),by repeat (with_reducible first|exact HB.out|apply p3_|apply p1_|apply p2_)⟩
  replace c6:=e3_ c6
  subst c6
  have H1:(some false)=some r:=by rw [if_neg (show ¬(false=true) by decide)] at H;exact H
  clear H
  have H:=H1
  clear H1
  obtain rfl:=e5_ H
  go_enter Tryz.func81,Tryz.ntmps81
  go_wp2_with (first|((with_reducible refine gate_callee (f:=28) rfl ?_);refine goesL_ (some 7) rfl rfl Tryz.func28 (by kernel_rfl) rfl #[.string a0] rfl (by (try simp only [List.map_toArray,List.map_cons,List.map_nil]);first|done|rfl|(simp only [List.length_drop,List.length_take];rfl)) ?_;(with_reducible refine (pinfoldref1_NameMay_c.calls a0 true _ A3.out).mono ?_);rintro e w28 ⟨rfl,hb⟩;refine ⟨_,rfl,?_⟩;have n0_:=am_ (bt_ (by repeat (with_reducible first|exact HB.out|apply p3_|apply p1_|apply p2_)) hb);clear HB;have HB:=n0_;clear n0_;(try clear hb))|(go_at_call 28;(with_reducible refine (pinfoldref1_NameMay_c.calls a1 false _ A5.out).mono ?_);rintro e w29 ⟨rfl,hb⟩;have n0_:=am_ (bt_ (by repeat (with_reducible first|exact HB.out|apply p3_|apply p1_|apply p2_)) hb);clear HB;have HB:=n0_;clear n0_;(try clear hb)))
  go_ret
  exact ⟨by first|rfl|(simp [errW_none,errW_some]<;>rfl)|(simp [*,errW_none,errW_some]<;>rfl)|(simp only [str_ne_];rfl)|(simp only [str_eq_];rfl),by repeat (with_reducible first|exact HB.out|apply p3_|apply p1_|apply p2_)⟩
 replace c4:=e3_ c4
 subst c4
 have H1:(some false)=some r:=by rw [if_neg (show ¬(false=true) by decide)] at H;exact H
 clear H
 have H:=H1
 clear H1
 obtain rfl:=e5_ H
 go_enter Tryz.func81,Tryz.ntmps81
 go_wp2_with (first|((with_reducible refine gate_callee (f:=28) rfl ?_);refine goesL_ (some 7) rfl rfl Tryz.func28 (by kernel_rfl) rfl #[.string a0] rfl (by (try simp only [List.map_toArray,List.map_cons,List.map_nil]);first|done|rfl|(simp only [List.length_drop,List.length_take];rfl)) ?_;(with_reducible refine (pinfoldref1_NameMay_c.calls a0 false _ A3.out).mono ?_);rintro e w30 ⟨rfl,hb⟩;refine ⟨_,rfl,?_⟩;have n0_:=am_ (bt_ (by repeat (with_reducible first|exact HB.out|apply p3_|apply p1_|apply p2_)) hb);clear HB;have HB:=n0_;clear n0_;(try clear hb)))
 go_ret
 exact ⟨by first|rfl|(simp [errW_none,errW_some]<;>rfl)|(simp [*,errW_none,errW_some]<;>rfl)|(simp only [str_ne_];rfl)|(simp only [str_eq_];rfl),by repeat (with_reducible first|exact HB.out|apply p3_|apply p1_|apply p2_)⟩

/-! ### pinfoldref1_Under_c: function 81 -/
theorem name_point (z:List Int):nameB (46 :: z)=false:=by
 unfold nameB
 rw [cutL_point,List.all_cons,decide_eq_false (by simp)]
 rfl
/-- what the document says of a name under a zone. -/
theorem refunder_eq_ (s z:ByteArray) (hs:s.size≤8796093022000) (hz:z.size≤8796093022000):pinfoldref1_Under.f s z=some (underB (bytesOf s) (bytesOf z)):=by
 unfold pinfoldref1_Under.f underB
 unfold pinfoldref1_NameMay_c.f
 rw [if_pos hs,if_pos hz]
 simp only [Option.bind_some]
 cases hns:nameB (bytesOf s) with
 | false=>rfl
 | true =>
  cases nameB (bytesOf z) with
  | false=>rfl
  | true =>
   simp only [if_true,Bool.and_self,Bool.true_and]
   by_cases q1:z.size=0
   ·have hn:bytesOf z=[]:=List.length_eq_zero_iff.1 (by rw [bytesOf_length];omega)
    rw [if_pos ((toList_nil z).2 q1),decide_eq_true (show isU (bytesOf s) (bytesOf z) from .inl hn)]
   ·have hn:bytesOf z≠[]:=fun e=>q1 (by rw [←bytesOf_length,e];rfl)
    rw [if_neg (fun e=>q1 ((toList_nil z).1 e))]
    by_cases q2:bytesOf s=bytesOf z
    ·rw [if_pos ((toList_iff s z).2 q2),decide_eq_true (show isU (bytesOf s) (bytesOf z) from .inr (.inl q2))]
    ·rw [if_neg (fun e=>q2 ((toList_iff s z).1 e)),w64 (show -9223372036854775808≤(s.size:Int) - (z.size:Int)∧(s.size:Int) - (z.size:Int)≤9223372036854775807 by omega)]
     have hu:isU (bytesOf s) (bytesOf z) ↔ (46 :: bytesOf z) <:+ bytesOf s:=by
      unfold isU
      constructor
      ·rintro (h|h|h)
       ·exact absurd h hn
       ·exact absurd h q2
       ·exact h
      ·exact fun h=>.inr (.inr h)
     by_cases hd:(s.size:Int) - (z.size:Int) > 1
     ·obtain ⟨d,hd2⟩:∃ d:Nat,s.size=z.size+(d+1):=⟨s.size - z.size - 1,by omega⟩
      have e1:(s.size:Int) - (z.size:Int)=((d+1:Nat):Int):=by omega
      rw [if_pos hd,e1,if_pos (by omega),if_pos (by omega),Int.toNat_natCast,w64 (by omega),show ((d+1:Nat):Int) - 1=(d:Int) by omega]
      have e2:(bytesOf s).drop d=bt s d :: (bytesOf s).drop (d+1):=drop_cons s d (by omega)
      have e3:bytesOf (s.extract (d+1) s.size)=(bytesOf s).drop (d+1):=by
       rw [bytesOf_extract,List.take_of_length_le (by rw [List.length_drop,bytesOf_length];omega)]
      have hiff:isU (bytesOf s) (bytesOf z) ↔ bt s d=46∧(bytesOf s).drop (d+1)=bytesOf z:=by
       rw [hu,List.suffix_iff_eq_drop,List.length_cons,bytesOf_length,bytesOf_length,show s.size - (z.size+1)=d by omega,e2,List.cons.injEq]
       constructor
       ·exact fun h=>⟨h.1.symm,h.2.symm⟩
       ·exact fun h=>⟨h.1.symm,h.2.symm⟩
      by_cases q3:(bytesOf s).drop (d+1)=bytesOf z
      ·rw [if_pos ((toList_iff _ _).2 (by rw [e3,q3])),if_pos (by omega),if_pos (by omega)]
       congr 1
       rw [Bool.eq_iff_iff,beq_iff_eq,decide_eq_true_eq,hiff]
       exact ⟨fun h=>⟨h,q3⟩,fun h=>h.1⟩
      ·rw [if_neg (fun e=>q3 (by rw [←e3];exact (toList_iff _ _).1 e)),decide_eq_false (fun h=>q3 (hiff.1 h).2)]
     ·rw [if_neg hd,decide_eq_false ?_]
      rw [hu]
      intro h
      have hl:=h.length_le
      rw [List.length_cons,bytesOf_length,bytesOf_length] at hl
      have e:=h.eq_of_length (by rw [List.length_cons,bytesOf_length,bytesOf_length];omega)
      rw [←e,name_point] at hns
      cases hns
def pinfoldref1_Under_c.f (a0 a1:ByteArray):Option Bool:=if a0.size≤8796093022000∧a1.size≤8796093022000 then some (underB (bytesOf a0) (bytesOf a1)) else none
theorem pinfoldref1_Under_c.calls (a0 a1:ByteArray) (r:Bool) (w:World) (h:pinfoldref1_Under_c.f a0 a1=some r) :
  Calls Tryz.prog 81 #[.string a0,.string a1] w fun e w'=>e=.returned (.bool r)∧Below w.heap.size w w':=by
 unfold pinfoldref1_Under_c.f at h
 by_cases hs:a0.size≤8796093022000∧a1.size≤8796093022000
 ·rw [if_pos hs] at h
  exact pinfoldref1_Under.calls a0 a1 r w (by rw [refunder_eq_ a0 a1 hs.1 hs.2];exact h)
 ·rw [if_neg hs] at h
  cases h

/-! ### pinfoldref1_within: function 96 -/
def pinfoldref1_within.f (a0:Int) (a1:Int):Option (Bool):=if a0 ≥ 0 then (if 0≤a1 then (some (decide (a0 < (shl .i64 1 a1)))) else (none)) else (some false)
theorem pinfoldref1_within.calls (a0:Int) (a1:Int) (r:Bool) (w:World) (h:pinfoldref1_within.f a0 a1=some r) :
  Calls Tryz.prog 96 #[.int .i64 a0,.int .i64 a1] w fun e w'=>e=.returned (.bool r)∧Drawn0 w w':=by
 have H:(if a0 ≥ 0 then (if 0≤a1 then (some (decide (a0 < (shl .i64 1 a1)))) else (none)) else (some false))=some r:=h
 clear h
 by_cases c3:a0 ≥ 0
 ·rw [if_pos c3] at H
  have c3b0:decide (0≤a0)=true:=decide_eq_true c3
  clear c3
  by_cases c4:0≤a1
  rotate_left
  ·rw [if_neg c4] at H
   exact absurd H (by simp)
  rw [if_pos c4] at H
  have c4b0:=eq_true c4
  have c4b1:decide (0≤a1)=true:=decide_eq_true c4
  clear c4
  obtain ⟨ji5,hji5⟩:∃ j_:Int,(shl .i64 1 a1)=j_:=⟨_,rfl⟩
  replace H:(some (decide (a0 < (ji5))))=some r:=by first|(rw [hji5] at H;exact H)|(simp only [hji5] at H ⊢;exact H)
  have hji5_:(IntKind.i64.wrap (1 * 2 ^ min a1.toNat 64))=ji5:=hji5
  have hji5z:a1≤64→(IntKind.i64.wrap (1 * 2 ^ a1.toNat))=ji5:=shl_small hji5
  have hji5u:(IntKind.i64.wrap (2 ^ min a1.toNat 64))=ji5:=by have h_:=hji5_;rw [Int.one_mul] at h_;exact h_
  have hji5v:a1≤64→(IntKind.i64.wrap (2 ^ a1.toNat))=ji5:=fun hle_=>by have h_:=hji5z hle_;rw [Int.one_mul] at h_;exact h_
  have hji5y:(wrap64 (1 * 2 ^ min a1.toNat 64))=ji5:=(i64_w _).symm.trans hji5_
  have hji5x:a1≤64→(wrap64 (1 * 2 ^ a1.toNat))=ji5:=fun h_=>(i64_w _).symm.trans (hji5z h_)
  obtain rfl:=e5_ H
  go_enter Tryz.func96,Tryz.ntmps96
  go_wp2
  go_ret
  exact ⟨by first|rfl|(simp;done)|(simp only [←hji5]<;>(first|rfl|simp))|(simp [*];done),by repeat (first|exact Drawn0.refl _|apply Drawn0.step)⟩
 rw [if_neg c3] at H
 have c3b0:decide (0≤a0)=false:=decide_eq_false c3
 clear c3
 obtain rfl:=e5_ H
 go_enter Tryz.func96,Tryz.ntmps96
 go_wp2
 go_ret
 exact ⟨by first|rfl|(simp;done)|(simp [*];done),by repeat (first|exact Drawn0.refl _|apply Drawn0.step)⟩

/-! ### pinfoldref1_within_c: function 96 -/
def pinfoldref1_within_c.f (a0:Int) (a1:Int):Option Bool:=if a1=32 then some (wordB a0) else none
theorem pinfoldref1_within_c.calls (a0:Int) (a1:Int) (r:Bool) (w:World) (h:pinfoldref1_within_c.f a0 a1=some r) :
  Calls Tryz.prog 96 #[.int .i64 a0,.int .i64 a1] w fun e w'=>e=.returned (.bool r)∧Drawn0 w w':=by
 unfold pinfoldref1_within_c.f at h
 by_cases hs:a1=32
 ·subst hs
  rw [if_pos rfl] at h
  refine pinfoldref1_within.calls a0 32 r w ?_
  rw [←h]
  unfold pinfoldref1_within.f wordB
  have e:shl .i64 1 32=4294967296:=by kernel_rfl
  rw [e]
  by_cases q:a0 ≥ 0
  ·rw [if_pos q,if_pos (by decide)]
   congr 1
   rw [Bool.eq_iff_iff,decide_eq_true_eq,decide_eq_true_eq]
   omega
  ·rw [if_neg q]
   congr 1
   symm
   rw [decide_eq_false_iff_not]
   omega
 ·rw [if_neg hs] at h
  cases h

/-! ### pinfoldref1_RrMay: function 90 -/
-- BY HAND
def pinfoldref1_RrMay.f (a0_0:ByteArray) (a0_1:Int) (a0_2:Int) (a0_3:Int) (a0_4:ByteArray) (a0_5:ByteArray) (a0_6:Int):Option Bool:=if a0_0.size≤8796093022000∧a0_4.size≤8796093022000 then some (rrB a0_0 a0_1 a0_2 a0_3 a0_4 a0_5 a0_6) else none
theorem pinfoldref1_RrMay.calls (a0_0:ByteArray) (a0_1:Int) (a0_2:Int) (a0_3:Int) (a0_4:ByteArray) (a0_5:ByteArray) (a0_6:Int) (r:Bool) (w:World) (h:pinfoldref1_RrMay.f a0_0 a0_1 a0_2 a0_3 a0_4 a0_5 a0_6=some r) :
  Calls Tryz.prog 90 #[.agg #[.string a0_0,.int .i64 a0_1,.int .i64 a0_2,.int .i64 a0_3,.string a0_4,.string a0_5,.int .i64 a0_6]] w fun e w'=>e=.returned (.bool r)∧Below w.heap.size w w':=by
 unfold pinfoldref1_RrMay.f at h
 by_cases hs:a0_0.size≤8796093022000∧a0_4.size≤8796093022000
 rotate_left
 ·rw [if_neg hs] at h
  cases h
 rw [if_pos hs] at h
 have HR:=am_ (e5_ h)
 obtain ⟨n0,h0⟩:∃ b,nameB (bytesOf a0_0)=b:=⟨_,rfl⟩
 obtain ⟨n4,h4⟩:∃ b,nameB (bytesOf a0_4)=b:=⟨_,rfl⟩
 have C0:=am_ (fun W=>pinfoldref1_NameMay_c.calls a0_0 n0 W (by unfold pinfoldref1_NameMay_c.f;rw [if_pos hs.1,h0]))
 have C4:=am_ (fun W=>pinfoldref1_NameMay_c.calls a0_4 n4 W (by unfold pinfoldref1_NameMay_c.f;rw [if_pos hs.2,h4]))
 have Cw:=am_ (fun x W=>pinfoldref1_within_c.calls x 32 (wordB x) W rfl)
 have H0:=am_ h0
 have H4:=am_ h4
 clear h hs h0 h4
 have T4:=am_ (show a0_4.toList=[]→n4=true from fun e=>by rw [←H4.out,show bytesOf a0_4=[] from List.length_eq_zero_iff.1 (by rw [bytesOf_length];exact (toList_nil _).1 e)];rfl)
 have T5:=am_ (show a0_5.toList=[]→a0_5.size=0 from fun e=>(toList_nil _).1 e)
 have HB:=am_ (Below.refl w.heap.size w)
 go_enter Tryz.func90,Tryz.ntmps90
 go_wp2_with (first
  | (go_at_call 28;first|((with_reducible refine (C0.out _).mono ?_);rintro e w1 ⟨rfl,hb1⟩;have hy1:w.heap.size < w1.heap.size:=(by have:=hb1.size;simp at this;omega);have hk1:=kept_ hb1 w.heap.size (by first|(simp;done)|(simp;omega));replace HB:=am_ (bt_ (show Below w.heap.size w _ by repeat (with_reducible first|exact HB.out|apply p3_|apply p1_|apply p2_|refine Below.setCell ?_ (by simp) _)) hb1);clear hb1)|((with_reducible refine (C4.out _).mono ?_);rintro e w2 ⟨rfl,hb2⟩;have hy2:w.heap.size < w2.heap.size:=(by have:=hb2.size;simp at this;omega);have hk2:=kept_ hb2 w.heap.size (by first|(simp;done)|(simp;omega));replace HB:=am_ (bt_ (show Below w.heap.size w _ by repeat (with_reducible first|exact HB.out|apply p3_|apply p1_|apply p2_|refine Below.setCell ?_ (by simp) _)) hb2);clear hb2))
  | (go_at_call 96;(with_reducible refine (Cw.out _ _).mono ?_);rintro e w3 ⟨rfl,⟨nd,rfl⟩⟩))
 all_goals go_ret
 all_goals refine ⟨ret_bool ?_,?_⟩
 all_goals first
  | ((repeat (with_reducible first|exact HB.out|apply p3_|apply p1_|apply p2_|refine Below.setCell ?_ (by simp) _));done)
  | (have e0:=H0.out;have e4:=H4.out;have t4:=T4.out;have t5:=T5.out;have w0:wordB 0=true:=rfl;rw [←HR.out];simp only [rrB,e0,e4];clear HR C0 C4 Cw H0 H4;simp_all<;>omega)

/-! ### pinfoldref11_staticMay: function 80 -/
-- BY HAND
def pinfoldref11_staticMay.f (a0_0:ByteArray) (a0_1:Int) (a0_2:Int) (a0_3:Int) (a0_4:ByteArray) (a0_5:ByteArray) (a0_6:Int) (a1:ByteArray):Option Bool:=if a0_0.size≤8796093022000∧a0_4.size≤8796093022000∧a1.size≤8796093022000 then some (staticB a1 ⟨a0_0,a0_1,a0_2,a0_3,a0_4,a0_5,a0_6⟩) else none
theorem pinfoldref11_staticMay.calls (a0_0:ByteArray) (a0_1:Int) (a0_2:Int) (a0_3:Int) (a0_4:ByteArray) (a0_5:ByteArray) (a0_6:Int) (a1:ByteArray) (r:Bool) (w:World) (h:pinfoldref11_staticMay.f a0_0 a0_1 a0_2 a0_3 a0_4 a0_5 a0_6 a1=some r) :
  Calls Tryz.prog 80 #[.agg #[.string a0_0,.int .i64 a0_1,.int .i64 a0_2,.int .i64 a0_3,.string a0_4,.string a0_5,.int .i64 a0_6],.string a1] w fun e w'=>e=.returned (.bool r)∧Below w.heap.size w w':=by
 unfold pinfoldref11_staticMay.f at h
 by_cases hs:a0_0.size≤8796093022000∧a0_4.size≤8796093022000∧a1.size≤8796093022000
 rotate_left
 ·rw [if_neg hs] at h
  cases h
 rw [if_pos hs] at h
 have HR:=e5_ h
 unfold staticB at HR
 obtain ⟨b1,h1⟩:∃ b,rrB a0_0 a0_1 a0_2 a0_3 a0_4 a0_5 a0_6=b:=⟨_,rfl⟩
 obtain ⟨b2,h2⟩:∃ b,underB (bytesOf a0_0) (bytesOf a1)=b:=⟨_,rfl⟩
 simp only [h1,h2] at HR
 have C1:=am_ (fun W=>pinfoldref1_RrMay.calls a0_0 a0_1 a0_2 a0_3 a0_4 a0_5 a0_6 b1 W (by unfold pinfoldref1_RrMay.f;rw [if_pos ⟨hs.1,hs.2.1⟩,h1]))
 have C2:=am_ (fun W=>pinfoldref1_Under_c.calls a0_0 a1 b2 W (by unfold pinfoldref1_Under_c.f;rw [if_pos ⟨hs.1,hs.2.2⟩,h2]))
 replace HR:=am_ HR
 have HB:=am_ (Below.refl w.heap.size w)
 clear h hs h1 h2
 go_enter Tryz.func80,Tryz.ntmps80
 go_wp2_with (first
  | (go_at_call 90;(with_reducible refine (C1.out _).mono ?_);rintro e w1 ⟨rfl,hb1⟩;have hy1:w.heap.size < w1.heap.size:=(by have:=hb1.size;simp at this;omega);have hk1:=kept_ hb1 w.heap.size (by first|(simp;done)|(simp;omega));replace HB:=am_ (bt_ (show Below w.heap.size w _ by repeat (with_reducible first|exact HB.out|apply p3_|apply p1_|apply p2_)) hb1);clear hb1)
  | (go_at_call 81;(with_reducible refine (C2.out _).mono ?_);rintro e w2 ⟨rfl,hb1⟩;replace HB:=am_ (bt_ (show Below w.heap.size w _ by repeat (with_reducible first|exact HB.out|apply p3_|apply p1_|apply p2_)) hb1);clear hb1))
 all_goals go_ret
 all_goals refine ⟨ret_bool ?_,?_⟩
 all_goals first
  | ((repeat (with_reducible first|exact HB.out|apply p3_|apply p1_|apply p2_));done)
  | (rw [←HR.out];clear HR C1 C2 HB;simp_all<;>omega)

/-! ### pinfoldref11_ConfMay: function 56 -/
-- BY HAND
-- 28 79 58 80
-- inc refconfmay.inc
section
variable {r:Bool} {a0 a1:Int} {l2:List Int} {l3:List S95} {a4:Int} {z:ByteArray} {l6:List S93} {n5:Bool} {L:List ByteArray}
theorem conf_no (h5:nameB (bytesOf z)=n5) (hL:labelsS z=L) (HR:confB a0 a1 l2 l3 a4 z l6=r) (e:¬ (2≤a0∧a0≤a1∧a1≤254∧a1 - a0 < 8∧l2.length≤8∧l3.length≤4∧1≤a4∧a4≤1048576∧z.toList≠[]∧n5=true∧L.length≤4∧l6.length≤8)):false=r:=by
 rw [←HR]
 symm
 rw [Bool.eq_false_iff]
 intro e2
 unfold confB hostsB reservedB staticsB hostsB at e2
 rw [h5,hL] at e2
 simp only [Bool.and_eq_true,decide_eq_true_eq,List.length_map] at e2
 exact e ⟨e2.1.1.1,e2.1.1.2.1,e2.1.1.2.2.1,e2.1.1.2.2.2,by omega,by omega,e2.2.1.1,e2.2.1.2,e2.1.2.1,e2.1.2.2.1,e2.1.2.2.2,by omega⟩
/-- what the loops ask. -/
def hostsIn (a b:Int) (l:List Int):Prop:=(∀x∈l,a≤x∧x≤b)∧l.Nodup
def resIn (a b:Int) (l:List S95):Prop:=(∀x∈l,a≤x.f1∧x.f1≤b∧clientB x.f0=true)∧(l.map fun x=>x.f1).Nodup∧(l.map fun x=>x.f0.data.toList).Nodup
theorem conf_yes (h5:nameB (bytesOf z)=n5) (hL:labelsS z=L) (HR:confB a0 a1 l2 l3 a4 z l6=r) (e:2≤a0∧a0≤a1∧a1≤254∧a1 - a0 < 8∧l2.length≤8∧l3.length≤4∧1≤a4∧a4≤1048576∧z.toList≠[]∧n5=true∧L.length≤4∧l6.length≤8):r=true ↔ hostsIn a0 a1 l2∧resIn a0 a1 l3∧l6.all (staticB z)=true:=by
 rw [←HR]
 unfold confB hostsB reservedB staticsB hostsB hostsIn resIn
 rw [h5,hL]
 simp only [Bool.and_eq_true,decide_eq_true_eq,List.length_map,List.all_eq_true,List.mem_map]
 constructor
 ·rintro ⟨_,_,⟨h1,h2,_⟩,⟨h3,h4,h6,h7,_⟩,h8,_⟩
  exact ⟨⟨h1,h2⟩,⟨fun x hx=>⟨(h6 _ ⟨x,hx,rfl⟩).1,(h6 _ ⟨x,hx,rfl⟩).2,h3 x hx⟩,h7,h4⟩,h8⟩
 ·rintro ⟨⟨h1,h2⟩,⟨h3,h4,h6⟩,h7⟩
  refine ⟨⟨⟨e.1,e.2.1,e.2.2.1,e.2.2.2.1⟩,e.2.2.2.2.2.2.2.2.1,e.2.2.2.2.2.2.2.2.2.1,e.2.2.2.2.2.2.2.2.2.2.1⟩,⟨e.2.2.2.2.2.2.1,e.2.2.2.2.2.2.2.1⟩,⟨h1,h2,by omega⟩,⟨fun x hx=>(h3 x hx).2.2,h6,?_,h4,by omega⟩,h7,by omega⟩
  rintro _ ⟨x,hx,rfl⟩
  exact ⟨(h3 x hx).1,(h3 x hx).2.1⟩
end
theorem no_of {r:Bool} {p:Prop} (h:r=true ↔ p) (hn:¬ p):false=r:=by
 cases r with
 | false=>rfl
 | true=>exact absurd (h.1 rfl) hn
theorem hosts_take {a b:Int} (l:List Int) (i:Int) (h0:0≤i) (h1:i < l.length):(hostsIn a b l→(a≤rd l i∧rd l i≤b)∧rd l i∉l.take i.toNat)∧(hostsIn a b (l.take i.toNat)→a≤rd l i∧rd l i≤b→rd l i∉l.take i.toNat→hostsIn a b (l.take (i.toNat+1))):=by
 have h:i.toNat < l.length:=by omega
 have e:rd l i=l[i.toNat]:=by
  unfold rd
  rw [List.getD_eq_getElem?_getD,List.getElem?_eq_getElem h]
  rfl
 have et:l.take (i.toNat+1)=l.take i.toNat ++ [rd l i]:=by rw [e,List.take_succ_eq_append_getElem h]
 refine ⟨fun hh=>⟨hh.1 _ (by rw [e];exact List.getElem_mem h),fun hm=>?_⟩,fun hh hr hn=>?_⟩
 ·have h3:(l.take (i.toNat+1)).Nodup:=hh.2.sublist (List.take_sublist _ _)
  rw [et] at h3
  unfold List.Nodup at h3
  rw [List.pairwise_append] at h3
  exact h3.2.2 _ hm _ (List.mem_singleton.2 rfl) rfl
 ·rw [et]
  refine ⟨fun y hy=>?_,nodup_snoc _ _ hh.2 hn⟩
  rw [List.mem_append,List.mem_singleton] at hy
  rcases hy with hy|rfl
  ·exact hh.1 y hy
  ·exact hr
theorem take_rd (l:List Int) (j:Int) (h0:0≤j) (h1:j < l.length):l.take (j.toNat+1)=l.take j.toNat ++ [rd l j]:=by
 have h:j.toNat < l.length:=by omega
 have e:=rd_take_succ l j.toNat h
 rw [Int.toNat_of_nonneg h0] at e
 exact e
theorem take_mem (l:List Int) (i j:Int) (h0:0≤j) (h:j < i) (h1:i≤l.length):rd l j∈l.take i.toNat:=by
 have hj:j.toNat < l.length:=by omega
 have e:rd l j=l[j.toNat]:=by
  unfold rd
  rw [List.getD_eq_getElem?_getD,List.getElem?_eq_getElem hj]
  rfl
 rw [e,List.mem_take_iff_getElem]
 exact ⟨j.toNat,by omega,rfl⟩
theorem rdR_eq (l:List S95) (j:Int) (h0:0≤j) (h1:j < l.length):rd_T95 l j=l[j.toNat]'(by omega):=by
 unfold rd_T95
 rw [List.getD_eq_getElem?_getD,List.getElem?_eq_getElem (by omega)]
 rfl
theorem takeR_rd (l:List S95) (j:Int) (h0:0≤j) (h1:j < l.length):l.take (j.toNat+1)=l.take j.toNat ++ [rd_T95 l j]:=by
 rw [rdR_eq l j h0 h1,List.take_succ_eq_append_getElem (by omega)]
theorem takeR_mem (l:List S95) (i j:Int) (h0:0≤j) (h:j < i) (h1:i≤l.length):rd_T95 l j∈l.take i.toNat:=by
 rw [rdR_eq l j h0 (by omega),List.mem_take_iff_getElem]
 exact ⟨j.toNat,by omega,rfl⟩
theorem res_take {a b:Int} (l:List S95) (i:Int) (h0:0≤i) (h1:i < l.length):(resIn a b l→(a≤(rd_T95 l i).f1∧(rd_T95 l i).f1≤b∧clientB (rd_T95 l i).f0=true)∧∀ y∈l.take i.toNat,y.f1≠(rd_T95 l i).f1∧y.f0.data.toList≠(rd_T95 l i).f0.data.toList)∧(resIn a b (l.take i.toNat)→(a≤(rd_T95 l i).f1∧(rd_T95 l i).f1≤b∧clientB (rd_T95 l i).f0=true)→(∀y∈l.take i.toNat,y.f1≠(rd_T95 l i).f1∧y.f0.data.toList≠(rd_T95 l i).f0.data.toList)→resIn a b (l.take (i.toNat+1))):=by
 have et:=takeR_rd l i h0 h1
 have hm:rd_T95 l i∈l:=by rw [rdR_eq l i h0 h1];exact List.getElem_mem _
 generalize rd_T95 l i=x at et hm
 refine ⟨fun hh=>⟨hh.1 _ hm,fun y hy=>⟨fun e=>?_,fun e=>?_⟩⟩,fun hh hr hn=>?_⟩
 ·have h3:((l.take (i.toNat+1)).map fun x=>x.f1).Nodup:=hh.2.1.sublist ((List.take_sublist _ _).map _)
  rw [et,List.map_append] at h3
  unfold List.Nodup at h3
  rw [List.pairwise_append] at h3
  exact h3.2.2 _ (List.mem_map.2 ⟨y,hy,rfl⟩) _ (List.mem_map.2 ⟨x,List.mem_singleton.2 rfl,rfl⟩) e
 ·have h3:((l.take (i.toNat+1)).map fun x=>x.f0.data.toList).Nodup:=hh.2.2.sublist ((List.take_sublist _ _).map _)
  rw [et,List.map_append] at h3
  unfold List.Nodup at h3
  rw [List.pairwise_append] at h3
  exact h3.2.2 _ (List.mem_map.2 ⟨y,hy,rfl⟩) _ (List.mem_map.2 ⟨x,List.mem_singleton.2 rfl,rfl⟩) e
 ·rw [et]
  refine ⟨fun y hy=>?_,?_,?_⟩
  ·rw [List.mem_append,List.mem_singleton] at hy
   rcases hy with hy|rfl
   ·exact hh.1 y hy
   ·exact hr
  ·rw [List.map_append]
   exact nodup_snoc _ _ hh.2.1 (fun hx=>by obtain ⟨y,hy,e⟩:=List.mem_map.1 hx;exact (hn y hy).1 e)
  ·rw [List.map_append]
   exact nodup_snoc _ _ hh.2.2 (fun hx=>by obtain ⟨y,hy,e⟩:=List.mem_map.1 hx;exact (hn y hy).2 e)
theorem clientMay_eq (s:ByteArray):pinfoldref11_clientMay.f s=some (clientB s):=by
 unfold pinfoldref11_clientMay.f clientB
 by_cases h1:(s.size:Int) ≥ 1
 ·rw [if_pos h1,Option.some.injEq,decide_eq_decide]
  omega
 ·rw [if_neg h1,Option.some.injEq,eq_comm,decide_eq_false_iff_not]
  omega
/-- where a record, a zone's name and the records lie. -/
def confMayS (p q0 q1 q2 q3 q4 q5 q6:Addr) (f0:ByteArray) (f1 f2 f3:Int) (f4 f5:ByteArray) (f6:Int) (g:Nat) (z:ByteArray) (v6:Value) (w':World):Prop:=w'.cell? q0=some (.string f0)∧w'.cell? q1=some (.int .i64 f1)∧w'.cell? q2=some (.int .i64 f2)∧w'.cell? q3=some (.int .i64 f3)∧w'.cell? q4=some (.string f4)∧w'.cell? q5=some (.string f5)∧w'.cell? q6=some (.int .i64 f6)∧w'.cell? ⟨g,5,none⟩=some (.string z)∧w'.cell? ⟨g,6,none⟩=some v6
theorem confMayS_below {p q0 q1 q2 q3 q4 q5 q6:Addr} {f0:ByteArray} {f1 f2 f3:Int} {f4 f5:ByteArray} {f6:Int} {g:Nat} {z:ByteArray} {v6:Value} {w w2:World} (h:confMayS p q0 q1 q2 q3 q4 q5 q6 f0 f1 f2 f3 f4 f5 f6 g z v6 w) (hb:Below w.heap.size w w2):confMayS p q0 q1 q2 q3 q4 q5 q6 f0 f1 f2 f3 f4 f5 f6 g z v6 w2:=by
 obtain ⟨s0,s1,s2,s3,s4,s5,s6,s7,s8⟩:=h
 exact ⟨(hb.cell (wb_ _ _ s0)).trans s0,(hb.cell (wb_ _ _ s1)).trans s1,(hb.cell (wb_ _ _ s2)).trans s2,(hb.cell (wb_ _ _ s3)).trans s3,(hb.cell (wb_ _ _ s4)).trans s4,(hb.cell (wb_ _ _ s5)).trans s5,(hb.cell (wb_ _ _ s6)).trans s6,(hb.cell (wb_ _ _ s7)).trans s7,(hb.cell (wb_ _ _ s8)).trans s8⟩
theorem rdS_eq (l:List S93) (j:Int) (h0:0≤j) (h1:j < l.length):l.take (j.toNat+1)=l.take j.toNat ++ [rd_T93 l j]∧rd_T93 l j∈l:=by
 have e:rd_T93 l j=l[j.toNat]'(by omega):=by
  unfold rd_T93
  rw [List.getD_eq_getElem?_getD,List.getElem?_eq_getElem (by omega)]
  rfl
 rw [e,List.take_succ_eq_append_getElem (by omega)]
 exact ⟨rfl,List.getElem_mem _⟩
def pinfoldref11_ConfMay.f (a0_0:Int) (a0_1:Int) (l0_2:List Int) (l0_3:List S95) (a0_4:Int) (a0_5:ByteArray) (l0_6:List S93):Option Bool:=if confFitR l0_2 l0_3 a0_5 l0_6 then some (confB a0_0 a0_1 l0_2 l0_3 a0_4 a0_5 l0_6) else none
/-- what may not be, ahead of the loops. -/
theorem pinfoldref11_ConfMay.no (a0_0:Int) (a0_1:Int) (A0_2:Option Addr) (c0_2:Nat) (l0_2:List Int) (A0_3:Option Addr) (c0_3:Nat) (l0_3:List S95) (a0_4:Int) (a0_5:ByteArray) (A0_6:Option Addr) (c0_6:Nat) (l0_6:List S93) (w:World) (n5:Bool) (L:List ByteArray) (fz:a0_5.size≤8796093022000) (h5:nameB (bytesOf a0_5)=n5) (hL:labelsS a0_5=L) (hq:¬ (2≤a0_0∧a0_0≤a0_1∧a0_1≤254∧a0_1 - a0_0 < 8∧l0_2.length≤8∧l0_3.length≤4∧1≤a0_4∧a0_4≤1048576∧a0_5.toList≠[]∧n5=true∧L.length≤4∧l0_6.length≤8)) :
  Calls Tryz.prog 56 #[.agg #[.int .i64 a0_0,.int .i64 a0_1,.slice A0_2 l0_2.length c0_2,.slice A0_3 l0_3.length c0_3,.int .i64 a0_4,.string a0_5,.slice A0_6 l0_6.length c0_6]] w fun e w'=>e=.returned (.bool false)∧Below w.heap.size w w':=by
 have CN:=am_ (fun W=>pinfoldref1_NameMay_c.calls a0_5 n5 W (by unfold pinfoldref1_NameMay_c.f;rw [if_pos (by omega),h5]))
 have CL:=am_ (fun W=>pinfoldref1_Labels_c.calls a0_5 L W (by unfold pinfoldref1_Labels_c.f;rw [if_pos (by omega),hL]))
 have HB:=am_ (Below.refl w.heap.size w)
 have BK:=am_ (blk_new w (.cells #[.int .i64 a0_0,.int .i64 a0_1,.slice A0_2 l0_2.length c0_2,.slice A0_3 l0_3.length c0_3,.int .i64 a0_4,.string a0_5,.slice A0_6 l0_6.length c0_6] 26))
 replace hq:=am_ hq
 clear h5 hL fz
 by_cases c1:a0_0 < 2
 ·clear hq CN CL BK
  go_enter Tryz.func56,Tryz.ntmps56
  go_wp2
  go_ret
  exact ⟨rfl,(by repeat (with_reducible first|exact HB.out|apply p3_|apply p1_|apply p2_))⟩
 by_cases c2:254 < a0_1
 ·clear hq CN CL BK
  go_enter Tryz.func56,Tryz.ntmps56
  go_wp2
  go_ret
  exact ⟨rfl,(by repeat (with_reducible first|exact HB.out|apply p3_|apply p1_|apply p2_))⟩
 by_cases c3:a0_1 < a0_0
 ·clear hq CN CL BK
  go_enter Tryz.func56,Tryz.ntmps56
  go_wp2
  go_ret
  exact ⟨rfl,(by repeat (with_reducible first|exact HB.out|apply p3_|apply p1_|apply p2_))⟩
 by_cases c4:8≤a0_1 - a0_0
 ·clear hq CN CL BK
  go_enter Tryz.func56,Tryz.ntmps56
  go_wp2
  go_ret
  exact ⟨rfl,(by repeat (with_reducible first|exact HB.out|apply p3_|apply p1_|apply p2_))⟩
 by_cases c5:(8:Int) < (l0_2.length:Int)
 ·clear hq CN CL BK
  go_enter Tryz.func56,Tryz.ntmps56
  go_wp2
  go_ret
  exact ⟨rfl,(by repeat (with_reducible first|exact HB.out|apply p3_|apply p1_|apply p2_))⟩
 by_cases c6:(4:Int) < (l0_3.length:Int)
 ·clear hq CN CL BK
  go_enter Tryz.func56,Tryz.ntmps56
  go_wp2
  go_ret
  exact ⟨rfl,(by repeat (with_reducible first|exact HB.out|apply p3_|apply p1_|apply p2_))⟩
 by_cases c7:a0_4 < 1
 ·clear hq CN CL BK
  go_enter Tryz.func56,Tryz.ntmps56
  go_wp2
  go_ret
  exact ⟨rfl,(by repeat (with_reducible first|exact HB.out|apply p3_|apply p1_|apply p2_))⟩
 by_cases c8:1048576 < a0_4
 ·clear hq CN CL BK
  go_enter Tryz.func56,Tryz.ntmps56
  go_wp2
  go_ret
  exact ⟨rfl,(by repeat (with_reducible first|exact HB.out|apply p3_|apply p1_|apply p2_))⟩
 by_cases c9:a0_5.toList=[]
 ·clear hq CN CL BK
  have c9b:a0_5.toList.isEmpty=true:=by simp [c9]
  go_enter Tryz.func56,Tryz.ntmps56
  go_wp2
  go_ret
  exact ⟨rfl,(by repeat (with_reducible first|exact HB.out|apply p3_|apply p1_|apply p2_))⟩
 have c9b:a0_5.toList.isEmpty=false:=by simpa using c9
 cases n5 with
 | false =>
  clear hq CL
  go_enter Tryz.func56,Tryz.ntmps56
  go_wp2_with (first|(go_at_call 28;(with_reducible refine (CN.out _).mono ?_);rintro e w1 ⟨rfl,hb2⟩;replace BK:=am_ (kb_ (blk_new w (.cells #[.int .i64 a0_0,.int .i64 a0_1,.slice A0_2 l0_2.length c0_2,.slice A0_3 l0_3.length c0_3,.int .i64 a0_4,.string a0_5,.slice A0_6 l0_6.length c0_6] 26)) hb2);replace HB:=am_ (bt_ (p3_ HB.out (.cells #[.int .i64 a0_0,.int .i64 a0_1,.slice A0_2 l0_2.length c0_2,.slice A0_3 l0_3.length c0_3,.int .i64 a0_4,.string a0_5,.slice A0_6 l0_6.length c0_6] 26)) hb2);clear hb2;have u0:=bc_ BK.out 0;have u1:=bc_ BK.out 1;have u2:=bc_ BK.out 2;have u3:=bc_ BK.out 3;have u4:=bc_ BK.out 4;have u5:=bc_ BK.out 5;have u6:=bc_ BK.out 6))
  go_ret
  exact ⟨rfl,(by repeat (with_reducible first|exact HB.out|apply p3_|apply p1_|apply p2_))⟩
 | true =>
 by_cases c11:(4:Int) < (L.length:Int)
 ·clear hq
  go_enter Tryz.func56,Tryz.ntmps56
  go_wp2_with (first|(go_at_call 28;(with_reducible refine (CN.out _).mono ?_);rintro e w1 ⟨rfl,hb2⟩;replace BK:=am_ (kb_ (blk_new w (.cells #[.int .i64 a0_0,.int .i64 a0_1,.slice A0_2 l0_2.length c0_2,.slice A0_3 l0_3.length c0_3,.int .i64 a0_4,.string a0_5,.slice A0_6 l0_6.length c0_6] 26)) hb2);replace HB:=am_ (bt_ (p3_ HB.out (.cells #[.int .i64 a0_0,.int .i64 a0_1,.slice A0_2 l0_2.length c0_2,.slice A0_3 l0_3.length c0_3,.int .i64 a0_4,.string a0_5,.slice A0_6 l0_6.length c0_6] 26)) hb2);clear hb2;have u0:=bc_ BK.out 0;have u1:=bc_ BK.out 1;have u2:=bc_ BK.out 2;have u3:=bc_ BK.out 3;have u4:=bc_ BK.out 4;have u5:=bc_ BK.out 5;have u6:=bc_ BK.out 6)|(go_at_call 79;(with_reducible refine (CL.out _).mono ?_);rintro e w2 ⟨v,rfl,hR,hb2⟩;obtain ⟨A,c,rfl,hcl,hCl⟩:=Kd.R_reads hR;clear hcl hCl hR;replace BK:=am_ (kb_ BK.out hb2);replace HB:=am_ (bt_ HB.out hb2);clear hb2;clear u0 u1 u2 u3 u4 u5 u6;have u0:=bc_ BK.out 0;have u1:=bc_ BK.out 1;have u2:=bc_ BK.out 2;have u3:=bc_ BK.out 3;have u4:=bc_ BK.out 4;have u5:=bc_ BK.out 5;have u6:=bc_ BK.out 6))
  go_ret
  exact ⟨rfl,(by repeat (with_reducible first|exact HB.out|apply p3_|apply p1_|apply p2_))⟩
 by_cases c12:(8:Int) < (l0_6.length:Int)
 ·clear hq
  go_enter Tryz.func56,Tryz.ntmps56
  go_wp2_with (first|(go_at_call 28;(with_reducible refine (CN.out _).mono ?_);rintro e w1 ⟨rfl,hb2⟩;replace BK:=am_ (kb_ (blk_new w (.cells #[.int .i64 a0_0,.int .i64 a0_1,.slice A0_2 l0_2.length c0_2,.slice A0_3 l0_3.length c0_3,.int .i64 a0_4,.string a0_5,.slice A0_6 l0_6.length c0_6] 26)) hb2);replace HB:=am_ (bt_ (p3_ HB.out (.cells #[.int .i64 a0_0,.int .i64 a0_1,.slice A0_2 l0_2.length c0_2,.slice A0_3 l0_3.length c0_3,.int .i64 a0_4,.string a0_5,.slice A0_6 l0_6.length c0_6] 26)) hb2);clear hb2;have u0:=bc_ BK.out 0;have u1:=bc_ BK.out 1;have u2:=bc_ BK.out 2;have u3:=bc_ BK.out 3;have u4:=bc_ BK.out 4;have u5:=bc_ BK.out 5;have u6:=bc_ BK.out 6)|(go_at_call 79;(with_reducible refine (CL.out _).mono ?_);rintro e w2 ⟨v,rfl,hR,hb2⟩;obtain ⟨A,c,rfl,hcl,hCl⟩:=Kd.R_reads hR;clear hcl hCl hR;replace BK:=am_ (kb_ BK.out hb2);replace HB:=am_ (bt_ HB.out hb2);clear hb2;clear u0 u1 u2 u3 u4 u5 u6;have u0:=bc_ BK.out 0;have u1:=bc_ BK.out 1;have u2:=bc_ BK.out 2;have u3:=bc_ BK.out 3;have u4:=bc_ BK.out 4;have u5:=bc_ BK.out 5;have u6:=bc_ BK.out 6))
  go_ret
  exact ⟨rfl,(by repeat (with_reducible first|exact HB.out|apply p3_|apply p1_|apply p2_))⟩
 exact absurd ⟨by omega,by omega,by omega,by omega,by omega,by omega,by omega,by omega,c9,rfl,by omega,by omega⟩ hq.out
theorem pinfoldref11_ConfMay.calls (a0_0:Int) (a0_1:Int) (A0_2:Option Addr) (c0_2:Nat) (l0_2:List Int) (A0_3:Option Addr) (c0_3:Nat) (l0_3:List S95) (a0_4:Int) (a0_5:ByteArray) (A0_6:Option Addr) (c0_6:Nat) (l0_6:List S93) (r:Bool) (w:World) (hr0_2:Kd.C (Kd.int .i64) w A0_2 l0_2.length l0_2) (hc0_2:l0_2.length≤c0_2) (hr0_3:Kd.C k95 w A0_3 l0_3.length l0_3) (hc0_3:l0_3.length≤c0_3) (hr0_6:Kd.C k93 w A0_6 l0_6.length l0_6) (hc0_6:l0_6.length≤c0_6) (h:pinfoldref11_ConfMay.f a0_0 a0_1 l0_2 l0_3 a0_4 a0_5 l0_6=some r) :
  Calls Tryz.prog 56 #[.agg #[.int .i64 a0_0,.int .i64 a0_1,.slice A0_2 l0_2.length c0_2,.slice A0_3 l0_3.length c0_3,.int .i64 a0_4,.string a0_5,.slice A0_6 l0_6.length c0_6]] w fun e w'=>e=.returned (.bool r)∧Below w.heap.size w w':=by
 unfold pinfoldref11_ConfMay.f at h
 by_cases hs:confFitR l0_2 l0_3 a0_5 l0_6
 rotate_left
 ·rw [if_neg hs] at h
  cases h
 rw [if_pos hs] at h
 have HR:=e5_ h
 obtain ⟨f2,f3,fz,f6,fx⟩:=hs
 obtain ⟨n5,h5⟩:∃ b,nameB (bytesOf a0_5)=b:=⟨_,rfl⟩
 obtain ⟨L,hL⟩:∃ b,labelsS a0_5=b:=⟨_,rfl⟩
 by_cases hq:2≤a0_0∧a0_0≤a0_1∧a0_1≤254∧a0_1 - a0_0 < 8∧l0_2.length≤8∧l0_3.length≤4∧1≤a0_4∧a0_4≤1048576∧a0_5.toList≠[]∧n5=true∧L.length≤4∧l0_6.length≤8
 rotate_left
 ·have hf:=conf_no (r:=r) h5 hL HR hq
  refine (pinfoldref11_ConfMay.no a0_0 a0_1 A0_2 c0_2 l0_2 A0_3 c0_3 l0_3 a0_4 a0_5 A0_6 c0_6 l0_6 w n5 L fz h5 hL hq).mono ?_
  rintro e w' ⟨rfl,hb⟩
  exact ⟨ret_bool hf,hb⟩
 have q2:=conf_yes (r:=r) h5 hL HR hq
 obtain ⟨c1,c2,c3,c4,c5,c6,c7,c8,c9,rfl,c11,c12⟩:=hq
 have CN:=am_ (fun W=>pinfoldref1_NameMay_c.calls a0_5 true W (by unfold pinfoldref1_NameMay_c.f;rw [if_pos (by omega),h5]))
 have CL:=am_ (fun W=>pinfoldref1_Labels_c.calls a0_5 L W (by unfold pinfoldref1_Labels_c.f;rw [if_pos (by omega),hL]))
 have HR2:=am_ hr0_2
 have HR3:=am_ hr0_3
 have HR6:=am_ hr0_6
 have HF:=am_ (And.intro fz fx)
 replace q2:=am_ q2
 have HB:=am_ (Below.refl w.heap.size w)
 have BK:=am_ (blk_new w (.cells #[.int .i64 a0_0,.int .i64 a0_1,.slice A0_2 l0_2.length c0_2,.slice A0_3 l0_3.length c0_3,.int .i64 a0_4,.string a0_5,.slice A0_6 l0_6.length c0_6] 26))
 clear h5 hL HR h hr0_2 hr0_3 hr0_6 hc0_2 hc0_3 hc0_6 f2 f3 fz f6 fx
 replace c1:¬ a0_0 < 2:=by omega
 replace c3:¬ 254 < a0_1:=by omega
 replace c2:¬ a0_1 < a0_0:=by omega
 replace c4:¬ 8≤a0_1 - a0_0:=by omega
 replace c5:¬ (8:Int) < (l0_2.length:Int):=by omega
 replace c6:¬ (4:Int) < (l0_3.length:Int):=by omega
 replace c7:¬ a0_4 < 1:=by omega
 replace c8:¬ 1048576 < a0_4:=by omega
 replace c11:¬ (4:Int) < (L.length:Int):=by omega
 replace c12:¬ (8:Int) < (l0_6.length:Int):=by omega
 have c9b:a0_5.toList.isEmpty=false:=by simpa using c9
 go_enter Tryz.func56,Tryz.ntmps56
 go_wp2_with (first|(go_at_call 28;(with_reducible refine (CN.out _).mono ?_);rintro e w1 ⟨rfl,hb2⟩;replace BK:=am_ (kb_ (blk_new w (.cells #[.int .i64 a0_0,.int .i64 a0_1,.slice A0_2 l0_2.length c0_2,.slice A0_3 l0_3.length c0_3,.int .i64 a0_4,.string a0_5,.slice A0_6 l0_6.length c0_6] 26)) hb2);replace HB:=am_ (bt_ (p3_ HB.out (.cells #[.int .i64 a0_0,.int .i64 a0_1,.slice A0_2 l0_2.length c0_2,.slice A0_3 l0_3.length c0_3,.int .i64 a0_4,.string a0_5,.slice A0_6 l0_6.length c0_6] 26)) hb2);clear hb2;have u0:=bc_ BK.out 0;have u1:=bc_ BK.out 1;have u2:=bc_ BK.out 2;have u3:=bc_ BK.out 3;have u4:=bc_ BK.out 4;have u5:=bc_ BK.out 5;have u6:=bc_ BK.out 6)|(go_at_call 79;(with_reducible refine (CL.out _).mono ?_);rintro e w2 ⟨v,rfl,hR,hb2⟩;obtain ⟨A,c,rfl,hcl,hCl⟩:=Kd.R_reads hR;clear hcl hCl hR;replace BK:=am_ (kb_ BK.out hb2);replace HB:=am_ (bt_ HB.out hb2);clear hb2;clear u0 u1 u2 u3 u4 u5 u6;have u0:=bc_ BK.out 0;have u1:=bc_ BK.out 1;have u2:=bc_ BK.out 2;have u3:=bc_ BK.out 3;have u4:=bc_ BK.out 4;have u5:=bc_ BK.out 5;have u6:=bc_ BK.out 6))
 clear u0 u1 u2 u3 u4 u5 u6 CN CL
 clear c1 c2 c3 c4 c7 c8 c9 c9b c11
 go_loopg [3] l0_2.length (fun d v3 w'=>∃ i:Int,0≤i∧i.toNat+d=l0_2.length∧v3=.int .i64 i∧Aside0 (Below w.heap.size w w')∧Aside0 (w'.heap[w.heap.size]?=some (.cells #[.int .i64 a0_0,.int .i64 a0_1,.slice A0_2 l0_2.length c0_2,.slice A0_3 l0_3.length c0_3,.int .i64 a0_4,.string a0_5,.slice A0_6 l0_6.length c0_6] 26))∧Aside0 (hostsIn a0_0 a0_1 (l0_2.take i.toNat)))
 case atStart=>exact ⟨0,by omega,by simp,rfl,HB,BK,⟨⟨fun _ h=>by simp at h,List.nodup_nil⟩⟩⟩
 case round =>
  clear HB BK
  obtain ⟨i,hi0,hd,rfl,HB,BK,HI⟩:=hrel
  by_cases hlt:i < (l0_2.length:Int)
  ·have u0:=(bc_ BK.out 0).trans (show _=some _ from rfl);have u1:=(bc_ BK.out 1).trans (show _=some _ from rfl);have u2:=(bc_ BK.out 2).trans (show _=some _ from rfl);have u3:=(bc_ BK.out 3).trans (show _=some _ from rfl);have u4:=(bc_ BK.out 4).trans (show _=some _ from rfl);have u5:=(bc_ BK.out 5).trans (show _=some _ from rfl);have u6:=(bc_ BK.out 6).trans (show _=some _ from rfl)
   obtain ⟨ad,e1,hx0⟩:=Kd.at_int HR2.out i hi0 hlt
   cases e1
   have hxw:=am_ hx0
   replace hx0:=(HB.out.cell (wb_ w _ hx0)).trans hx0
   have hfx:=hosts_take (a:=a0_0) (b:=a0_1) l0_2 i hi0 hlt
   generalize rd l0_2 i=x at hx0 hxw hfx
   replace hfx:=am_ hfx
   by_cases d1:x < a0_0
   ·have hf:=am_ (show false=r from no_of q2.out (fun e=>by have:=(hfx.out.1 e.1).1;omega))
    clear q2 HR2 HR3 HR6 HF hfx hxw
    go_wp2
    go_quiet (fail)
    go_wp2
    go_ret
    exact ⟨ret_bool hf.out,(by repeat (with_reducible first|exact HB.out|apply p3_|apply p1_|apply p2_))⟩
   by_cases d2:a0_1 < x
   ·have hf:=am_ (show false=r from no_of q2.out (fun e=>by have:=(hfx.out.1 e.1).1;omega))
    clear q2 HR2 HR3 HR6 HF hfx hxw
    go_wp2
    go_quiet (fail)
    go_wp2
    go_ret
    exact ⟨ret_bool hf.out,(by repeat (with_reducible first|exact HB.out|apply p3_|apply p1_|apply p2_))⟩
   have hin:=am_ (hfx.out.2 HI.out ⟨by omega,by omega⟩)
   go_wp2
   go_quiet (fail)
   go_wp2
   clear hx0 d1 d2 u0 u1 u2 u3 u4 u5 u6
   go_loopg [4] i.toNat (fun d v4 w'=>∃ j:Int,0≤j∧j.toNat+d=i.toNat∧v4=.int .i64 j∧Aside0 (Below w.heap.size w w')∧Aside0 (w'.heap[w.heap.size]?=some (.cells #[.int .i64 a0_0,.int .i64 a0_1,.slice (some ad) l0_2.length c0_2,.slice A0_3 l0_3.length c0_3,.int .i64 a0_4,.string a0_5,.slice A0_6 l0_6.length c0_6] 26))∧Aside0 (x∉l0_2.take j.toNat))
   case atStart=>exact ⟨0,by omega,by simp,rfl,⟨(by repeat (with_reducible first|exact HB.out|apply p3_|apply p1_|apply p2_))⟩,⟨(by (with_reducible repeat (first|exact BK.out|refine k2_ ?_ _|refine k3_ ?_|refine k1_ ?_ _)))⟩,⟨by simp⟩⟩
   case round =>
    clear HB BK
    obtain ⟨j,hj0,hdj,rfl,HB,BK,HJ⟩:=hrel
    by_cases jlt:j < i
    ·have u0:=(bc_ BK.out 0).trans (show _=some _ from rfl);have u1:=(bc_ BK.out 1).trans (show _=some _ from rfl);have u2:=(bc_ BK.out 2).trans (show _=some _ from rfl);have u3:=(bc_ BK.out 3).trans (show _=some _ from rfl);have u4:=(bc_ BK.out 4).trans (show _=some _ from rfl);have u5:=(bc_ BK.out 5).trans (show _=some _ from rfl);have u6:=(bc_ BK.out 6).trans (show _=some _ from rfl)
     obtain ⟨ad2,e2,hy0⟩:=Kd.at_int HR2.out j hj0 (by omega)
     obtain rfl:=e5_ e2
     clear e2
     have hx0:=(HB.out.cell (wb_ w _ hxw.out)).trans hxw.out
     replace hy0:=(HB.out.cell (wb_ w _ hy0)).trans hy0
     have htk:=take_rd l0_2 j hj0 (by omega)
     have hmm:=take_mem l0_2 i j hj0 jlt (by omega)
     generalize rd l0_2 j=y at hy0 htk hmm
     have jlt2:j < (l0_2.length:Int):=by omega
     by_cases e:y=x
     ·subst e
      have hf:=am_ (show false=r from no_of q2.out (fun e=>(hfx.out.1 e.1).2 hmm))
      clear q2 HR2 HR3 HR6 HF hfx hxw HI hin HJ htk hmm
      go_wp2
      go_quiet (fail)
      go_wp2
      go_ret
      exact ⟨ret_bool hf.out,(by repeat (with_reducible first|exact HB.out|apply p3_|apply p1_|apply p2_))⟩
     ·have HN:=am_ (show x∉l0_2.take (j.toNat+1) by rw [htk,List.mem_append,List.mem_singleton];rintro (h|h);exact HJ.out h;exact e h.symm)
      clear htk hmm
      go_wp2
      go_quiet (fail)
      go_wp2
      go_roundg (i.toNat - (j.toNat+1))
      case measure=>first|omega|(simp;omega)
      case rel =>
       have e2:(j+1).toNat=j.toNat+1:=by omega
       exact ⟨j+1,by omega,by omega,by go_num,⟨(by repeat (with_reducible first|exact HB.out|apply p3_|apply p1_|apply p2_))⟩,⟨(by (with_reducible repeat (first|exact BK.out|refine k2_ ?_ _|refine k3_ ?_|refine k1_ ?_ _)))⟩,⟨by rw [e2];exact HN.out⟩⟩
    ·have e3:j.toNat=i.toNat:=by omega
     have HN:=am_ (hin.out (by rw [←e3];exact HJ.out))
     clear hxw hfx hin HJ e3
     go_wp2
     go_roundg (l0_2.length - (i.toNat+1))
     case measure=>first|omega|(simp;omega)
     case rel =>
      have e2:(i+1).toNat=i.toNat+1:=by omega
      exact ⟨i+1,by omega,by omega,by go_num,⟨(by repeat (with_reducible first|exact HB.out|apply p3_|apply p1_|apply p2_))⟩,⟨(by (with_reducible repeat (first|exact BK.out|refine k2_ ?_ _|refine k3_ ?_|refine k1_ ?_ _)))⟩,⟨by rw [e2];exact HN.out⟩⟩
  ·have HI2:=am_ (show hostsIn a0_0 a0_1 l0_2 by have h1:=HI.out;rw [List.take_of_length_le (by omega)] at h1;exact h1)
   have u0:=(bc_ BK.out 0).trans (show _=some _ from rfl);have u1:=(bc_ BK.out 1).trans (show _=some _ from rfl);have u2:=(bc_ BK.out 2).trans (show _=some _ from rfl);have u3:=(bc_ BK.out 3).trans (show _=some _ from rfl);have u4:=(bc_ BK.out 4).trans (show _=some _ from rfl);have u5:=(bc_ BK.out 5).trans (show _=some _ from rfl);have u6:=(bc_ BK.out 6).trans (show _=some _ from rfl)
   clear HI
   go_wp2
   clear u0 u1 u2 u3 u4 u5 u6
   go_loopg [5] l0_3.length (fun d v5 w'=>∃ k:Int,0≤k∧k.toNat+d=l0_3.length∧v5=.int .i64 k∧Aside0 (Below w.heap.size w w')∧Aside0 (w'.heap[w.heap.size]?=some (.cells #[.int .i64 a0_0,.int .i64 a0_1,.slice A0_2 l0_2.length c0_2,.slice A0_3 l0_3.length c0_3,.int .i64 a0_4,.string a0_5,.slice A0_6 l0_6.length c0_6] 26))∧Aside0 (resIn a0_0 a0_1 (l0_3.take k.toNat)))
   case atStart=>exact ⟨0,by omega,by simp,rfl,HB,BK,⟨⟨fun _ h=>by simp at h,List.nodup_nil,List.nodup_nil⟩⟩⟩
   case round =>
    clear HB BK
    obtain ⟨k,hk0,hdk,rfl,HB,BK,HK⟩:=hrel
    obtain ⟨wo,hwo⟩:∃ x,x=wr:=⟨wr,rfl⟩
    subst hwo
    by_cases klt:k < (l0_3.length:Int)
    ·have u0:=(bc_ BK.out 0).trans (show _=some _ from rfl);have u1:=(bc_ BK.out 1).trans (show _=some _ from rfl);have u2:=(bc_ BK.out 2).trans (show _=some _ from rfl);have u3:=(bc_ BK.out 3).trans (show _=some _ from rfl);have u4:=(bc_ BK.out 4).trans (show _=some _ from rfl);have u5:=(bc_ BK.out 5).trans (show _=some _ from rfl);have u6:=(bc_ BK.out 6).trans (show _=some _ from rfl)
     obtain ⟨ad,e1,hx0,hx1⟩:=at_T95 HR3.out k hk0 klt
     cases e1
     replace hx0:=(HB.out.cell (wb_ w _ hx0)).trans hx0
     replace hx1:=(HB.out.cell (wb_ w _ hx1)).trans hx1
     have hfx:=res_take (a:=a0_0) (b:=a0_1) l0_3 k hk0 klt
     generalize rd_T95 l0_3 k=x at hx0 hx1 hfx
     obtain ⟨s,ho⟩:=x
     simp only at hx0 hx1 hfx
     replace hfx:=am_ hfx
     obtain ⟨b1,hb1⟩:∃ b,clientB s=b:=⟨_,rfl⟩
     have CC:=am_ (fun W=>pinfoldref11_clientMay.calls s b1 W (by rw [←hb1];exact clientMay_eq s))
     have BX:=am_ (blk_new wo (.cells #[.string s,.int .i64 ho] 95))
     replace hb1:=am_ hb1
     have z0:=(bc_ (k1_ BK.out (.cells #[.string s,.int .i64 ho] 95)) 0).trans (show _=some _ from rfl);have z1:=(bc_ (k1_ BK.out (.cells #[.string s,.int .i64 ho] 95)) 1).trans (show _=some _ from rfl);have z2:=(bc_ (k1_ BK.out (.cells #[.string s,.int .i64 ho] 95)) 2).trans (show _=some _ from rfl);have z3:=(bc_ (k1_ BK.out (.cells #[.string s,.int .i64 ho] 95)) 3).trans (show _=some _ from rfl);have z4:=(bc_ (k1_ BK.out (.cells #[.string s,.int .i64 ho] 95)) 4).trans (show _=some _ from rfl);have z5:=(bc_ (k1_ BK.out (.cells #[.string s,.int .i64 ho] 95)) 5).trans (show _=some _ from rfl);have z6:=(bc_ (k1_ BK.out (.cells #[.string s,.int .i64 ho] 95)) 6).trans (show _=some _ from rfl)
     have hres:∀ (e:hostsIn a0_0 a0_1 l0_2∧resIn a0_0 a0_1 l0_3∧l0_6.all (staticB a0_5)=true),(a0_0≤ho∧ho≤a0_1∧clientB s=true)∧∀ y∈l0_3.take k.toNat,y.f1≠ho∧y.f0.data.toList≠s.data.toList:=fun e=>hfx.out.1 e.2.1
     by_cases d1:ho < a0_0
     ·have hf:=am_ (show false=r from no_of q2.out (fun e=>by have:=(hres e).1;omega))
      clear hres
      clear q2 HR2 HR3 HR6 HF hfx HK HI2 hb1 BX
      go_wp2_with (go_at_call 58;(with_reducible refine (CC.out _).mono ?_);rintro e w3 ⟨rfl,⟨nd,rfl⟩⟩)
      go_ret
      exact ⟨ret_bool hf.out,(by repeat (with_reducible first|exact HB.out|apply p3_|apply p1_|apply p2_))⟩
     by_cases d2:a0_1 < ho
     ·have hf:=am_ (show false=r from no_of q2.out (fun e=>by have:=(hres e).1;omega))
      clear hres
      clear q2 HR2 HR3 HR6 HF hfx HK HI2 hb1 BX
      go_wp2_with (go_at_call 58;(with_reducible refine (CC.out _).mono ?_);rintro e w3 ⟨rfl,⟨nd,rfl⟩⟩)
      go_ret
      exact ⟨ret_bool hf.out,(by repeat (with_reducible first|exact HB.out|apply p3_|apply p1_|apply p2_))⟩
     cases b1 with
     | false =>
      have hf:=am_ (show false=r from no_of q2.out (fun e=>by have:=(hres e).1.2.2;rw [hb1.out] at this;cases this))
      clear hres
      clear q2 HR2 HR3 HR6 HF hfx HK HI2 hb1 BX
      go_wp2_with (go_at_call 58;(with_reducible refine (CC.out _).mono ?_);rintro e w3 ⟨rfl,⟨nd,rfl⟩⟩)
      go_ret
      exact ⟨ret_bool hf.out,(by repeat (with_reducible first|exact HB.out|apply p3_|apply p1_|apply p2_))⟩
     | true =>
      have hin:=am_ (hfx.out.2 HK.out ⟨by omega,by omega,hb1.out⟩)
      replace hres:=am_ hres
      go_wp2_with (go_at_call 58;(with_reducible refine (CC.out _).mono ?_);rintro e w3 ⟨rfl,⟨nd,rfl⟩⟩)
      clear CC hb1 hx0 hx1 d1 d2 u0 u1 u2 u3 u4 u5 u6 z0 z1 z2 z3 z4 z5 z6
      go_loopg [7] k.toNat (fun d v7 w'=>∃ j:Int,0≤j∧j.toNat+d=k.toNat∧v7=.int .i64 j∧Aside0 (Below w.heap.size w w')∧Aside0 (w'.heap[w.heap.size]?=some (.cells #[.int .i64 a0_0,.int .i64 a0_1,.slice A0_2 l0_2.length c0_2,.slice (some ad) l0_3.length c0_3,.int .i64 a0_4,.string a0_5,.slice A0_6 l0_6.length c0_6] 26))∧Aside0 (w'.heap[wo.heap.size]?=some (.cells #[.string s,.int .i64 ho] 95))∧Aside0 (∀y∈l0_3.take j.toNat,y.f1≠ho∧y.f0.data.toList≠s.data.toList))
      case atStart=>exact ⟨0,by omega,by simp,rfl,⟨(by repeat (with_reducible first|exact HB.out|apply p3_|apply p1_|apply p2_))⟩,⟨(by (with_reducible repeat (first|exact BK.out|refine k2_ ?_ _|refine k3_ ?_|refine k1_ ?_ _)))⟩,⟨BX.out⟩,⟨by simp⟩⟩
      case round =>
       clear HB BK BX
       obtain ⟨j,hj0,hdj,rfl,HB,BK,BX,HJ⟩:=hrel
       by_cases jlt:j < k
       ·have u0:=(bc_ BK.out 0).trans (show _=some _ from rfl);have u1:=(bc_ BK.out 1).trans (show _=some _ from rfl);have u2:=(bc_ BK.out 2).trans (show _=some _ from rfl);have u3:=(bc_ BK.out 3).trans (show _=some _ from rfl);have u4:=(bc_ BK.out 4).trans (show _=some _ from rfl);have u5:=(bc_ BK.out 5).trans (show _=some _ from rfl);have u6:=(bc_ BK.out 6).trans (show _=some _ from rfl)
        have v0:=(bc_ BX.out 0).trans (show _=some _ from rfl)
        have v1:=(bc_ BX.out 1).trans (show _=some _ from rfl)
        obtain ⟨ad2,e2,hy0,hy1⟩:=at_T95 HR3.out j hj0 (by omega)
        obtain rfl:=e5_ e2
        clear e2
        replace hy0:=(HB.out.cell (wb_ w _ hy0)).trans hy0
        replace hy1:=(HB.out.cell (wb_ w _ hy1)).trans hy1
        have htk:=takeR_rd l0_3 j hj0 (by omega)
        have hmm:=takeR_mem l0_3 k j hj0 jlt (by omega)
        generalize rd_T95 l0_3 j=y at hy0 hy1 htk hmm
        obtain ⟨ys,yh⟩:=y
        simp only at hy0 hy1
        have jlt2:j < (l0_3.length:Int):=by omega
        by_cases eA:yh=ho
        ·have hf:=am_ (show false=r from no_of q2.out (fun e=>((hres.out e).2 _ hmm).1 eA))
         clear q2 HR2 HR3 HR6 HF hfx hres HK HI2 hin HJ htk hmm
         go_wp2
         go_quiet (fail)
         go_wp2
         go_ret
         exact ⟨ret_bool hf.out,(by repeat (with_reducible first|exact HB.out|apply p3_|apply p1_|apply p2_))⟩
        by_cases eB:ys.toList=s.toList
        ·have hf:=am_ (show false=r from no_of q2.out (fun e=>((hres.out e).2 _ hmm).2 (by show ys.data.toList=s.data.toList;rw [←ByteArray.toList_eq,←ByteArray.toList_eq];exact eB)))
         clear q2 HR2 HR3 HR6 HF hfx hres HK HI2 hin HJ htk hmm
         go_wp2
         go_quiet (fail)
         go_wp2
         go_ret
         exact ⟨ret_bool hf.out,(by repeat (with_reducible first|exact HB.out|apply p3_|apply p1_|apply p2_))⟩
        have HN:=am_ (show ∀y∈l0_3.take (j.toNat+1),y.f1≠ho∧y.f0.data.toList≠s.data.toList by rw [htk];intro y hy;rw [List.mem_append,List.mem_singleton] at hy;rcases hy with hy|rfl;exact HJ.out y hy;exact ⟨eA,by show ys.data.toList≠s.data.toList;rw [←ByteArray.toList_eq,←ByteArray.toList_eq];exact eB⟩)
        have eA2:(yh == ho)=false:=by simpa using eA
        have eB2:(ys.toList == s.toList)=false:=by simpa using eB
        clear htk hmm
        go_wp2
        go_quiet (fail)
        go_wp2
        go_roundg (k.toNat - (j.toNat+1))
        case measure=>first|omega|(simp;omega)
        case rel =>
         have e2:(j+1).toNat=j.toNat+1:=by omega
         exact ⟨j+1,by omega,by omega,by go_num,⟨(by repeat (with_reducible first|exact HB.out|apply p3_|apply p1_|apply p2_))⟩,⟨(by (with_reducible repeat (first|exact BK.out|refine k2_ ?_ _|refine k3_ ?_|refine k1_ ?_ _)))⟩,⟨BX.out⟩,⟨by rw [e2];exact HN.out⟩⟩
       ·have e3:j.toNat=k.toNat:=by omega
        have HN:=am_ (hin.out (by rw [←e3];exact HJ.out))
        clear hfx hin HJ e3 hres BX
        go_wp2
        go_roundg (l0_3.length - (k.toNat+1))
        case measure=>first|omega|(simp;omega)
        case rel =>
         have e2:(k+1).toNat=k.toNat+1:=by omega
         exact ⟨k+1,by omega,by omega,by go_num,⟨(by repeat (with_reducible first|exact HB.out|apply p3_|apply p1_|apply p2_))⟩,⟨(by (with_reducible repeat (first|exact BK.out|refine k2_ ?_ _|refine k3_ ?_|refine k1_ ?_ _)))⟩,⟨by rw [e2];exact HN.out⟩⟩
    ·have HK2:=am_ (show resIn a0_0 a0_1 l0_3 by have h1:=HK.out;rw [List.take_of_length_le (by omega)] at h1;exact h1)
     have u0:=(bc_ BK.out 0).trans (show _=some _ from rfl);have u1:=(bc_ BK.out 1).trans (show _=some _ from rfl);have u2:=(bc_ BK.out 2).trans (show _=some _ from rfl);have u3:=(bc_ BK.out 3).trans (show _=some _ from rfl);have u4:=(bc_ BK.out 4).trans (show _=some _ from rfl);have u5:=(bc_ BK.out 5).trans (show _=some _ from rfl);have u6:=(bc_ BK.out 6).trans (show _=some _ from rfl)
     clear HK
     go_wp2
     clear u0 u1 u2 u3 u4 u5 u6
     go_loopg [8] l0_6.length (fun d v8 w'=>∃ m:Int,0≤m∧m.toNat+d=l0_6.length∧v8=.int .i64 m∧Aside0 (Below w.heap.size w w')∧Aside0 (w'.heap[w.heap.size]?=some (.cells #[.int .i64 a0_0,.int .i64 a0_1,.slice A0_2 l0_2.length c0_2,.slice A0_3 l0_3.length c0_3,.int .i64 a0_4,.string a0_5,.slice A0_6 l0_6.length c0_6] 26))∧Aside0 ((l0_6.take m.toNat).all (staticB a0_5)=true))
     case atStart=>exact ⟨0,by omega,by simp,rfl,HB,BK,⟨by simp⟩⟩
     case round =>
      clear HB BK
      obtain ⟨m,hm0,hdm,rfl,HB,BK,HM⟩:=hrel
      by_cases mlt:m < (l0_6.length:Int)
      ·have u0:=(bc_ BK.out 0).trans (show _=some _ from rfl);have u1:=(bc_ BK.out 1).trans (show _=some _ from rfl);have u2:=(bc_ BK.out 2).trans (show _=some _ from rfl);have u3:=(bc_ BK.out 3).trans (show _=some _ from rfl);have u4:=(bc_ BK.out 4).trans (show _=some _ from rfl);have u5:=(bc_ BK.out 5).trans (show _=some _ from rfl);have u6:=(bc_ BK.out 6).trans (show _=some _ from rfl)
       obtain ⟨ad,e1,hx0,hx1,hx2,hx3,hx4,hx5,hx6⟩:=at_T93 HR6.out m hm0 mlt
       cases e1
       replace hx0:=(HB.out.cell (wb_ w _ hx0)).trans hx0;replace hx1:=(HB.out.cell (wb_ w _ hx1)).trans hx1;replace hx2:=(HB.out.cell (wb_ w _ hx2)).trans hx2;replace hx3:=(HB.out.cell (wb_ w _ hx3)).trans hx3;replace hx4:=(HB.out.cell (wb_ w _ hx4)).trans hx4;replace hx5:=(HB.out.cell (wb_ w _ hx5)).trans hx5;replace hx6:=(HB.out.cell (wb_ w _ hx6)).trans hx6
       obtain ⟨htk,hmem⟩:=rdS_eq l0_6 m hm0 mlt
       have hsz:=HF.out.2 _ hmem
       generalize rd_T93 l0_6 m=x at hx0 hx1 hx2 hx3 hx4 hx5 hx6 htk hmem hsz
       obtain ⟨f0,f1,f2,f3,f4,f5,f6⟩:=x
       simp only at hx0 hx1 hx2 hx3 hx4 hx5 hx6 hsz
       obtain ⟨b1,hb1⟩:∃ b,staticB a0_5 ⟨f0,f1,f2,f3,f4,f5,f6⟩=b:=⟨_,rfl⟩
       have CS:=am_ (fun W=>pinfoldref11_staticMay.calls f0 f1 f2 f3 f4 f5 f6 a0_5 b1 W (by unfold pinfoldref11_staticMay.f;rw [if_pos ⟨hsz.1,hsz.2,HF.out.1⟩,hb1]))
       have hno:=am_ (fun e:b1=false=>show false=r from no_of q2.out (fun e2=>by have:=List.all_eq_true.1 e2.2.2 _ hmem;rw [hb1,e] at this;cases this))
       have hyes:=am_ (fun e:b1=true=>show (l0_6.take (m.toNat+1)).all (staticB a0_5)=true by rw [htk,List.all_append,HM.out,List.all_cons,hb1,e];rfl)
       clear hb1 htk hmem hsz
       go_wp2_with fail
       have HB1:=am_ (below_drew HB.out)
       have BK1:=am_ (k3_ BK.out)
       refine seqS (S:=confMayS ad (ad.add (m.toNat * 7)) ⟨(ad.add (m.toNat * 7)).block,(ad.add (m.toNat * 7)).off+1,none⟩ ⟨(ad.add (m.toNat * 7)).block,(ad.add (m.toNat * 7)).off+2,none⟩ ⟨(ad.add (m.toNat * 7)).block,(ad.add (m.toNat * 7)).off+3,none⟩ ⟨(ad.add (m.toNat * 7)).block,(ad.add (m.toNat * 7)).off+4,none⟩ ⟨(ad.add (m.toNat * 7)).block,(ad.add (m.toNat * 7)).off+5,none⟩ ⟨(ad.add (m.toNat * 7)).block,(ad.add (m.toNat * 7)).off+6,none⟩ f0 f1 f2 f3 f4 f5 f6 w.heap.size a0_5 (.slice (some ad) l0_6.length c0_6)) 9 (by kernel_rfl) rfl rfl ⟨hx0,hx1,hx2,hx3,hx4,hx5,hx6,u5,u6⟩ ?_
       intro hHeld
       iterate 7 first|(refine seqP (v:=?_) (a':=?_) rfl rfl (by kernel_rfl) (fun _ _ _ h=>h) (Or.inl ⟨by kernel_rfl,?_⟩) ?_ ?_;rotate_left;(intro w';go_simp;with_reducible rfl);rotate_left;(simp only [Act.put,sa_,sb_,sc_,i64_w,i32_w];rfl))|(refine seqL (v:=?_) (a':=?_) rfl rfl (by kernel_rfl) (fun _ _ _ h=>h) (Or.inl ⟨by kernel_rfl,?_⟩) hHeld ?_ ?_;rotate_left;(rintro w' ⟨s0,s1,s2,s3,s4,s5,s6,s7,s8⟩;go_simp;with_reducible rfl);rotate_left;(simp only [Act.put,sa_,sb_,sc_,i64_w,i32_w];rfl))
       refine seqG (fn:=Tryz.f80) rfl rfl (by kernel_rfl) rfl Tryz.func80 (by kernel_rfl) (by kernel_rfl) #[.agg #[.string f0,.int .i64 f1,.int .i64 f2,.int .i64 f3,.string f4,.string f5,.int .i64 f6],.string a0_5] (by kernel_rfl) (by (try simp only [List.map_toArray,List.map_cons,List.map_nil]);first|done|rfl) ?_
       with_reducible refine (CS.out _).mono ?_
       rintro e w3 ⟨rfl,hb2⟩
       replace HB:=am_ (bt_ HB1.out hb2)
       replace BK:=am_ (kb_ BK1.out hb2)
       refine ⟨_,rfl,confMayS_below hHeld hb2,fun hHeld=>⟨?_,?_,?_⟩⟩
       rotate_left
       ·simp only [Act.put,sa_,sb_,sc_,i64_w,i32_w]
        rfl
       iterate 1 first|(refine seqP (v:=?_) (a':=?_) rfl rfl (by kernel_rfl) (fun _ _ _ h=>h) (Or.inl ⟨by kernel_rfl,?_⟩) ?_ ?_;rotate_left;(intro w';go_simp;with_reducible rfl);rotate_left;(simp only [Act.put,sa_,sb_,sc_,i64_w,i32_w];rfl))|(refine seqL (v:=?_) (a':=?_) rfl rfl (by kernel_rfl) (fun _ _ _ h=>h) (Or.inl ⟨by kernel_rfl,?_⟩) hHeld ?_ ?_;rotate_left;(rintro w' ⟨s0,s1,s2,s3,s4,s5,s6,s7,s8⟩;go_simp;with_reducible rfl);rotate_left;(simp only [Act.put,sa_,sb_,sc_,i64_w,i32_w];rfl))
       refine seqE (by kernel_rfl) ?_
       cases b1 with
       | false =>
        have hf:=am_ (hno.out rfl)
        clear q2 HR2 HR3 HR6 HF HM HI2 HK2 hno hyes CS
        go_wp2
        go_ret
        exact ⟨ret_bool hf.out,HB.out⟩
       | true =>
        have HN:=am_ (hyes.out rfl)
        clear hno hyes CS
        go_wp2
        go_roundg (l0_6.length - (m.toNat+1))
        case measure=>first|omega|(simp;omega)
        case rel =>
         have e2:(m+1).toNat=m.toNat+1:=by omega
         exact ⟨m+1,by omega,by omega,by go_num,HB,BK,⟨by rw [e2];exact HN.out⟩⟩
      ·have hr:=am_ (show true=r from (q2.out.2 ⟨HI2.out,HK2.out,by have h1:=HM.out;rw [List.take_of_length_le (by omega)] at h1;exact h1⟩).symm)
       clear q2 HR2 HR3 HR6 HF HM HI2 HK2
       have u0:=(bc_ BK.out 0).trans (show _=some _ from rfl);have u1:=(bc_ BK.out 1).trans (show _=some _ from rfl);have u2:=(bc_ BK.out 2).trans (show _=some _ from rfl);have u3:=(bc_ BK.out 3).trans (show _=some _ from rfl);have u4:=(bc_ BK.out 4).trans (show _=some _ from rfl);have u5:=(bc_ BK.out 5).trans (show _=some _ from rfl);have u6:=(bc_ BK.out 6).trans (show _=some _ from rfl)
       go_wp2
       go_ret
       exact ⟨ret_bool hr.out,(by repeat (with_reducible first|exact HB.out|apply p3_|apply p1_|apply p2_))⟩

end Go.Proofs.YtibalpbkmgegnaaGreatDoor.PL
