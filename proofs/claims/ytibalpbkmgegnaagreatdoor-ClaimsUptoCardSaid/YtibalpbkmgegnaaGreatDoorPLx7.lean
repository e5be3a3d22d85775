-- Made by wip/pr.py out of the translation (a turned copy of the kit's print; contracts by hand where said).
import Derived.Test.YtibalpbkmgegnaaGreatDoorPLx0
import Derived.Test.YtibalpbkmgegnaaGreatDoorPLx4
import Derived.Test.YtibalpbkmgegnaaGreatDoorPLx6
namespace Go.Proofs.YtibalpbkmgegnaaGreatDoor.PL
open Go.RowKit Go.Proofs.YtibalpbkmgegnaaGreatDoorW.PrintWords Go.Proofs.YtibalpbkmgegnaaGreatDoorW.PrintLast Go.Proofs.YtibalpbkmgegnaaGreatDoorW.PrintMore
-- shrunk
attribute [local go_sem] max2_int min2_int max_two min_two max_three min_three max_four min_four   -- for this text's walks alone
set_option linter.unusedVariables false
set_option linter.unusedSimpArgs false
set_option maxHeartbeats 8000000
set_option maxRecDepth 100000

/-! ### strings_genSplit: function 91 -/
-- BY HAND
/-- a text, cut at its points, so many times at most. -/
def strings_genSplit.cut:Nat→ByteArray→List ByteArray
 | 0,s=>[s]
 | m+1,s=>if Lib.indexByte s.data.toList 46 = -1 then [s] else s.extract 0 (Lib.indexByte s.data.toList 46).toNat :: strings_genSplit.cut m (s.extract ((Lib.indexByte s.data.toList 46).toNat+1) s.size)
theorem strings_genSplit.cut_miss (m:Nat) (s:ByteArray) (h:Lib.indexByte s.data.toList 46 = -1):strings_genSplit.cut m s=[s]:=by
 cases m with
 | zero=>rfl
 | succ m=>unfold strings_genSplit.cut;rw [if_pos h]
theorem strings_genSplit.cut_hit (m:Nat) (s:ByteArray) (i:Nat) (h:Lib.indexByte s.data.toList 46=i):strings_genSplit.cut (m+1) s=s.extract 0 i :: strings_genSplit.cut m (s.extract (i+1) s.size):=by
 have e:(Lib.indexByte s.data.toList 46).toNat=i:=by omega
 rw [strings_genSplit.cut,if_neg (by omega),e]
theorem strings_genSplit.index_or:∀ L:List UInt8,Lib.indexByte L 46 = -1∨∃ i:Nat,Lib.indexByte L 46=i∧i < L.length
 | []=>.inl rfl
 | b :: L=>by
  by_cases hb:b=46
  ·subst hb
   exact .inr ⟨0,by simp [Lib.indexByte],by simp⟩
  ·have hne:(b == 46)=false:=by simpa using hb
   rcases strings_genSplit.index_or L with h|⟨i,h,hi⟩
   ·exact .inl (by simp [Lib.indexByte,hne,h])
   ·refine .inr ⟨i+1,?_,by simp only [List.length_cons];omega⟩
    have h4:((i:Int) == -1)=false:=by
     rw [beq_eq_false_iff_ne]
     omega
    simp [Lib.indexByte,hne,h,h4]
theorem strings_genSplit.cut_length (m:Nat):∀ s,(strings_genSplit.cut m s).length≤m+1:=by
 induction m with
 | zero=>intro s;exact Nat.le_refl _
 | succ m ih =>
  intro s
  unfold strings_genSplit.cut
  split
  ·simp
  ·have:=ih (s.extract ((Lib.indexByte s.data.toList 46).toNat+1) s.size)
   simp only [List.length_cons]
   omega
def strings_genSplit.f (a0:ByteArray) (a1:ByteArray) (a2:Int) (a3:Int):Option (List ByteArray) :=
 if a1=⟨#[46]⟩∧a2=0∧a3 = -1∧a0.size≤100000 then some (strings_genSplit.cut (strings_Count.at_ a0 ⟨#[46]⟩) a0) else none
theorem strings_genSplit.row {w:World} {base g N:Nat} {ps:List ByteArray} (hb:base≤g) (h:w.heap[g]?=some (.cells (Lib.cellsOf ps N) 9 (0,0))) (hl:ps.length≤N) (hN:N≤1000000) :
  Kd.R Kd.string 9 w base (fun _=>True) (.slice (some ⟨g,0,none⟩) ps.length N) ps:=by
 refine Kd.R_of_own ⟨by rw [encs_length,Nat.mul_one],.inr ⟨g,N,Lib.cellsOf ps N,rfl,hb,h,hl,by simp only [maxLen];omega,by rw [Lib.cellsOf_size hl,Nat.mul_one],?_⟩⟩ (fun _ _=>trivial)
 unfold Lib.cellsOf encs
 rw [Nat.mul_one,List.take_append_of_le_length (by rw [List.length_map];exact Nat.le_refl _),List.take_of_length_le (by rw [List.length_map];exact Nat.le_refl _)]
theorem strings_genSplit.calls (a0:ByteArray) (a1:ByteArray) (a2:Int) (a3:Int) (r:List ByteArray) (w:World) (h:strings_genSplit.f a0 a1 a2 a3=some r) :
  Calls Tryz.prog 91 #[.string a0,.string a1,.int .i64 a2,.int .i64 a3] w fun e w'=>∃ v0_:Value,e=.returned (v0_)∧Kd.R Kd.string 9 w' w.heap.size (fun _=>True) v0_ r∧Below w.heap.size w w':=by
 unfold strings_genSplit.f at h
 by_cases hc:a1=⟨#[46]⟩∧a2=0∧a3 = -1∧a0.size≤100000
 ·rw [if_pos hc] at h
  obtain ⟨rfl,rfl,rfl,hs⟩:=hc
  have hcl:strings_Count.at_ a0 ⟨#[46]⟩≤a0.size:=by
   unfold strings_Count.at_ Lib.countByte
   have:=List.count_le_length (a:=((⟨#[46]⟩:ByteArray).data.toList.headD 0)) (l:=a0.data.toList)
   rw [data_length] at this
   exact this
  have hCC:∀ W,Calls Tryz.prog 98 #[.string a0,.string ⟨#[46]⟩] W fun e w'=>e=.returned (.int .i64 (strings_Count.at_ a0 ⟨#[46]⟩:Nat))∧Drawn0 W w':=fun W=>strings_Count.calls a0 ⟨#[46]⟩ _ W rfl
  obtain ⟨cn,hcn⟩:∃ cn:Nat,strings_Count.at_ a0 ⟨#[46]⟩=cn:=⟨_,rfl⟩
  rw [hcn] at hCC h hcl
  clear hcn
  obtain rfl:=e5_ h
  clear h
  have hI:∀ (x:ByteArray) (W:World),Calls Tryz.prog 99 #[.string x,.string ⟨#[46]⟩] W fun e w'=>e=.returned (.int .i64 (Lib.indexByte x.data.toList 46))∧Drawn0 W w':=fun x W=>strings_Index.calls x ⟨#[46]⟩ _ W rfl
  have hlen:=am_ (strings_genSplit.cut_length cn a0)
  have eN:min ((cn:Int)+1) ((a0.size:Int)+1)=((cn+1:Nat):Int):=by omega
  have hmk:=fun W=>run_make_row' (P:=Tryz.prog) (w:=W) 88 9 (.string ByteArray.empty) 16 Tryz.underlying88 info9 rfl .i64 .i64 (cn+1) (by omega) (by omega)
  have e1:((cn+1:Nat):Int)=(cn:Int)+1:=by omega
  simp only [e1] at hmk
  go_enter Tryz.func91,Tryz.ntmps91
  go_wp2_with (first|(go_at_call 98;refine (hCC _).mono ?_;rintro e w' ⟨rfl,⟨nd,rfl⟩⟩))
  clear hmk hCC
  go_loopg [0,10] cn (fun d s0 s10 wr=>∃ (done:List ByteArray) (rest:ByteArray),s0=.string rest∧s10=.int .i64 done.length∧done.length≤cn∧d=cn - done.length∧rest.size≤a0.size ∧
   Aside0 (wr.heap[w.heap.size]?=some (.cells (Lib.cellsOf done (cn+1)) 9 (0,0)))∧Aside0 (Below w.heap.size w wr)∧Aside0 (done ++ strings_genSplit.cut (cn - done.length) rest=strings_genSplit.cut cn a0))
  case atStart=>exact ⟨[],a0,rfl,rfl,Nat.zero_le _,rfl,Nat.le_refl _,⟨by rw [Lib.cellsOf_nil];exact blk_new _ _⟩,⟨by repeat (first|exact Below.refl _ _|apply p3_|apply p1_|apply p2_)⟩,⟨rfl⟩⟩
  case round =>
   obtain ⟨done,rest,rfl,rfl,hd,rfl,hrs,HH,HB,HS⟩:=hrel
   have hnext:(Lib.cellsOf done (cn+1))[done.length]?=some (.string ByteArray.empty):=Lib.cellsOf_next (by omega)
   have hx:=(bc_ HH.out done.length).trans hnext
   have hz:=bf_ HH.out done.length
   clear hnext
   have fin:strings_genSplit.cut (cn - done.length) rest=[rest]→∀ W:World,W.heap[w.heap.size]?=some (.cells ((Lib.cellsOf done (cn+1)).setIfInBounds done.length (.string rest)) 9 (0,0))→Kd.R Kd.string 9 W w.heap.size (fun _=>True) (.slice (some ⟨w.heap.size,0,none⟩) (done.length+1) (cn+1)) (strings_genSplit.cut cn a0):=fun e W hW=>by
    have e2:=HS.out
    rw [e] at e2
    rw [Lib.cellsOf_set (by omega)] at hW
    rw [←e2]
    have:=strings_genSplit.row (base:=w.heap.size) (Nat.le_refl _) hW (by rw [List.length_append,List.length_singleton];omega) (by omega)
    rw [List.length_append,List.length_singleton] at this
    exact this
   by_cases hlt:done.length < cn
   ·have hltz:((done.length:Nat):Int) < (cn:Int):=by omega
    rcases strings_genSplit.index_or rest.data.toList with hix|⟨i,hix,hroom⟩
    ·have HF:=am_ (fin (strings_genSplit.cut_miss _ rest hix))
     clear fin
     go_wp2_with (first|(go_at_call 99;refine (hI rest _).mono ?_;rintro e w' ⟨rfl,⟨nd2,rfl⟩⟩;rw [hix]))
     go_ret
     exact ⟨_,rfl,HF.out _ (blk_set (k2_ HH.out _) _ _),(show Below w.heap.size w (wr.drewN nd2) by repeat (with_reducible first|exact HB.out|apply p3_|apply p1_|apply p2_)).setCell (Nat.le_refl _) _⟩
    ·rw [data_length] at hroom
     clear fin
     go_wp2_with (first|(go_at_call 99;refine (hI rest _).mono ?_;rintro e w' ⟨rfl,⟨nd2,rfl⟩⟩;rw [hix]))
     go_roundg (cn - (done.length+1))
     case measure=>first|omega|(simp;omega)
     case rel =>
      refine ⟨done ++ [rest.extract 0 i],rest.extract (i+1) rest.size,by simp,by simp,by simp;omega,by simp,by rw [ByteArray.size_extract];omega,⟨?_⟩,⟨(show Below w.heap.size w (wr.drewN nd2) by repeat (with_reducible first|exact HB.out|apply p3_|apply p1_|apply p2_)).setCell (Nat.le_refl _) _⟩,⟨?_⟩⟩
      ·rw [←Lib.cellsOf_set (by omega)]
       have:=blk_set (k2_ HH.out nd2) done.length (.string (rest.extract 0 i))
       simpa using this
      ·rw [←HS.out,show cn - done.length=(cn - (done.length+1))+1 by omega,strings_genSplit.cut_hit _ rest i hix]
       simp
   ·have hltz:¬ (((done.length:Nat):Int) < (cn:Int)):=by omega
    have HF:=am_ (fin (by rw [show cn - done.length=0 by omega];rfl))
    clear fin
    go_wp2
    go_ret
    exact ⟨_,rfl,HF.out _ (blk_set HH.out _ _),HB.out.setCell (Nat.le_refl _) _⟩
 ·rw [if_neg hc] at h
  cases h

/-! ### strings_Split: function 82 -/
-- BY HAND
def strings_Split.f (a0:ByteArray) (a1:ByteArray):Option (List ByteArray):=strings_genSplit.f a0 a1 0 (-1)
theorem strings_Split.calls (a0:ByteArray) (a1:ByteArray) (r:List ByteArray) (w:World) (h:strings_Split.f a0 a1=some r) :
  Calls Tryz.prog 82 #[.string a0,.string a1] w fun e w'=>∃ v0_:Value,e=.returned (v0_)∧Kd.R Kd.string 9 w' w.heap.size (fun _=>True) v0_ r∧Below w.heap.size w w':=by
 have HX:Aside0 (strings_genSplit.f a0 a1 0 (-1)=some r):=⟨h⟩
 clear h
 go_enter Tryz.func82,Tryz.ntmps82
 go_wp2_with (go_at_call 91;(with_reducible refine (strings_genSplit.calls _ _ _ _ _ _ HX.out).mono ?_);rintro e w' ⟨v0_,rfl,hR,hB⟩)
 go_ret
 exact ⟨_,rfl,hR,hB⟩

/-! ### name_Labels: function 66 -/
def name_Labels.f (a0:ByteArray):Option (List ByteArray):=if a0.toList=([]:List UInt8) then (some ([]:List ByteArray)) else ((name_May_c.f a0).bind fun t133=>(if t133=true then ((strings_Split.f a0 (⟨#[46]⟩:ByteArray)).bind fun t134=>(some t134)) else (some ([]:List ByteArray))))
theorem name_Labels.calls (a0:ByteArray) (r:List ByteArray) (w:World) (h:name_Labels.f a0=some r) :
  Calls Tryz.prog 66 #[.string a0] w fun e w'=>∃ v0_:Value,e=.returned (v0_)∧Kd.R Kd.string 9 w' w.heap.size (fun _=>True) v0_ r∧Below w.heap.size w w':=by
 have HB:=am_ (Below.refl w.heap.size w)
 have H:(if a0.toList=([]:List UInt8) then (some ([]:List ByteArray)) else ((name_May_c.f a0).bind fun t133=>(if t133=true then ((strings_Split.f a0 (⟨#[46]⟩:ByteArray)).bind fun t134=>(some t134)) else (some ([]:List ByteArray)))))=some r:=h
 clear h
 by_cases c2:a0.toList=([]:List UInt8)
 ·rw [if_pos c2] at H
  have c2b0:(a0.toList == ([]:List UInt8))=true:=beq_iff_eq.mpr c2
  have c2b1:(a0.toList != ([]:List UInt8))=false:=e1_ c2
  clear c2
  obtain rfl:=e5_ H
  go_enter Tryz.func66,Tryz.ntmps66
  go_wp2
  go_ret
  exact ⟨_,by first|rfl|(simp [errW_none,errW_some]<;>rfl)|(simp [*,errW_none,errW_some]<;>rfl)|(simp only [str_ne_];rfl)|(simp only [str_eq_];rfl),by first|exact Kd.R_nil _ _ _ _ _|exact Kd.N_nil _ _ _ _ _|exact Kd.V_nil _ _ _ _ _|exact Kd.Q_nil _ _ _ _ _|exact Kd.S_nil _ _ _ _ _,by repeat (with_reducible first|exact HB.out|apply p3_|apply p1_|apply p2_)⟩
 rw [if_neg c2] at H
 have c2b0:(a0.toList == ([]:List UInt8))=false:=e2_ c2
 have c2b1:(a0.toList != ([]:List UInt8))=true:=bne_iff_ne.mpr c2
 replace H:=e4_ H
 obtain ⟨t133,A30,H⟩:=H
 replace H:(if t133=true then ((strings_Split.f a0 (⟨#[46]⟩:ByteArray)).bind fun t134=>(some t134)) else (some ([]:List ByteArray)))=some r:=H
 have A3:=am_ A30
 clear A30
 by_cases c4:t133=true
 ·subst c4
  have H1:((strings_Split.f a0 (⟨#[46]⟩:ByteArray)).bind fun t134=>(some t134))=some r:=by rw [if_pos rfl] at H;exact H
  clear H
  have H:=H1
  clear H1
  replace H:=e4_ H
  obtain ⟨t134,A50,H⟩:=H
  replace H:(some t134)=some r:=H
  have A5:=am_ A50
  clear A50
  obtain rfl:=e5_ H
  go_enter Tryz.func66,Tryz.ntmps66
  go_wp2_with (first|(go_at_call 44;(with_reducible refine (name_May_c.calls a0 true _ A3.out).mono ?_);rintro e w' ⟨rfl,⟨nd,rfl⟩⟩)|((with_reducible refine gate_callee (f:=82) rfl ?_);refine goesL_ (some 11) rfl rfl Tryz.func82 (by kernel_rfl) rfl #[.string a0,.string (⟨#[46]⟩:ByteArray)] rfl (by (try simp only [List.map_toArray,List.map_cons,List.map_nil]);first|done|rfl|(simp only [List.length_drop,List.length_take];rfl)) ?_;(with_reducible refine (strings_Split.calls a0 (⟨#[46]⟩:ByteArray) t134 _ A5.out).mono ?_);rintro e w6 ⟨v135,rfl,ho0,hb⟩;refine ⟨_,rfl,?_⟩;have n0_:=am_ (Kd.R_lower ho0 (bz_ (by repeat (with_reducible first|exact HB.out|apply p3_|apply p1_|apply p2_))));have n1_:=am_ (bt_ (by repeat (with_reducible first|exact HB.out|apply p3_|apply p1_|apply p2_)) hb);clear HB;have HO136:=n0_;have HB:=n1_;clear n0_ n1_;(try clear hb);(try clear ho0)))
  go_ret
  exact ⟨_,by first|rfl|(simp [errW_none,errW_some]<;>rfl)|(simp [*,errW_none,errW_some]<;>rfl)|(simp only [str_ne_];rfl)|(simp only [str_eq_];rfl),by (with_reducible repeat (first|apply r1_|apply r2_|apply r3_));exact HO136.out,by repeat (with_reducible first|exact HB.out|apply p3_|apply p1_|apply p2_)⟩
 replace c4:=e3_ c4
 subst c4
 have H1:(some ([]:List ByteArray))=some r:=by rw [if_neg (show ¬(false=true) by decide)] at H;exact H
 clear H
 have H:=H1
 clear H1
 obtain rfl:=e5_ H
 go_enter Tryz.func66,Tryz.ntmps66
 go_wp2_with (first|(go_at_call 44;(with_reducible refine (name_May_c.calls a0 false _ A3.out).mono ?_);rintro e w' ⟨rfl,⟨nd,rfl⟩⟩))
 go_ret
 exact ⟨_,by first|rfl|(simp [errW_none,errW_some]<;>rfl)|(simp [*,errW_none,errW_some]<;>rfl)|(simp only [str_ne_];rfl)|(simp only [str_eq_];rfl),by first|exact Kd.R_nil _ _ _ _ _|exact Kd.N_nil _ _ _ _ _|exact Kd.V_nil _ _ _ _ _|exact Kd.Q_nil _ _ _ _ _|exact Kd.S_nil _ _ _ _ _,by repeat (with_reducible first|exact HB.out|apply p3_|apply p1_|apply p2_)⟩

/-! ### name_Labels_c: function 66 -/
theorem count_index:∀ L:List UInt8,(Lib.indexByte L 46 = -1∧L.count 46=0)∨(∃i:Nat,Lib.indexByte L 46=i∧L.count 46=(L.drop (i+1)).count 46+1)
 | []=>.inl ⟨rfl,rfl⟩
 | b :: L=>by
  by_cases hb:b=46
  ·subst hb
   exact .inr ⟨0,by simp [Lib.indexByte],by simp⟩
  ·have hne:(b == 46)=false:=by simpa using hb
   have hc:(b :: L).count 46=L.count 46:=List.count_cons_of_ne hb
   rcases count_index L with ⟨h,h2⟩|⟨i,h,h2⟩
   ·exact .inl ⟨by simp [Lib.indexByte,hne,h],by rw [hc,h2]⟩
   ·refine .inr ⟨i+1,?_,by rw [hc,h2];rfl⟩
    have h4:((i:Int) == -1)=false:=by
     rw [beq_eq_false_iff_ne]
     omega
    simp [Lib.indexByte,hne,h,h4]
theorem data_drop (s:ByteArray) (i:Nat):(s.extract i s.size).data.toList=s.data.toList.drop i:=by
 rw [ByteArray.data_extract,Array.toList_extract,List.extract_eq_take_drop,List.take_of_length_le (by rw [List.length_drop,data_length];exact Nat.le_refl _)]
theorem cut_map (m:Nat):∀ s:ByteArray,s.data.toList.count 46=m→(strings_genSplit.cut m s).map bytesOf=cutL (bytesOf s):=by
 induction m with
 | zero =>
  intro s h
  rcases count_index s.data.toList with ⟨h1,_⟩|⟨i,_,h2⟩
  ·rcases cut_index s.data.toList with ⟨_,h4⟩|⟨h3,_,_⟩
   ·exact h4.symm
   ·omega
  ·omega
 | succ m ih =>
  intro s h
  rcases count_index s.data.toList with ⟨_,h2⟩|⟨i,h1,h2⟩
  ·omega
  ·rcases cut_index s.data.toList with ⟨h3,_⟩|⟨_,h3,h4⟩
   ·omega
   ·rw [h1,Int.toNat_natCast] at h4
    have h5:cutL (bytesOf s)=(bytesOf s).take i :: cutL ((bytesOf s).drop (i+1)):=h4
    have e1:bytesOf (s.extract 0 i)=(bytesOf s).take i:=by rw [bytesOf_extract,List.drop_zero,Nat.sub_zero]
    have e2:bytesOf (s.extract (i+1) s.size)=(bytesOf s).drop (i+1):=by
     rw [bytesOf_extract,List.take_of_length_le (by rw [List.length_drop,bytesOf_length];exact Nat.le_refl _)]
    rw [strings_genSplit.cut_hit m s i h1,List.map_cons,ih _ (by rw [data_drop];omega),h5,e1,e2]
/-- the points and the texts behind them. -/
theorem labels_eq_ (s:ByteArray) (hs:s.size≤140737488351232):name_Labels.f s=some (labelsS s):=by
 unfold name_Labels.f name_May_c.f labelsS
 rw [if_pos (show s.size≤562949953421312 by omega),Option.bind_some]
 by_cases q:s.toList=([]:List UInt8)
 ·have hz:=(toList_nil s).1 q
  rw [if_pos q,if_neg (by simp [hz])]
 ·have hz:s.size≠0:=fun e=>q ((toList_nil s).2 e)
  rw [if_neg q]
  cases h:nameB (bytesOf s) with
  | false=>simp
  | true =>
   have hsh:=name_short _ h
   rw [bytesOf_length] at hsh
   have e:strings_Split.f s ⟨#[46]⟩=some (strings_genSplit.cut (s.data.toList.count 46) s):=by
    unfold strings_Split.f strings_genSplit.f
    rw [if_pos ⟨rfl,rfl,rfl,by omega⟩]
    rfl
   rw [if_pos rfl,e,if_pos (by simp [hz]),of_map_bytes _ _ (cut_map (s.data.toList.count 46) s rfl)]
   rfl
def name_Labels_c.f (a0:ByteArray):Option (List ByteArray):=if a0.size≤140737488351232 then some (labelsS a0) else none
theorem name_Labels_c.calls (a0:ByteArray) (r:List ByteArray) (w:World) (h:name_Labels_c.f a0=some r) :
  Calls Tryz.prog 66 #[.string a0] w fun e w'=>∃ v0_:Value,e=.returned (v0_)∧Kd.R Kd.string 9 w' w.heap.size (fun _=>True) v0_ r∧Below w.heap.size w w':=by
 unfold name_Labels_c.f at h
 by_cases hs:a0.size≤140737488351232
 ·rw [if_pos hs] at h
  exact name_Labels.calls a0 r w (by rw [labels_eq_ a0 hs];exact h)
 ·rw [if_neg hs] at h
  cases h

/-- A state of type 26 at block g of W; what its slices lead to came in by w0. -/
def IsS26 (w0 W:World) (g:Nat) (f0:Int) (f1:Int) (f2:List Int) (f3:List (S95)) (f4:Int) (f5:ByteArray) (f6:List (S93)):Prop:=∃ A2 c2,∃A3 c3,∃A6 c6,W.heap[g]?=some (.cells #[.int .i64 f0,.int .i64 f1,.slice A2 f2.length c2,.slice A3 f3.length c3,.int .i64 f4,.string f5,.slice A6 f6.length c6] 26 (0,0))∧w0.heap.size≤g∧Kd.C (Kd.int .i64) w0 A2 f2.length f2∧Kd.C k95 w0 A3 f3.length f3∧Kd.C k93 w0 A6 f6.length f6
theorem IsS26.grown {w0 W:World} {g:Nat} {f0:Int} {f1:Int} {f2:List Int} {f3:List (S95)} {f4:Int} {f5:ByteArray} {f6:List (S93)} {W1:World} {row:Option Nat} (h:IsS26 w0 W g f0 f1 f2 f3 f4 f5 f6) (hw:W.grownBy W1 row) (hne:some g≠row):IsS26 w0 W1 g f0 f1 f2 f3 f4 f5 f6:=by
 obtain ⟨A2,c2,A3,c3,A6,c6,hb,hg,hr2,hr3,hr6⟩:=h
 exact ⟨A2,c2,A3,c3,A6,c6,blk_grown hb hw hne,hg,hr2,hr3,hr6⟩
theorem IsS26.own_neN {w0 W:World} {g:Nat} {f0:Int} {f1:Int} {f2:List Int} {f3:List (S95)} {f4:Int} {f5:ByteArray} {f6:List (S93)} {α:Type} {d:Kd α} {e:Nat} {base:Nat} {ok:Nat→Prop} {v:Value} {xs:List α} (h:IsS26 w0 W g f0 f1 f2 f3 f4 f5 f6) (ho:Kd.N d e W base ok v xs) (ht:e≠26):some g≠v.ownBlock:=by
 obtain ⟨A2,c2,A3,c3,A6,c6,hb,hg,hr2,hr3,hr6⟩:=h
 exact Kd.N_ne ho hb ht
theorem IsS26.fresh {w0 W:World} {g:Nat} {f0:Int} {f1:Int} {f2:List Int} {f3:List (S95)} {f4:Int} {f5:ByteArray} {f6:List (S93)} (h:IsS26 w0 W g f0 f1 f2 f3 f4 f5 f6):∀ k,W.heap.size≤k→k≠g:=by
 obtain ⟨A2,c2,A3,c3,A6,c6,hb,hg,hr2,hr3,hr6⟩:=h
 exact Kd.freshB hb
theorem IsS26.kept {w0 W:World} {g:Nat} {f0:Int} {f1:Int} {f2:List Int} {f3:List (S95)} {f4:Int} {f5:ByteArray} {f6:List (S93)} {W1:World} {S:Nat→Prop} (h:IsS26 w0 W g f0 f1 f2 f3 f4 f5 f6) (hk:Kept W W1 S) (hne:¬ S g):IsS26 w0 W1 g f0 f1 f2 f3 f4 f5 f6:=by
 obtain ⟨A2,c2,A3,c3,A6,c6,hb,hg,hr2,hr3,hr6⟩:=h
 exact ⟨A2,c2,A3,c3,A6,c6,blk_kept hb hk hne,hg,hr2,hr3,hr6⟩
theorem IsS26.below {w0 W:World} {g:Nat} {f0:Int} {f1:Int} {f2:List Int} {f3:List (S95)} {f4:Int} {f5:ByteArray} {f6:List (S93)} {W1:World} (h:IsS26 w0 W g f0 f1 f2 f3 f4 f5 f6) (hw:Below W.heap.size W W1):IsS26 w0 W1 g f0 f1 f2 f3 f4 f5 f6:=h.grown (grown_of_below hw none) (by simp)
theorem IsS26.alloc {w0 W:World} {g:Nat} {f0:Int} {f1:Int} {f2:List Int} {f3:List (S95)} {f4:Int} {f5:ByteArray} {f6:List (S93)} (h:IsS26 w0 W g f0 f1 f2 f3 f4 f5 f6) (o:Obj):IsS26 w0 (W.alloc o) g f0 f1 f2 f3 f4 f5 f6:=h.below (p3_ (Below.refl _ _) o)
theorem IsS26.drewN {w0 W:World} {g:Nat} {f0:Int} {f1:Int} {f2:List Int} {f3:List (S95)} {f4:Int} {f5:ByteArray} {f6:List (S93)} (h:IsS26 w0 W g f0 f1 f2 f3 f4 f5 f6) (m:Nat):IsS26 w0 (W.drewN m) g f0 f1 f2 f3 f4 f5 f6:=h
theorem IsS26.drew {w0 W:World} {g:Nat} {f0:Int} {f1:Int} {f2:List Int} {f3:List (S95)} {f4:Int} {f5:ByteArray} {f6:List (S93)} (h:IsS26 w0 W g f0 f1 f2 f3 f4 f5 f6):IsS26 w0 W.drew g f0 f1 f2 f3 f4 f5 f6:=h
theorem IsS26.at_ {w0 W:World} {g:Nat} {f0:Int} {f1:Int} {f2:List Int} {f3:List (S95)} {f4:Int} {f5:ByteArray} {f6:List (S93)} {w':World} {m:Nat} (hq:W.drewN m=w') (h:IsS26 w0 W g f0 f1 f2 f3 f4 f5 f6):IsS26 w0 w' g f0 f1 f2 f3 f4 f5 f6:=by subst hq;exact IsS26.drewN h m
theorem IsS26.apart {w0 W:World} {g:Nat} {f0:Int} {f1:Int} {f2:List Int} {f3:List (S95)} {f4:Int} {f5:ByteArray} {f6:List (S93)} {α:Type} {d:Kd α} {e:Nat} {base:Nat} {ok:Nat→Prop} {v:Value} {xs:List α} (h:IsS26 w0 W g f0 f1 f2 f3 f4 f5 f6) (ho:d.R e W base ok v xs) (ht:∀ q,q∈e :: d.E→q≠26):d.R e W base (fun k=>ok k∧k≠g) v xs:=by
 obtain ⟨A2,c2,A3,c3,A6,c6,hb,hg,hr2,hr3,hr6⟩:=h
 exact Kd.R_types ho hb ht
theorem IsS26.own_ne {w0 W:World} {g:Nat} {f0:Int} {f1:Int} {f2:List Int} {f3:List (S95)} {f4:Int} {f5:ByteArray} {f6:List (S93)} {α:Type} {d:Kd α} {e:Nat} {base:Nat} {ok:Nat→Prop} {v:Value} {xs:List α} (h:IsS26 w0 W g f0 f1 f2 f3 f4 f5 f6) (ho:d.R e W base ok v xs) (ht:e≠26):some g≠v.ownBlock:=by
 obtain ⟨A2,c2,A3,c3,A6,c6,hb,hg,hr2,hr3,hr6⟩:=h
 exact Kd.R_ne ho hb ht
theorem IsS26.apartQ {w0 W:World} {g:Nat} {f0:Int} {f1:Int} {f2:List Int} {f3:List (S95)} {f4:Int} {f5:ByteArray} {f6:List (S93)} {α:Type} {d:Kd α} {e:Nat} {base:Nat} {ok:Nat→Prop} {v:Value} {xs:List α} (h:IsS26 w0 W g f0 f1 f2 f3 f4 f5 f6) (ho:d.Q e W base ok v xs) (ht:∀ q,q∈e :: d.E→q≠26):d.Q e W base (fun k=>ok k∧k≠g) v xs:=by
 obtain ⟨A2,c2,A3,c3,A6,c6,hb,hg,hr2,hr3,hr6⟩:=h
 exact Kd.Q_types ho hb ht
theorem IsS26.own_neQ {w0 W:World} {g:Nat} {f0:Int} {f1:Int} {f2:List Int} {f3:List (S95)} {f4:Int} {f5:ByteArray} {f6:List (S93)} {α:Type} {d:Kd α} {e:Nat} {base:Nat} {ok:Nat→Prop} {v:Value} {xs:List α} (h:IsS26 w0 W g f0 f1 f2 f3 f4 f5 f6) (ho:d.Q e W base ok v xs) (ht:e≠26):some g≠v.ownBlock:=by
 obtain ⟨A2,c2,A3,c3,A6,c6,hb,hg,hr2,hr3,hr6⟩:=h
 exact Kd.Q_ne ho hb ht
theorem IsS26.apartS {w0 W:World} {g:Nat} {f0:Int} {f1:Int} {f2:List Int} {f3:List (S95)} {f4:Int} {f5:ByteArray} {f6:List (S93)} {α:Type} {d:Kd α} {e:Nat} {base:Nat} {ok:Nat→Prop} {v:Value} {xs:List α} (h:IsS26 w0 W g f0 f1 f2 f3 f4 f5 f6) (ho:d.S e W base ok v xs) (ht:∀ q,q∈e :: d.E→q≠26):d.S e W base (fun k=>ok k∧k≠g) v xs:=by
 obtain ⟨A2,c2,A3,c3,A6,c6,hb,hg,hr2,hr3,hr6⟩:=h
 exact Kd.S_types ho hb ht
theorem IsS26.own_neS {w0 W:World} {g:Nat} {f0:Int} {f1:Int} {f2:List Int} {f3:List (S95)} {f4:Int} {f5:ByteArray} {f6:List (S93)} {α:Type} {d:Kd α} {e:Nat} {base:Nat} {ok:Nat→Prop} {v:Value} {xs:List α} (h:IsS26 w0 W g f0 f1 f2 f3 f4 f5 f6) (ho:d.S e W base ok v xs) (ht:e≠26):some g≠v.ownBlock:=by
 obtain ⟨A2,c2,A3,c3,A6,c6,hb,hg,hr2,hr3,hr6⟩:=h
 exact Kd.S_ne ho hb ht
theorem IsS26.lt {w0 W:World} {g:Nat} {f0:Int} {f1:Int} {f2:List Int} {f3:List (S95)} {f4:Int} {f5:ByteArray} {f6:List (S93)} (h:IsS26 w0 W g f0 f1 f2 f3 f4 f5 f6):g < W.heap.size:=by
 obtain ⟨A2,c2,A3,c3,A6,c6,hb,hg,hr2,hr3,hr6⟩:=h
 exact blk_lt hb
theorem IsS26.ge {w0 W:World} {g:Nat} {f0:Int} {f1:Int} {f2:List Int} {f3:List (S95)} {f4:Int} {f5:ByteArray} {f6:List (S93)} (h:IsS26 w0 W g f0 f1 f2 f3 f4 f5 f6):w0.heap.size≤g:=by
 obtain ⟨A2,c2,A3,c3,A6,c6,hb,hg,hr2,hr3,hr6⟩:=h
 exact hg
theorem IsS26.ne_blk {w0 W:World} {g:Nat} {f0:Int} {f1:Int} {f2:List Int} {f3:List (S95)} {f4:Int} {f5:ByteArray} {f6:List (S93)} {a:Nat} {cs:Array Value} {t:TypeId} {fr:Nat×Nat} (h:IsS26 w0 W g f0 f1 f2 f3 f4 f5 f6) (hb2:W.heap[a]?=some (.cells cs t fr)) (ht:t≠26):g≠a:=by
 obtain ⟨A2,c2,A3,c3,A6,c6,hb,hg,hr2,hr3,hr6⟩:=h
 rintro rfl
 rw [hb] at hb2
 injection hb2 with hb2
 injection hb2 with _ ht2
 exact ht ht2.symm
theorem IsS26.far {w0 W:World} {g:Nat} {f0:Int} {f1:Int} {f2:List Int} {f3:List (S95)} {f4:Int} {f5:ByteArray} {f6:List (S93)} {p:Addr} (h:IsS26 w0 W g f0 f1 f2 f3 f4 f5 f6) (hne:g≠p.block) (u:Value):IsS26 w0 (W.setCell p u) g f0 f1 f2 f3 f4 f5 f6:=by
 obtain ⟨A2,c2,A3,c3,A6,c6,hb,hg,hr2,hr3,hr6⟩:=h
 exact ⟨A2,c2,A3,c3,A6,c6,blk_far hb hne u,hg,hr2,hr3,hr6⟩
theorem cellS26_0 {W:World} {g:Nat} {A2:Option Addr} {c2:Nat} {A3:Option Addr} {c3:Nat} {A6:Option Addr} {c6:Nat} {f0:Int} {f1:Int} {f2:List Int} {f3:List (S95)} {f4:Int} {f5:ByteArray} {f6:List (S93)} (h:W.heap[g]?=some (.cells #[.int .i64 f0,.int .i64 f1,.slice A2 f2.length c2,.slice A3 f3.length c3,.int .i64 f4,.string f5,.slice A6 f6.length c6] 26 (0,0))):W.cell? ⟨g,0,none⟩=some (.int .i64 f0):=(bc_ h 0).trans rfl
theorem IsS26.set_0 {w0 W:World} {g:Nat} {f0:Int} {f1:Int} {f2:List Int} {f3:List (S95)} {f4:Int} {f5:ByteArray} {f6:List (S93)} (h:IsS26 w0 W g f0 f1 f2 f3 f4 f5 f6) (x:Int):IsS26 w0 (W.setCell ⟨g,0,none⟩ (.int .i64 x)) g x f1 f2 f3 f4 f5 f6:=by
 obtain ⟨A2,c2,A3,c3,A6,c6,hb,hg,hr2,hr3,hr6⟩:=h
 exact ⟨A2,c2,A3,c3,A6,c6,by simpa using blk_set hb 0 (.int .i64 x),hg,hr2,hr3,hr6⟩
theorem cellS26_1 {W:World} {g:Nat} {A2:Option Addr} {c2:Nat} {A3:Option Addr} {c3:Nat} {A6:Option Addr} {c6:Nat} {f0:Int} {f1:Int} {f2:List Int} {f3:List (S95)} {f4:Int} {f5:ByteArray} {f6:List (S93)} (h:W.heap[g]?=some (.cells #[.int .i64 f0,.int .i64 f1,.slice A2 f2.length c2,.slice A3 f3.length c3,.int .i64 f4,.string f5,.slice A6 f6.length c6] 26 (0,0))):W.cell? ⟨g,1,none⟩=some (.int .i64 f1):=(bc_ h 1).trans rfl
theorem IsS26.set_1 {w0 W:World} {g:Nat} {f0:Int} {f1:Int} {f2:List Int} {f3:List (S95)} {f4:Int} {f5:ByteArray} {f6:List (S93)} (h:IsS26 w0 W g f0 f1 f2 f3 f4 f5 f6) (x:Int):IsS26 w0 (W.setCell ⟨g,1,none⟩ (.int .i64 x)) g f0 x f2 f3 f4 f5 f6:=by
 obtain ⟨A2,c2,A3,c3,A6,c6,hb,hg,hr2,hr3,hr6⟩:=h
 exact ⟨A2,c2,A3,c3,A6,c6,by simpa using blk_set hb 1 (.int .i64 x),hg,hr2,hr3,hr6⟩
theorem cellS26_2 {W:World} {g:Nat} {A2:Option Addr} {c2:Nat} {A3:Option Addr} {c3:Nat} {A6:Option Addr} {c6:Nat} {f0:Int} {f1:Int} {f2:List Int} {f3:List (S95)} {f4:Int} {f5:ByteArray} {f6:List (S93)} (h:W.heap[g]?=some (.cells #[.int .i64 f0,.int .i64 f1,.slice A2 f2.length c2,.slice A3 f3.length c3,.int .i64 f4,.string f5,.slice A6 f6.length c6] 26 (0,0))):W.cell? ⟨g,2,none⟩=some (.slice A2 f2.length c2):=(bc_ h 2).trans rfl
theorem cellS26_3 {W:World} {g:Nat} {A2:Option Addr} {c2:Nat} {A3:Option Addr} {c3:Nat} {A6:Option Addr} {c6:Nat} {f0:Int} {f1:Int} {f2:List Int} {f3:List (S95)} {f4:Int} {f5:ByteArray} {f6:List (S93)} (h:W.heap[g]?=some (.cells #[.int .i64 f0,.int .i64 f1,.slice A2 f2.length c2,.slice A3 f3.length c3,.int .i64 f4,.string f5,.slice A6 f6.length c6] 26 (0,0))):W.cell? ⟨g,3,none⟩=some (.slice A3 f3.length c3):=(bc_ h 3).trans rfl
theorem cellS26_4 {W:World} {g:Nat} {A2:Option Addr} {c2:Nat} {A3:Option Addr} {c3:Nat} {A6:Option Addr} {c6:Nat} {f0:Int} {f1:Int} {f2:List Int} {f3:List (S95)} {f4:Int} {f5:ByteArray} {f6:List (S93)} (h:W.heap[g]?=some (.cells #[.int .i64 f0,.int .i64 f1,.slice A2 f2.length c2,.slice A3 f3.length c3,.int .i64 f4,.string f5,.slice A6 f6.length c6] 26 (0,0))):W.cell? ⟨g,4,none⟩=some (.int .i64 f4):=(bc_ h 4).trans rfl
theorem IsS26.set_4 {w0 W:World} {g:Nat} {f0:Int} {f1:Int} {f2:List Int} {f3:List (S95)} {f4:Int} {f5:ByteArray} {f6:List (S93)} (h:IsS26 w0 W g f0 f1 f2 f3 f4 f5 f6) (x:Int):IsS26 w0 (W.setCell ⟨g,4,none⟩ (.int .i64 x)) g f0 f1 f2 f3 x f5 f6:=by
 obtain ⟨A2,c2,A3,c3,A6,c6,hb,hg,hr2,hr3,hr6⟩:=h
 exact ⟨A2,c2,A3,c3,A6,c6,by simpa using blk_set hb 4 (.int .i64 x),hg,hr2,hr3,hr6⟩
theorem cellS26_5 {W:World} {g:Nat} {A2:Option Addr} {c2:Nat} {A3:Option Addr} {c3:Nat} {A6:Option Addr} {c6:Nat} {f0:Int} {f1:Int} {f2:List Int} {f3:List (S95)} {f4:Int} {f5:ByteArray} {f6:List (S93)} (h:W.heap[g]?=some (.cells #[.int .i64 f0,.int .i64 f1,.slice A2 f2.length c2,.slice A3 f3.length c3,.int .i64 f4,.string f5,.slice A6 f6.length c6] 26 (0,0))):W.cell? ⟨g,5,none⟩=some (.string f5):=(bc_ h 5).trans rfl
theorem IsS26.set_5 {w0 W:World} {g:Nat} {f0:Int} {f1:Int} {f2:List Int} {f3:List (S95)} {f4:Int} {f5:ByteArray} {f6:List (S93)} (h:IsS26 w0 W g f0 f1 f2 f3 f4 f5 f6) (x:ByteArray):IsS26 w0 (W.setCell ⟨g,5,none⟩ (.string x)) g f0 f1 f2 f3 f4 x f6:=by
 obtain ⟨A2,c2,A3,c3,A6,c6,hb,hg,hr2,hr3,hr6⟩:=h
 exact ⟨A2,c2,A3,c3,A6,c6,by simpa using blk_set hb 5 (.string x),hg,hr2,hr3,hr6⟩
theorem cellS26_6 {W:World} {g:Nat} {A2:Option Addr} {c2:Nat} {A3:Option Addr} {c3:Nat} {A6:Option Addr} {c6:Nat} {f0:Int} {f1:Int} {f2:List Int} {f3:List (S95)} {f4:Int} {f5:ByteArray} {f6:List (S93)} (h:W.heap[g]?=some (.cells #[.int .i64 f0,.int .i64 f1,.slice A2 f2.length c2,.slice A3 f3.length c3,.int .i64 f4,.string f5,.slice A6 f6.length c6] 26 (0,0))):W.cell? ⟨g,6,none⟩=some (.slice A6 f6.length c6):=(bc_ h 6).trans rfl
theorem IsS26.new (w0 W:World) (A2:Option Addr) (c2:Nat) (A3:Option Addr) (c3:Nat) (A6:Option Addr) (c6:Nat) (f0:Int) (f1:Int) (f2:List Int) (f3:List (S95)) (f4:Int) (f5:ByteArray) (f6:List (S93)) (hB:Below w0.heap.size w0 W) (hr2:Kd.C (Kd.int .i64) w0 A2 f2.length f2) (hr3:Kd.C k95 w0 A3 f3.length f3) (hr6:Kd.C k93 w0 A6 f6.length f6):IsS26 w0 (W.alloc (.cells #[.int .i64 f0,.int .i64 f1,.slice A2 f2.length c2,.slice A3 f3.length c3,.int .i64 f4,.string f5,.slice A6 f6.length c6] 26)) W.heap.size f0 f1 f2 f3 f4 f5 f6:=⟨A2,c2,A3,c3,A6,c6,by simpa using heap_alloc_new W _,hB.size,hr2,hr3,hr6⟩

/-! ### conf_hosts: function 67 -/
-- BY HAND
theorem dropInt (l0:List Int) (i:Int) (h0:0≤i) (h1:i < l0.length):l0.drop i.toNat=rd l0 i :: l0.drop (i.toNat+1):=by
 have h:i.toNat < l0.length:=by omega
 rw [List.drop_eq_getElem_cons h]
 unfold rd
 rw [List.getD_eq_getElem?_getD,List.getElem?_eq_getElem h]
 rfl
theorem conf_hosts.calls (g:Nat) (a b:Int) (A0:Option Addr) (c0:Nat) (l0:List Int) (n:Int) (w:World) (ha:w.cell? ⟨g,0,none⟩=some (.int .i64 a)) (hb:w.cell? ⟨g,1,none⟩=some (.int .i64 b)) (h2:2≤a∧b≤254) (hr0:Kd.C (Kd.int .i64) w A0 l0.length l0) (hs:l0.length≤140737488351232) :
  Calls Tryz.prog 67 #[.pointer (some ⟨g,0,none⟩),.slice A0 l0.length c0,.int .i64 n] w fun e w'=>e=.returned (.bool (hostsB a b l0 n))∧Below w.heap.size w w':=by
 have HR0:=am_ hr0
 have HA:=am_ ha
 have HB1:=am_ hb
 have e4:=goHosts_nil a b l0 n
 replace e4:=am_ e4
 obtain ⟨r,hr⟩:∃ r,hostsB a b l0 n=r:=⟨_,rfl⟩
 rw [hr] at e4 ⊢
 clear hr0 ha hb hr
 have hmm:=@run_makeMap Tryz.prog
 go_enter Tryz.func67,Tryz.ntmps67
 go_wp2
 clear hmm
 go_loopg [13] l0.length (fun d v9 w'=>∃ (i:Int) (cs:List Int),0≤i∧i.toNat+d=l0.length∧v9=.int .i64 i∧Aside0 (w'.ownsMap Tryz.prog 3 (plainElem (H:=Unit) Tryz.prog 4) w.heap.size i.toNat (mapD (.int .i64) cs))∧Aside0 (Below w.heap.size w w')∧Aside0 (goHosts a b [] l0=goHosts a b cs (l0.drop i.toNat)))
 case atStart=>exact ⟨0,[],by omega,by simp,rfl,⟨World.ownsMap_made _ _ _ _⟩,⟨(Below.refl _ _).alloc (Nat.le_refl _) _⟩,⟨rfl⟩⟩
 case round =>
  obtain ⟨i,cs,hi0,hd,rfl,HM,HB,HS⟩:=hrel
  have ha:=(HB.out.cell (wb_ w _ HA.out)).trans HA.out
  have hb:=(HB.out.cell (wb_ w _ HB1.out)).trans HB1.out
  by_cases hlt:i < (l0.length:Int)
  ·obtain ⟨ad,e1,hx0⟩:=Kd.at_int HR0.out i hi0 hlt
   cases e1
   replace hx0:=(HB.out.cell (wb_ w _ hx0)).trans hx0
   have HD:=HS.out
   rw [dropInt l0 i hi0 hlt] at HD
   clear HS
   generalize rd l0 i=x at hx0 HD
   replace HD:=am_ HD
   have fin:¬ (a≤x∧x≤b∧x∉cs)→false=r:=fun e=>by
    rw [←e4.out,HD.out]
    unfold goHosts
    rw [if_neg e]
    rfl
   replace fin:=am_ fin
   by_cases q1:x < a
   ·go_wp2
    go_ret
    exact ⟨ret_bool (fin.out (by omega)),HB.out⟩
   by_cases q2:b < x
   ·go_wp2
    go_ret
    exact ⟨ret_bool (fin.out (by omega)),HB.out⟩
   have hkey:=Maps.keyOf_int_mk Tryz.underlying3 (a:=x) (WalkArith.wf_i64 (by omega))
   have hlook:=setLook (.int .i64) (fun _=>trivial) (fun _ _ e=>by injection e) (Maps.int_keyed Tryz.underlying3) Tryz.underlying110 Tryz.underlying4 (by kernel_rfl) HM.out hkey (b3:=decide (x∈cs)) decide_eq_true_iff
   by_cases q3:x∈cs
   ·rw [decide_eq_true q3] at hlook
    go_wp2
    go_ret
    exact ⟨ret_bool (fin.out (fun e=>e.2.2 q3)),HB.out⟩
   rw [decide_eq_false q3] at hlook
   have HN:=am_ (show goHosts a b [] l0=goHosts a b (cs ++ [x]) (l0.drop (i.toNat+1)) by
    rw [HD.out]
    conv=>lhs;unfold goHosts
    rw [if_pos ⟨by omega,by omega,q3⟩])
   clear fin HD
   have hown:=HM.out
   go_wp2_with (first
    | (at_mapUpdate;refine wpList_mapUpdate_own _ rfl _ _ _ 110 rfl 3 4 (Maps.int_keyed Tryz.underlying3) Tryz.underlying110 _ w.heap.size i.toNat _ rfl hown (by unfold maxLen;omega) _ _ _ rfl rfl hkey _ [] (plainElem_bool Tryz.underlying4 true) ?_;intro w1 hown1 hgrow1)
    | go_in)
   go_roundg (l0.length - (i.toNat+1))
   case measure=>first|omega|(simp;omega)
   case rel =>
    have e2:(i+1).toNat=i.toNat+1:=by omega
    refine ⟨i+1,cs ++ [x],by omega,by omega,by go_num,⟨?_⟩,⟨?_⟩,⟨?_⟩⟩
    ·rw [mapD_snoc,e2]
     exact hown1
    ·exact HB.out.grown hgrow1 HB.out.size (fun j hj=>by cases hj;exact Nat.le_refl _)
    ·rw [e2]
     exact HN.out
  ·have e3:l0.drop i.toNat=[]:=List.drop_eq_nil_of_le (by omega)
   have HE:=am_ (show goHosts a b [] l0=true by rw [HS.out,e3];rfl)
   clear HS
   go_wp2
   go_ret
   refine ⟨ret_bool ?_,HB.out⟩
   rw [←e4.out,HE.out,Bool.true_and]

/-! ### ident_May: function 43 -/
def ident_May.f (a0:ByteArray):Option (Bool):=if (a0.size:Int) ≥ 1 then (some (decide ((a0.size:Int)≤16))) else (some false)
theorem ident_May.calls (a0:ByteArray) (r:Bool) (w:World) (h:ident_May.f a0=some r) :
  Calls Tryz.prog 43 #[.string a0] w fun e w'=>e=.returned (.bool r)∧Drawn0 w w':=by
 have H:(if (a0.size:Int) ≥ 1 then (some (decide ((a0.size:Int)≤16))) else (some false))=some r:=h
 clear h
 by_cases c2:(a0.size:Int) ≥ 1
 ·rw [if_pos c2] at H
  have c2b0:decide (1≤(a0.size:Int))=true:=decide_eq_true c2
  have c2b1:decide (1≤a0.size)=true:=decide_eq_true (by omega)
  clear c2
  obtain rfl:=e5_ H
  go_enter Tryz.func43,Tryz.ntmps43
  go_wp2
  go_ret
  exact ⟨by first|rfl|(simp;done)|(simp [*];done),by repeat (first|exact Drawn0.refl _|apply Drawn0.step)⟩
 rw [if_neg c2] at H
 have c2b0:decide (1≤(a0.size:Int))=false:=decide_eq_false c2
 have c2b1:decide (1≤a0.size)=false:=decide_eq_false (by omega)
 clear c2
 obtain rfl:=e5_ H
 go_enter Tryz.func43,Tryz.ntmps43
 go_wp2
 go_ret
 exact ⟨by first|rfl|(simp;done)|(simp [*];done),by repeat (first|exact Drawn0.refl _|apply Drawn0.step)⟩

/-! ### ident_May_c: function 43 -/
def ident_May_c.f (a0:ByteArray):Option Bool:=some (clientB a0)
theorem ident_May_c.calls (a0:ByteArray) (r:Bool) (w:World) (h:ident_May_c.f a0=some r) :
  Calls Tryz.prog 43 #[.string a0] w fun e w'=>e=.returned (.bool r)∧Drawn0 w w':=by
 refine ident_May.calls a0 r w ?_
 rw [←h]
 unfold ident_May.f ident_May_c.f clientB
 by_cases q:(a0.size:Int) ≥ 1
 ·rw [if_pos q]
  congr 1
  rw [Bool.eq_iff_iff,decide_eq_true_eq,decide_eq_true_eq]
  omega
 ·rw [if_neg q]
  congr 1
  symm
  rw [decide_eq_false_iff_not]
  omega

/-! ### conf_reserved: function 68 -/
-- BY HAND
theorem grown_drewN_ (w:World) (n:Nat) (row:Option Nat):w.grownBy (w.drewN n) row:=⟨rfl,rfl,rfl,Nat.le_refl _,fun _ _ _=>rfl⟩
theorem dropRes (l0:List S95) (i:Int) (h0:0≤i) (h1:i < l0.length):l0.drop i.toNat=rd_T95 l0 i :: l0.drop (i.toNat+1)∧l0.take (i.toNat+1)=l0.take i.toNat ++ [rd_T95 l0 i]:=by
 have h:i.toNat < l0.length:=by omega
 have e:rd_T95 l0 i=l0[i.toNat]:=by
  unfold rd_T95
  rw [List.getD_eq_getElem?_getD,List.getElem?_eq_getElem h]
  rfl
 rw [e,List.drop_eq_getElem_cons h,List.take_succ_eq_append_getElem h]
 exact ⟨rfl,rfl⟩
theorem conf_reserved.calls (g:Nat) (a b:Int) (A0:Option Addr) (c0:Nat) (l0:List S95) (w:World) (ha:w.cell? ⟨g,0,none⟩=some (.int .i64 a)) (hb:w.cell? ⟨g,1,none⟩=some (.int .i64 b)) (hl:w.cell? ⟨g,3,none⟩=some (.slice A0 l0.length c0)) (h2:2≤a∧b≤254) (hr0:Kd.C k95 w A0 l0.length l0) (hs:l0.length≤5864062014805) :
  Calls Tryz.prog 68 #[.pointer (some ⟨g,0,none⟩)] w fun e w'=>e=.returned (.bool (reservedB a b l0))∧Below w.heap.size w w':=by
 have HR0:=am_ hr0
 have HA:=am_ ha
 have HB1:=am_ hb
 have H2:=am_ h2
 have e4:=goRes_nil a b l0
 replace e4:=am_ e4
 obtain ⟨r,hr⟩:∃ r,reservedB a b l0=r:=⟨_,rfl⟩
 rw [hr] at e4 ⊢
 clear hr0 ha hb hr h2
 have hl1:(w.alloc (.map #[] 0)).cell? ⟨g,3,none⟩=some (.slice A0 l0.length c0):=(((Below.refl w.heap.size w).alloc (Nat.le_refl _) _).cell (wb_ w _ hl)).trans hl
 have hmm:=@run_makeMap Tryz.prog
 go_enter Tryz.func68,Tryz.ntmps68
 go_wp2
 clear hmm
 go_loopg [3,13] l0.length (fun d v3 v9 w'=>∃ (i:Int) (cs:List (List UInt8)),0≤i∧i.toNat+d=l0.length∧v9=.int .i64 i∧Aside0 (w'.ownsMap Tryz.prog 9 (plainElem (H:=Unit) Tryz.prog 4) w.heap.size i.toNat (mapD .string cs))∧Aside0 (Kd.R (Kd.int .i64) 3 w' w.heap.size (fun k=>k≠w.heap.size) v3 ((l0.take i.toNat).map fun x=>x.f1))∧Aside0 (Below w.heap.size w w')∧Aside0 (goRes [] l0=goRes cs (l0.drop i.toNat)))
 case atStart=>exact ⟨0,[],by omega,by simp,rfl,⟨World.ownsMap_made _ _ _ _⟩,⟨Kd.R_nil _ _ _ _ _⟩,⟨(Below.refl _ _).alloc (Nat.le_refl _) _⟩,⟨rfl⟩⟩
 case round =>
  obtain ⟨i,cs,hi0,hd,rfl,HM,HV,HB,HS⟩:=hrel
  by_cases hlt:i < (l0.length:Int)
  ·obtain ⟨ad,e1,hx0,hx1⟩:=at_T95 HR0.out i hi0 hlt
   cases e1
   replace hx0:=(HB.out.cell (wb_ w _ hx0)).trans hx0
   replace hx1:=(HB.out.cell (wb_ w _ hx1)).trans hx1
   have HD:=HS.out
   obtain ⟨hd1,hd2⟩:=dropRes l0 i hi0 hlt
   rw [hd1] at HD
   have HT:=am_ hd2
   clear HS hd1 hd2
   generalize rd_T95 l0 i=x at hx0 hx1 HD HT
   obtain ⟨s,ho⟩:=x
   simp only at hx0 hx1
   replace HD:=am_ HD
   have fin:¬ (clientB s=true∧s.data.toList∉cs)→false=r:=fun e=>by
    rw [←e4.out,HD.out]
    unfold goRes
    rw [if_neg e]
    rfl
   replace fin:=am_ fin
   cases q1:clientB s with
   | false =>
    replace q1:=am_ q1
    go_wp2_with (first|(go_at_call 43;(with_reducible refine (ident_May_c.calls s false _ (by unfold ident_May_c.f;rw [q1.out])).mono ?_);rintro e w3 ⟨rfl,⟨nd,rfl⟩⟩))
    go_ret
    exact ⟨ret_bool (fin.out (fun e=>by rw [q1.out] at e;cases e.1)),by repeat (with_reducible first|exact HB.out|apply p3_|apply p1_|apply p2_)⟩
   | true =>
    have hsz:s.size≤maxLen:=by
     unfold clientB at q1
     rw [decide_eq_true_eq] at q1
     unfold maxLen
     omega
    replace q1:=am_ q1
    have hkey:=WideMaps.keyOf_string_mk Tryz.underlying9 hsz
    obtain ⟨b3,hb3⟩:∃ b3:Bool,(b3=true ↔ s.data.toList∈cs):=⟨decide _,decide_eq_true_iff⟩
    have HL:∀ W,(W.ownsMap Tryz.prog 9 (plainElem (H:=Unit) Tryz.prog 4) w.heap.size i.toNat (mapD .string cs))→(Instr.lookup 106 (.map (some w.heap.size)) (.string s) false).run Tryz.prog W=.ok (.bool b3) W:=fun W h=>setLook Lit.string (fun _=>trivial) (fun _ _ e=>by injection e) (Maps.string_keyed Tryz.underlying9) Tryz.underlying106 Tryz.underlying4 (by kernel_rfl) h hkey hb3
    replace HL:=am_ HL
    replace hb3:=am_ hb3
    replace hkey:=am_ hkey
    have HN:s.data.toList∉cs→goRes [] l0=goRes (cs ++ [s.data.toList]) (l0.drop (i.toNat+1)):=fun e=>by
     rw [HD.out]
     conv=>lhs;unfold goRes
     rw [if_pos ⟨q1.out,e⟩]
    replace HN:=am_ HN
    have hlen:((l0.take i.toNat).map fun x=>x.f1).length=i.toNat:=by
     rw [List.length_map,List.length_take]
     omega
    replace hlen:=am_ hlen
    clear HD
    cases b3 with
    | true =>
     have hin:=am_ (hb3.out.1 rfl)
     go_wp2_with (first|(go_at_call 43;(with_reducible refine (ident_May_c.calls s true _ (by unfold ident_May_c.f;rw [q1.out])).mono ?_);rintro e w3 ⟨rfl,⟨nd,rfl⟩⟩;have hlook:=HL.out _ ((HM.out.alloc (.cells #[.string s,.int .i64 ho] 95)).kept (grown_drewN_ _ nd none) (by simp))))
     go_ret
     exact ⟨ret_bool (fin.out (fun e=>e.2 hin.out)),by repeat (with_reducible first|exact HB.out|apply p3_|apply p1_|apply p2_)⟩
    | false =>
     have hnot:s.data.toList∉cs:=fun e=>by cases hb3.out.2 e
     replace hnot:=am_ hnot
     go_wp2_with (first
      | (go_at_call 43;(with_reducible refine (ident_May_c.calls s true _ (by unfold ident_May_c.f;rw [q1.out])).mono ?_);rintro e w3 ⟨rfl,⟨nd,rfl⟩⟩;have hown:=((HM.out.alloc (.cells #[.string s,.int .i64 ho] 95)).kept (grown_drewN_ _ nd none) (by simp));have hlook:=HL.out _ hown;have HO:=am_ hown;clear hown;have HBW:=am_ (show Below wr.heap.size wr _ from p1_ (p3_ (Below.refl _ _) (.cells #[.string s,.int .i64 ho] 95)) nd);have HBx:=am_ (show ((wr.alloc (.cells #[.string s,.int .i64 ho] 95)).drewN nd).heap[wr.heap.size]?=some (.cells #[.string s,.int .i64 ho] 95) from blk_new _ _))
      | (at_mapUpdate;refine wpList_mapUpdate_own _ rfl _ _ _ 106 rfl 9 4 (Maps.string_keyed Tryz.underlying9) Tryz.underlying106 _ w.heap.size i.toNat _ rfl HO.out (by unfold maxLen;omega) _ _ _ rfl rfl hkey.out _ [] (plainElem_bool Tryz.underlying4 true) ?_;intro w1 hown1 hgrow1;have HG1:=am_ hgrow1;have HB2:=am_ ((bt_ HB.out HBW.out).grown hgrow1 (bt_ HB.out HBW.out).size (fun j hj=>by cases hj;exact Nat.le_refl _));have HO1:=am_ hown1;have k1:=kept_g (g:=wr.heap.size) hgrow1 (by first|(simp;done)|(simp;omega)) (by intro e;have:=HM.out.lt;have:=e5_ e;omega);clear hown1 hgrow1)
      | (at_builtin;refine Kd.R_append (Kd.int .i64) (w0:=w) w.heap.size rfl (.tmp 30) (.tmp 33) 22 3 (.int .i64 0) 8 rfl Tryz.underlying22 info3 rfl (by decide) (by omega) u3 ((l0.take i.toNat).map fun x=>x.f1) ho [.int .i64 ho] (fun k=>k≠w.heap.size) (fun _=>False) rfl rfl ?aP (fun _ hk=>hk.elim) ?aF ?aO ?aB ?aS ?aL ?_;(case aP=>exact rfl);(case aF=>exact fun k hk e=>by have h1:=HO1.out.lt;omega);(case aO=>exact Kd.R_grown (Kd.R_below HV.out HBW.out) HG1.out (fun k hk e=>hk (e5_ e)));(case aB=>exact HB2.out);(case aS=>exact HB2.out.size);(case aL=>rw [hlen.out];omega);intro v1 w3 hov hb hg hat;have HOV:=am_ hov;have HBV:=am_ hb;have HMV:=am_ (HO1.out.kept hg (fun e=>(Kd.R_grown (Kd.R_below HV.out HBW.out) HG1.out (fun k hk e=>hk (e5_ e))).1 _ e.symm rfl));clear hov hb hg hat))
     go_roundg (l0.length - (i.toNat+1))
     case measure=>first|omega|(simp;omega)
     case rel =>
      have e2:(i+1).toNat=i.toNat+1:=by omega
      refine ⟨i+1,cs ++ [s.data.toList],by omega,by omega,by go_num,⟨?_⟩,⟨?_⟩,⟨HBV.out⟩,⟨?_⟩⟩
      ·rw [mapD_snoc,e2]
       exact HMV.out
      ·rw [e2,HT.out,List.map_append]
       exact HOV.out
      ·rw [e2]
       exact HN.out hnot.out
  ·have e3:l0.drop i.toNat=[]:=List.drop_eq_nil_of_le (by omega)
   have e5:(l0.take i.toNat).map (fun x=>x.f1)=l0.map (fun x=>x.f1):=by rw [List.take_of_length_le (by omega)]
   have HE:=am_ (show goRes [] l0=true by rw [HS.out,e3];rfl)
   have HV':=HV.out
   rw [e5] at HV'
   have e6:(l0.map (fun x=>x.f1)).length≤140737488351232:=by rw [List.length_map];omega
   generalize l0.map (fun x=>x.f1)=hs at HV' e4 e6
   obtain ⟨A1,c1,rfl,hc1,hC1⟩:=Kd.R_reads HV'
   have HC1:=am_ hC1
   replace e6:=am_ e6
   have ha:=(HB.out.cell (wb_ w _ HA.out)).trans HA.out
   have hb:=(HB.out.cell (wb_ w _ HB1.out)).trans HB1.out
   have HH:=am_ (conf_hosts.calls g a b A1 c1 hs 4 wr ha hb H2.out HC1.out e6.out)
   clear HS e3 e5 HV' hC1 ha hb
   go_wp2_with (first|(go_at_call 67;(with_reducible refine HH.out.mono ?_);rintro e w3 ⟨rfl,hb3⟩))
   go_ret
   refine ⟨ret_bool ?_,bt_ HB.out hb3⟩
   rw [←e4.out,HE.out,Bool.true_and]

/-! ### rr_word: function 92 -/
def rr_word.f (a0:Int):Option (Bool):=if a0 ≥ 0 then (some (decide (a0≤4294967295))) else (some false)
theorem rr_word.calls (a0:Int) (r:Bool) (w:World) (h:rr_word.f a0=some r) :
  Calls Tryz.prog 92 #[.int .i64 a0] w fun e w'=>e=.returned (.bool r)∧Drawn0 w w':=by
 have H:(if a0 ≥ 0 then (some (decide (a0≤4294967295))) else (some false))=some r:=h
 clear h
 by_cases c2:a0 ≥ 0
 ·rw [if_pos c2] at H
  have c2b0:decide (0≤a0)=true:=decide_eq_true c2
  clear c2
  obtain rfl:=e5_ H
  go_enter Tryz.func92,Tryz.ntmps92
  go_wp2
  go_ret
  exact ⟨by first|rfl|(simp;done)|(simp [*];done),by repeat (first|exact Drawn0.refl _|apply Drawn0.step)⟩
 rw [if_neg c2] at H
 have c2b0:decide (0≤a0)=false:=decide_eq_false c2
 clear c2
 obtain rfl:=e5_ H
 go_enter Tryz.func92,Tryz.ntmps92
 go_wp2
 go_ret
 exact ⟨by first|rfl|(simp;done)|(simp [*];done),by repeat (first|exact Drawn0.refl _|apply Drawn0.step)⟩

/-! ### rr_word_c: function 92 -/
def rr_word_c.f (a0:Int):Option Bool:=some (wordB a0)
theorem rr_word_c.calls (a0:Int) (r:Bool) (w:World) (h:rr_word_c.f a0=some r) :
  Calls Tryz.prog 92 #[.int .i64 a0] w fun e w'=>e=.returned (.bool r)∧Drawn0 w w':=by
 refine rr_word.calls a0 r w ?_
 rw [←h]
 unfold rr_word.f rr_word_c.f wordB
 by_cases q:a0 ≥ 0
 ·rw [if_pos q]
  congr 1
  rw [Bool.eq_iff_iff,decide_eq_true_eq,decide_eq_true_eq]
  omega
 ·rw [if_neg q]
  congr 1
  symm
  rw [decide_eq_false_iff_not]
  omega

/-! ### rr_May: function 83 -/
-- BY HAND
def rr_May.f (a0_0:ByteArray) (a0_1:Int) (a0_2:Int) (a0_3:Int) (a0_4:ByteArray) (a0_5:ByteArray) (a0_6:Int):Option Bool:=if a0_0.size≤140737488351232∧a0_4.size≤140737488351232∧(a0_1=1∨a0_1=5∨a0_1=16) then some (rrB a0_0 a0_1 a0_2 a0_3 a0_4 a0_5 a0_6) else none
theorem rr_May.calls (a0_0:ByteArray) (a0_1:Int) (a0_2:Int) (a0_3:Int) (a0_4:ByteArray) (a0_5:ByteArray) (a0_6:Int) (r:Bool) (w:World) (h:rr_May.f a0_0 a0_1 a0_2 a0_3 a0_4 a0_5 a0_6=some r) :
  Calls Tryz.prog 83 #[.agg #[.string a0_0,.int .i64 a0_1,.int .i64 a0_2,.int .i64 a0_3,.string a0_4,.string a0_5,.int .i64 a0_6]] w fun e w'=>e=.returned (.bool r)∧Below w.heap.size w w':=by
 unfold rr_May.f at h
 by_cases hs:a0_0.size≤140737488351232∧a0_4.size≤140737488351232∧(a0_1=1∨a0_1=5∨a0_1=16)
 rotate_left
 ·rw [if_neg hs] at h
  cases h
 rw [if_pos hs] at h
 have HR:=am_ (e5_ h)
 obtain ⟨n0,h0⟩:∃ b,nameB (bytesOf a0_0)=b:=⟨_,rfl⟩
 obtain ⟨n4,h4⟩:∃ b,nameB (bytesOf a0_4)=b:=⟨_,rfl⟩
 have C0:=am_ (fun W=>name_May_c.calls a0_0 n0 W (by unfold name_May_c.f;rw [if_pos (by have:=hs.1;omega),h0]))
 have C4:=am_ (fun W=>name_May_c.calls a0_4 n4 W (by unfold name_May_c.f;rw [if_pos (by have:=hs.2.1;omega),h4]))
 have Cw:=am_ (fun x W=>rr_word_c.calls x (wordB x) W rfl)
 have H0:=am_ h0
 have H4:=am_ h4
 have T4:=am_ (show a0_4.toList=[]→n4=true from fun e=>by rw [←H4.out,show bytesOf a0_4=[] from List.length_eq_zero_iff.1 (by rw [bytesOf_length];exact (toList_nil _).1 e)];rfl)
 have T5:=am_ (show a0_5.toList=[]→a0_5.size=0 from fun e=>(toList_nil _).1 e)
 have HB:=am_ (Below.refl w.heap.size w)
 have hq:=hs.2.2
 clear h hs h0 h4
 rcases hq with rfl|rfl|rfl
 all_goals
  go_enter Tryz.func83,Tryz.ntmps83
  go_wp2_with fail
  all_goals try go_region_with (first
   | fail
   | (go_at_call 44;(with_reducible refine (C4.out _).mono ?_);rintro e w2 ⟨rfl,⟨nd,rfl⟩⟩)
   | (go_at_call 92;(with_reducible refine (Cw.out _ _).mono ?_);rintro e w3 ⟨rfl,⟨nd,rfl⟩⟩))
  all_goals go_wp2_with (first
   | (go_at_call 44;(with_reducible refine (C0.out _).mono ?_);rintro e w2 ⟨rfl,⟨nd,rfl⟩⟩))
  all_goals go_ret
  all_goals refine ⟨ret_bool ?_,?_⟩
  all_goals first
   | ((repeat (with_reducible first|exact HB.out|apply p3_|apply p1_|apply p2_|refine Below.setCell ?_ (by simp) _));done)
   | (have e0:=H0.out;have e4:=H4.out;have t4:=T4.out;have t5:=T5.out;have w0:wordB 0=true:=rfl;rw [←HR.out];simp only [rrB,e0,e4];clear HR C0 C4 Cw H0 H4;simp_all<;>omega)

/-! ### stringslite_HasSuffix: function 100 -/
def stringslite_HasSuffix.f (a0:ByteArray) (a1:ByteArray):Option (Bool):=if (a0.size:Int) ≥ (a1.size:Int) then (if 0≤(wrap64 ((a0.size:Int) - (a1.size:Int))) then (if (wrap64 ((a0.size:Int) - (a1.size:Int)))≤(a0.size:Int) then (some ((a0.extract ((wrap64 ((a0.size:Int) - (a1.size:Int))):Int).toNat a0.size).toList == a1.toList)) else (none)) else (none)) else (some false)
theorem stringslite_HasSuffix.calls (a0:ByteArray) (a1:ByteArray) (r:Bool) (w:World) (h:stringslite_HasSuffix.f a0 a1=some r) :
  Calls Tryz.prog 100 #[.string a0,.string a1] w fun e w'=>e=.returned (.bool r)∧Drawn0 w w':=by
 have H:(if (a0.size:Int) ≥ (a1.size:Int) then (if 0≤(wrap64 ((a0.size:Int) - (a1.size:Int))) then (if (wrap64 ((a0.size:Int) - (a1.size:Int)))≤(a0.size:Int) then (some ((a0.extract ((wrap64 ((a0.size:Int) - (a1.size:Int))):Int).toNat a0.size).toList == a1.toList)) else (none)) else (none)) else (some false))=some r:=h
 clear h
 by_cases c3:(a0.size:Int) ≥ (a1.size:Int)
 ·rw [if_pos c3] at H
  have c3b0:decide ((a1.size:Int)≤(a0.size:Int))=true:=decide_eq_true c3
  have c3b1:decide (a1.size≤a0.size)=true:=decide_eq_true (Int.ofNat_le.mp c3)
  clear c3
  obtain ⟨ji4,hji4⟩:∃ j_:Int,(wrap64 ((a0.size:Int) - (a1.size:Int)))=j_:=⟨_,rfl⟩
  replace H:(if 0≤(ji4) then (if (ji4)≤(a0.size:Int) then (some ((a0.extract ((ji4):Int).toNat a0.size).toList == a1.toList)) else (none)) else (none))=some r:=by first|(rw [hji4] at H;exact H)|(simp only [hji4] at H ⊢;exact H)
  have hji4w:(IntKind.i64.wrap ((a0.size:Int) - (a1.size:Int)))=ji4:=(i64_w _).trans hji4
  by_cases c5:0≤(ji4)
  rotate_left
  ·rw [if_neg c5] at H
   exact absurd H (by simp)
  rw [if_pos c5] at H
  have c5b0:=eq_true c5
  have c5b1:decide (0≤(ji4))=true:=decide_eq_true c5
  clear c5
  by_cases c6:(ji4)≤(a0.size:Int)
  rotate_left
  ·rw [if_neg c6] at H
   exact absurd H (by simp)
  rw [if_pos c6] at H
  have c6b0:=eq_true c6
  have c6b1:decide ((ji4)≤(a0.size:Int))=true:=decide_eq_true c6
  clear c6
  obtain rfl:=e5_ H
  go_enter Tryz.func100,Tryz.ntmps100
  go_wp2
  go_ret
  exact ⟨by first|rfl|(simp;done)|(simp only [←hji4]<;>(first|rfl|simp))|(simp [*];done),by repeat (first|exact Drawn0.refl _|apply Drawn0.step)⟩
 rw [if_neg c3] at H
 have c3b0:decide ((a1.size:Int)≤(a0.size:Int))=false:=decide_eq_false c3
 have c3b1:decide (a1.size≤a0.size)=false:=decide_eq_false (fun h=>c3 (Int.ofNat_le.mpr h))
 clear c3
 obtain rfl:=e5_ H
 go_enter Tryz.func100,Tryz.ntmps100
 go_wp2
 go_ret
 exact ⟨by first|rfl|(simp;done)|(simp [*];done),by repeat (first|exact Drawn0.refl _|apply Drawn0.step)⟩

/-! ### strings_HasSuffix: function 93 -/
def strings_HasSuffix.f (a0:ByteArray) (a1:ByteArray):Option (Bool):=(stringslite_HasSuffix.f a0 a1).bind fun t137=>(some t137)
theorem strings_HasSuffix.calls (a0:ByteArray) (a1:ByteArray) (r:Bool) (w:World) (h:strings_HasSuffix.f a0 a1=some r) :
  Calls Tryz.prog 93 #[.string a0,.string a1] w fun e w'=>e=.returned (.bool r)∧Drawn0 w w':=by
 have H:((stringslite_HasSuffix.f a0 a1).bind fun t137=>(some t137))=some r:=h
 clear h
 replace H:=e4_ H
 obtain ⟨t137,A30,H⟩:=H
 replace H:(some t137)=some r:=H
 have A3:=am_ A30
 clear A30
 obtain rfl:=e5_ H
 go_enter Tryz.func93,Tryz.ntmps93
 go_wp2_with (first|((with_reducible refine gate_callee (f:=100) rfl ?_);refine goesL_ (some 7) rfl rfl Tryz.func100 (by kernel_rfl) rfl #[.string a0,.string a1] rfl (by (try simp only [List.map_toArray,List.map_cons,List.map_nil]);first|done|rfl|(simp only [List.length_drop,List.length_take];rfl)) ?_;(with_reducible refine (stringslite_HasSuffix.calls a0 a1 t137 _ A3.out).mono ?_);rintro e w' ⟨rfl,⟨nd,rfl⟩⟩;refine ⟨_,rfl,?_⟩))
 go_ret
 exact ⟨by first|rfl|(simp;done)|(simp [*];done),by repeat (first|exact Drawn0.refl _|apply Drawn0.step)⟩

/-! ### name_Under: function 84 -/
def name_Under.f (a0:ByteArray) (a1:ByteArray):Option (Bool):=(name_May_c.f a0).bind fun t138=>(if t138=true then ((name_May_c.f a1).bind fun t139=>(if t139=true then (if a1.toList=([]:List UInt8) then (some true) else (if a0.toList=a1.toList then (some true) else (if 1+a1.size≤9223372036854775807 then ((strings_HasSuffix.f a0 ((⟨#[46]⟩:ByteArray) ++ a1)).bind fun t140=>(some t140)) else (none)))) else (some false))) else (some false))
theorem name_Under.calls (a0:ByteArray) (a1:ByteArray) (r:Bool) (w:World) (h:name_Under.f a0 a1=some r) :
  Calls Tryz.prog 84 #[.string a0,.string a1] w fun e w'=>e=.returned (.bool r)∧Drawn0 w w':=by
 have H:((name_May_c.f a0).bind fun t138=>(if t138=true then ((name_May_c.f a1).bind fun t139=>(if t139=true then (if a1.toList=([]:List UInt8) then (some true) else (if a0.toList=a1.toList then (some true) else (if 1+a1.size≤9223372036854775807 then ((strings_HasSuffix.f a0 ((⟨#[46]⟩:ByteArray) ++ a1)).bind fun t140=>(some t140)) else (none)))) else (some false))) else (some false)))=some r:=h
 clear h
 replace H:=e4_ H
 obtain ⟨t138,A30,H⟩:=H
 replace H:(if t138=true then ((name_May_c.f a1).bind fun t139=>(if t139=true then (if a1.toList=([]:List UInt8) then (some true) else (if a0.toList=a1.toList then (some true) else (if 1+a1.size≤9223372036854775807 then ((strings_HasSuffix.f a0 ((⟨#[46]⟩:ByteArray) ++ a1)).bind fun t140=>(some t140)) else (none)))) else (some false))) else (some false))=some r:=H
 have A3:=am_ A30
 clear A30
 by_cases c4:t138=true
 ·subst c4
  have H1:((name_May_c.f a1).bind fun t139=>(if t139=true then (if a1.toList=([]:List UInt8) then (some true) else (if a0.toList=a1.toList then (some true) else (if 1+a1.size≤9223372036854775807 then ((strings_HasSuffix.f a0 ((⟨#[46]⟩:ByteArray) ++ a1)).bind fun t140=>(some t140)) else (none)))) else (some false)))=some r:=by rw [if_pos rfl] at H;exact H
  clear H
  have H:=H1
  clear H1
  replace H:=e4_ H
  obtain ⟨t139,A50,H⟩:=H
  replace H:(if t139=true then (if a1.toList=([]:List UInt8) then (some true) else (if a0.toList=a1.toList then (some true) else (if 1+a1.size≤9223372036854775807 then ((strings_HasSuffix.f a0 ((⟨#[46]⟩:ByteArray) ++ a1)).bind fun t140=>(some t140)) else (none)))) else (some false))=some r:=H
  have A5:=am_ A50
  clear A50
  by_cases c6:t139=true
  ·subst c6
   have H1:(if a1.toList=([]:List UInt8) then (some true) else (if a0.toList=a1.toList then (some true) else (if 1+a1.size≤9223372036854775807 then ((strings_HasSuffix.f a0 ((⟨#[46]⟩:ByteArray) ++ a1)).bind fun t140=>(some t140)) else (none))))=some r:=by rw [if_pos rfl] at H;exact H
   clear H
   have H:=H1
   clear H1
   by_cases c7:a1.toList=([]:List UInt8)
   ·rw [if_pos c7] at H
    have c7b0:(a1.toList == ([]:List UInt8))=true:=beq_iff_eq.mpr c7
    have c7b1:(a1.toList != ([]:List UInt8))=false:=e1_ c7
    clear c7
    obtain rfl:=e5_ H
    go_enter Tryz.func84,Tryz.ntmps84
    go_wp2_with (first|((with_reducible refine gate_callee (f:=44) rfl ?_);refine goesL_ (some 6) rfl rfl Tryz.func44 (by kernel_rfl) rfl #[.string a0] rfl (by (try simp only [List.map_toArray,List.map_cons,List.map_nil]);first|done|rfl|(simp only [List.length_drop,List.length_take];rfl)) ?_;(with_reducible refine (name_May_c.calls a0 true _ A3.out).mono ?_);rintro e w' ⟨rfl,⟨nd,rfl⟩⟩;refine ⟨_,rfl,?_⟩)|(go_at_call 44;(with_reducible refine (name_May_c.calls a1 true _ A5.out).mono ?_);rintro e w' ⟨rfl,⟨nd,rfl⟩⟩))
    go_ret
    exact ⟨by first|rfl|(simp;done)|(simp [*];done)|(simp only [str_ne_];rfl)|(simp only [str_eq_];rfl),by repeat (first|exact Drawn0.refl _|apply Drawn0.step)⟩
   rw [if_neg c7] at H
   have c7b0:(a1.toList == ([]:List UInt8))=false:=e2_ c7
   have c7b1:(a1.toList != ([]:List UInt8))=true:=bne_iff_ne.mpr c7
   by_cases c8:a0.toList=a1.toList
   ·rw [if_pos c8] at H
    have c8b0:(a0.toList == a1.toList)=true:=beq_iff_eq.mpr c8
    have c8b1:(a0.toList != a1.toList)=false:=e1_ c8
    clear c8
    obtain rfl:=e5_ H
    go_enter Tryz.func84,Tryz.ntmps84
    go_wp2_with (first|((with_reducible refine gate_callee (f:=44) rfl ?_);refine goesL_ (some 6) rfl rfl Tryz.func44 (by kernel_rfl) rfl #[.string a0] rfl (by (try simp only [List.map_toArray,List.map_cons,List.map_nil]);first|done|rfl|(simp only [List.length_drop,List.length_take];rfl)) ?_;(with_reducible refine (name_May_c.calls a0 true _ A3.out).mono ?_);rintro e w' ⟨rfl,⟨nd,rfl⟩⟩;refine ⟨_,rfl,?_⟩)|(go_at_call 44;(with_reducible refine (name_May_c.calls a1 true _ A5.out).mono ?_);rintro e w' ⟨rfl,⟨nd,rfl⟩⟩))
    go_ret
    exact ⟨by first|rfl|(simp;done)|(simp [*];done)|(simp only [str_ne_];rfl)|(simp only [str_eq_];rfl),by repeat (first|exact Drawn0.refl _|apply Drawn0.step)⟩
   rw [if_neg c8] at H
   have c8b0:(a0.toList == a1.toList)=false:=e2_ c8
   have c8b1:(a0.toList != a1.toList)=true:=bne_iff_ne.mpr c8
   by_cases c9:1+a1.size≤9223372036854775807
   rotate_left
   ·rw [if_neg c9] at H
    exact absurd H (by simp)
   rw [if_pos c9] at H
   have c9b0:=eq_true c9
   have c9b1:decide (1+a1.size≤9223372036854775807)=true:=decide_eq_true c9
   try have c9b2:(9223372036854775807 < 1+a1.size)=False:=eq_false (Nat.not_lt.2 c9)
   replace H:=e4_ H
   obtain ⟨t140,A100,H⟩:=H
   replace H:(some t140)=some r:=H
   have A10:=am_ A100
   clear A100
   obtain rfl:=e5_ H
   go_enter Tryz.func84,Tryz.ntmps84
   go_wp2_with (first|((with_reducible refine gate_callee (f:=44) rfl ?_);refine goesL_ (some 6) rfl rfl Tryz.func44 (by kernel_rfl) rfl #[.string a0] rfl (by (try simp only [List.map_toArray,List.map_cons,List.map_nil]);first|done|rfl|(simp only [List.length_drop,List.length_take];rfl)) ?_;(with_reducible refine (name_May_c.calls a0 true _ A3.out).mono ?_);rintro e w' ⟨rfl,⟨nd,rfl⟩⟩;refine ⟨_,rfl,?_⟩)|(go_at_call 44;(with_reducible refine (name_May_c.calls a1 true _ A5.out).mono ?_);rintro e w' ⟨rfl,⟨nd,rfl⟩⟩)|(go_at_call 93;(with_reducible refine (strings_HasSuffix.calls a0 ((⟨#[46]⟩:ByteArray) ++ a1) t140 _ A10.out).mono ?_);rintro e w' ⟨rfl,⟨nd,rfl⟩⟩))
   go_ret
   exact ⟨by first|rfl|(simp;done)|(simp [*];done)|(simp only [str_ne_];rfl)|(simp only [str_eq_];rfl),by repeat (first|exact Drawn0.refl _|apply Drawn0.step)⟩
  replace c6:=e3_ c6
  subst c6
  have H1:(some false)=some r:=by rw [if_neg (show ¬(false=true) by decide)] at H;exact H
  clear H
  have H:=H1
  clear H1
  obtain rfl:=e5_ H
  go_enter Tryz.func84,Tryz.ntmps84
  go_wp2_with (first|((with_reducible refine gate_callee (f:=44) rfl ?_);refine goesL_ (some 6) rfl rfl Tryz.func44 (by kernel_rfl) rfl #[.string a0] rfl (by (try simp only [List.map_toArray,List.map_cons,List.map_nil]);first|done|rfl|(simp only [List.length_drop,List.length_take];rfl)) ?_;(with_reducible refine (name_May_c.calls a0 true _ A3.out).mono ?_);rintro e w' ⟨rfl,⟨nd,rfl⟩⟩;refine ⟨_,rfl,?_⟩)|(go_at_call 44;(with_reducible refine (name_May_c.calls a1 false _ A5.out).mono ?_);rintro e w' ⟨rfl,⟨nd,rfl⟩⟩))
  go_ret
  exact ⟨by first|rfl|(simp;done)|(simp [*];done)|(simp only [str_ne_];rfl)|(simp only [str_eq_];rfl),by repeat (first|exact Drawn0.refl _|apply Drawn0.step)⟩
 replace c4:=e3_ c4
 subst c4
 have H1:(some false)=some r:=by rw [if_neg (show ¬(false=true) by decide)] at H;exact H
 clear H
 have H:=H1
 clear H1
 obtain rfl:=e5_ H
 go_enter Tryz.func84,Tryz.ntmps84
 go_wp2_with (first|((with_reducible refine gate_callee (f:=44) rfl ?_);refine goesL_ (some 6) rfl rfl Tryz.func44 (by kernel_rfl) rfl #[.string a0] rfl (by (try simp only [List.map_toArray,List.map_cons,List.map_nil]);first|done|rfl|(simp only [List.length_drop,List.length_take];rfl)) ?_;(with_reducible refine (name_May_c.calls a0 false _ A3.out).mono ?_);rintro e w' ⟨rfl,⟨nd,rfl⟩⟩;refine ⟨_,rfl,?_⟩))
 go_ret
 exact ⟨by first|rfl|(simp;done)|(simp [*];done)|(simp only [str_ne_];rfl)|(simp only [str_eq_];rfl),by repeat (first|exact Drawn0.refl _|apply Drawn0.step)⟩

/-! ### name_Under_c: function 84 -/
-- inc suffix.inc
theorem suffix_eq (s t:ByteArray) (hs:s.size≤4611686018427387904):strings_HasSuffix.f s t=some (decide (bytesOf t <:+ bytesOf s)):=by
 unfold strings_HasSuffix.f stringslite_HasSuffix.f
 by_cases h:(s.size:Int) ≥ (t.size:Int)
 ·rw [if_pos h,w64 (by omega),if_pos (by omega),if_pos (by omega),Option.bind_some]
  congr 1
  rw [Bool.eq_iff_iff,beq_iff_eq,decide_eq_true_eq,toList_iff,bytesOf_extract,List.take_of_length_le (by rw [List.length_drop,bytesOf_length];omega)]
  rw [List.suffix_iff_eq_drop,bytesOf_length,bytesOf_length,show ((s.size:Int) - (t.size:Int)).toNat=s.size - t.size by omega]
  exact eq_comm
 ·rw [if_neg h,Option.bind_some]
  congr 1
  symm
  rw [decide_eq_false_iff_not]
  intro e
  have:=e.length_le
  rw [bytesOf_length,bytesOf_length] at this
  omega
theorem under_eq_ (s z:ByteArray) (hs:s.size≤140737488351232) (hz:z.size≤140737488351232):name_Under.f s z=some (underB (bytesOf s) (bytesOf z)):=by
 unfold name_Under.f underB
 unfold name_May_c.f
 rw [if_pos (show s.size≤562949953421312 by omega),if_pos (show z.size≤562949953421312 by omega)]
 simp only [Option.bind_some]
 cases nameB (bytesOf s) with
 | false=>rfl
 | true =>
  cases nameB (bytesOf z) with
  | false=>rfl
  | true =>
   simp only [if_true,Bool.and_self,Bool.true_and]
   by_cases q1:z.size=0
   ·have hn:bytesOf z=[]:=List.length_eq_zero_iff.1 (by rw [bytesOf_length];omega)
    rw [if_pos ((toList_nil z).2 q1),decide_eq_true (show isU (bytesOf s) (bytesOf z) from .inl hn)]
   ·have hn:bytesOf z≠[]:=fun e=>q1 (by rw [←bytesOf_length,e];rfl)
    rw [if_neg (fun e=>q1 ((toList_nil z).1 e))]
    by_cases q2:bytesOf s=bytesOf z
    ·rw [if_pos ((toList_iff s z).2 q2),decide_eq_true (show isU (bytesOf s) (bytesOf z) from .inr (.inl q2))]
    ·rw [if_neg (fun e=>q2 ((toList_iff s z).1 e)),if_pos (by omega),suffix_eq _ _ (by omega),Option.bind_some,bytesOf_append]
     congr 1
     rw [Bool.eq_iff_iff,decide_eq_true_eq,decide_eq_true_eq]
     unfold isU
     have e:bytesOf ⟨#[46]⟩ ++ bytesOf z=46 :: bytesOf z:=rfl
     rw [e]
     constructor
     ·exact fun h=>.inr (.inr h)
     ·rintro (h|h|h)
      ·exact absurd h hn
      ·exact absurd h q2
      ·exact h
def name_Under_c.f (a0 a1:ByteArray):Option Bool:=if a0.size≤140737488351232∧a1.size≤140737488351232 then some (underB (bytesOf a0) (bytesOf a1)) else none
theorem name_Under_c.calls (a0 a1:ByteArray) (r:Bool) (w:World) (h:name_Under_c.f a0 a1=some r) :
  Calls Tryz.prog 84 #[.string a0,.string a1] w fun e w'=>e=.returned (.bool r)∧Drawn0 w w':=by
 unfold name_Under_c.f at h
 by_cases hs:a0.size≤140737488351232∧a1.size≤140737488351232
 ·rw [if_pos hs] at h
  exact name_Under.calls a0 a1 r w (by rw [under_eq_ a0 a1 hs.1 hs.2];exact h)
 ·rw [if_neg hs] at h
  cases h

end Go.Proofs.YtibalpbkmgegnaaGreatDoor.PL
