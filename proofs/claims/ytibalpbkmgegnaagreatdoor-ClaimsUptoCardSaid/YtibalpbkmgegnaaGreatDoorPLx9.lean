-- Made by wip/pr.py out of the translation (a turned copy of the kit's print; contracts by hand where said).
import Derived.Test.YtibalpbkmgegnaaGreatDoorPLx0
import Derived.Test.YtibalpbkmgegnaaGreatDoorPLx4
import Derived.Test.YtibalpbkmgegnaaGreatDoorPLx6
import Derived.Test.YtibalpbkmgegnaaGreatDoorPLx8
namespace Go.Proofs.YtibalpbkmgegnaaGreatDoor.PL
open Go.RowKit Go.Proofs.YtibalpbkmgegnaaGreatDoorW.PrintWords Go.Proofs.YtibalpbkmgegnaaGreatDoorW.PrintLast Go.Proofs.YtibalpbkmgegnaaGreatDoorW.PrintMore
-- shrunk
attribute [local go_sem] max2_int min2_int max_two min_two max_three min_three max_four min_four   -- for this text's walks alone
set_option linter.unusedVariables false
set_option linter.unusedSimpArgs false
set_option maxHeartbeats 8000000
set_option maxRecDepth 100000

/-- A state of type 29 at block g of W; what its slices lead to came in by w0. -/
def IsS29 (w0 W:World) (g:Nat) (f0:Bool) (f1:Int) (f2:Int) (f3:Int) (f4:ByteArray):Prop:=W.heap[g]?=some (.cells #[.bool f0,.int .i64 f1,.int .i64 f2,.int .i64 f3,.string f4] 29 (0,0))∧w0.heap.size≤g
theorem IsS29.grown {w0 W:World} {g:Nat} {f0:Bool} {f1:Int} {f2:Int} {f3:Int} {f4:ByteArray} {W1:World} {row:Option Nat} (h:IsS29 w0 W g f0 f1 f2 f3 f4) (hw:W.grownBy W1 row) (hne:some g≠row):IsS29 w0 W1 g f0 f1 f2 f3 f4:=by
 obtain ⟨hb,hg⟩:=h
 exact ⟨blk_grown hb hw hne,hg⟩
theorem IsS29.own_neN {w0 W:World} {g:Nat} {f0:Bool} {f1:Int} {f2:Int} {f3:Int} {f4:ByteArray} {α:Type} {d:Kd α} {e:Nat} {base:Nat} {ok:Nat→Prop} {v:Value} {xs:List α} (h:IsS29 w0 W g f0 f1 f2 f3 f4) (ho:Kd.N d e W base ok v xs) (ht:e≠29):some g≠v.ownBlock:=by
 obtain ⟨hb,hg⟩:=h
 exact Kd.N_ne ho hb ht
theorem IsS29.fresh {w0 W:World} {g:Nat} {f0:Bool} {f1:Int} {f2:Int} {f3:Int} {f4:ByteArray} (h:IsS29 w0 W g f0 f1 f2 f3 f4):∀ k,W.heap.size≤k→k≠g:=by
 obtain ⟨hb,hg⟩:=h
 exact Kd.freshB hb
theorem IsS29.kept {w0 W:World} {g:Nat} {f0:Bool} {f1:Int} {f2:Int} {f3:Int} {f4:ByteArray} {W1:World} {S:Nat→Prop} (h:IsS29 w0 W g f0 f1 f2 f3 f4) (hk:Kept W W1 S) (hne:¬ S g):IsS29 w0 W1 g f0 f1 f2 f3 f4:=by
 obtain ⟨hb,hg⟩:=h
 exact ⟨blk_kept hb hk hne,hg⟩
theorem IsS29.below {w0 W:World} {g:Nat} {f0:Bool} {f1:Int} {f2:Int} {f3:Int} {f4:ByteArray} {W1:World} (h:IsS29 w0 W g f0 f1 f2 f3 f4) (hw:Below W.heap.size W W1):IsS29 w0 W1 g f0 f1 f2 f3 f4:=h.grown (grown_of_below hw none) (by simp)
theorem IsS29.alloc {w0 W:World} {g:Nat} {f0:Bool} {f1:Int} {f2:Int} {f3:Int} {f4:ByteArray} (h:IsS29 w0 W g f0 f1 f2 f3 f4) (o:Obj):IsS29 w0 (W.alloc o) g f0 f1 f2 f3 f4:=h.below (p3_ (Below.refl _ _) o)
theorem IsS29.drewN {w0 W:World} {g:Nat} {f0:Bool} {f1:Int} {f2:Int} {f3:Int} {f4:ByteArray} (h:IsS29 w0 W g f0 f1 f2 f3 f4) (m:Nat):IsS29 w0 (W.drewN m) g f0 f1 f2 f3 f4:=h
theorem IsS29.drew {w0 W:World} {g:Nat} {f0:Bool} {f1:Int} {f2:Int} {f3:Int} {f4:ByteArray} (h:IsS29 w0 W g f0 f1 f2 f3 f4):IsS29 w0 W.drew g f0 f1 f2 f3 f4:=h
theorem IsS29.at_ {w0 W:World} {g:Nat} {f0:Bool} {f1:Int} {f2:Int} {f3:Int} {f4:ByteArray} {w':World} {m:Nat} (hq:W.drewN m=w') (h:IsS29 w0 W g f0 f1 f2 f3 f4):IsS29 w0 w' g f0 f1 f2 f3 f4:=by subst hq;exact IsS29.drewN h m
theorem IsS29.apart {w0 W:World} {g:Nat} {f0:Bool} {f1:Int} {f2:Int} {f3:Int} {f4:ByteArray} {α:Type} {d:Kd α} {e:Nat} {base:Nat} {ok:Nat→Prop} {v:Value} {xs:List α} (h:IsS29 w0 W g f0 f1 f2 f3 f4) (ho:d.R e W base ok v xs) (ht:∀ q,q∈e :: d.E→q≠29):d.R e W base (fun k=>ok k∧k≠g) v xs:=by
 obtain ⟨hb,hg⟩:=h
 exact Kd.R_types ho hb ht
theorem IsS29.own_ne {w0 W:World} {g:Nat} {f0:Bool} {f1:Int} {f2:Int} {f3:Int} {f4:ByteArray} {α:Type} {d:Kd α} {e:Nat} {base:Nat} {ok:Nat→Prop} {v:Value} {xs:List α} (h:IsS29 w0 W g f0 f1 f2 f3 f4) (ho:d.R e W base ok v xs) (ht:e≠29):some g≠v.ownBlock:=by
 obtain ⟨hb,hg⟩:=h
 exact Kd.R_ne ho hb ht
theorem IsS29.apartQ {w0 W:World} {g:Nat} {f0:Bool} {f1:Int} {f2:Int} {f3:Int} {f4:ByteArray} {α:Type} {d:Kd α} {e:Nat} {base:Nat} {ok:Nat→Prop} {v:Value} {xs:List α} (h:IsS29 w0 W g f0 f1 f2 f3 f4) (ho:d.Q e W base ok v xs) (ht:∀ q,q∈e :: d.E→q≠29):d.Q e W base (fun k=>ok k∧k≠g) v xs:=by
 obtain ⟨hb,hg⟩:=h
 exact Kd.Q_types ho hb ht
theorem IsS29.own_neQ {w0 W:World} {g:Nat} {f0:Bool} {f1:Int} {f2:Int} {f3:Int} {f4:ByteArray} {α:Type} {d:Kd α} {e:Nat} {base:Nat} {ok:Nat→Prop} {v:Value} {xs:List α} (h:IsS29 w0 W g f0 f1 f2 f3 f4) (ho:d.Q e W base ok v xs) (ht:e≠29):some g≠v.ownBlock:=by
 obtain ⟨hb,hg⟩:=h
 exact Kd.Q_ne ho hb ht
theorem IsS29.apartS {w0 W:World} {g:Nat} {f0:Bool} {f1:Int} {f2:Int} {f3:Int} {f4:ByteArray} {α:Type} {d:Kd α} {e:Nat} {base:Nat} {ok:Nat→Prop} {v:Value} {xs:List α} (h:IsS29 w0 W g f0 f1 f2 f3 f4) (ho:d.S e W base ok v xs) (ht:∀ q,q∈e :: d.E→q≠29):d.S e W base (fun k=>ok k∧k≠g) v xs:=by
 obtain ⟨hb,hg⟩:=h
 exact Kd.S_types ho hb ht
theorem IsS29.own_neS {w0 W:World} {g:Nat} {f0:Bool} {f1:Int} {f2:Int} {f3:Int} {f4:ByteArray} {α:Type} {d:Kd α} {e:Nat} {base:Nat} {ok:Nat→Prop} {v:Value} {xs:List α} (h:IsS29 w0 W g f0 f1 f2 f3 f4) (ho:d.S e W base ok v xs) (ht:e≠29):some g≠v.ownBlock:=by
 obtain ⟨hb,hg⟩:=h
 exact Kd.S_ne ho hb ht
theorem IsS29.lt {w0 W:World} {g:Nat} {f0:Bool} {f1:Int} {f2:Int} {f3:Int} {f4:ByteArray} (h:IsS29 w0 W g f0 f1 f2 f3 f4):g < W.heap.size:=by
 obtain ⟨hb,hg⟩:=h
 exact blk_lt hb
theorem IsS29.ge {w0 W:World} {g:Nat} {f0:Bool} {f1:Int} {f2:Int} {f3:Int} {f4:ByteArray} (h:IsS29 w0 W g f0 f1 f2 f3 f4):w0.heap.size≤g:=by
 obtain ⟨hb,hg⟩:=h
 exact hg
theorem IsS29.ne_blk {w0 W:World} {g:Nat} {f0:Bool} {f1:Int} {f2:Int} {f3:Int} {f4:ByteArray} {a:Nat} {cs:Array Value} {t:TypeId} {fr:Nat×Nat} (h:IsS29 w0 W g f0 f1 f2 f3 f4) (hb2:W.heap[a]?=some (.cells cs t fr)) (ht:t≠29):g≠a:=by
 obtain ⟨hb,hg⟩:=h
 rintro rfl
 rw [hb] at hb2
 injection hb2 with hb2
 injection hb2 with _ ht2
 exact ht ht2.symm
theorem IsS29.far {w0 W:World} {g:Nat} {f0:Bool} {f1:Int} {f2:Int} {f3:Int} {f4:ByteArray} {p:Addr} (h:IsS29 w0 W g f0 f1 f2 f3 f4) (hne:g≠p.block) (u:Value):IsS29 w0 (W.setCell p u) g f0 f1 f2 f3 f4:=by
 obtain ⟨hb,hg⟩:=h
 exact ⟨blk_far hb hne u,hg⟩
theorem cellS29_0 {W:World} {g:Nat} {f0:Bool} {f1:Int} {f2:Int} {f3:Int} {f4:ByteArray} (h:W.heap[g]?=some (.cells #[.bool f0,.int .i64 f1,.int .i64 f2,.int .i64 f3,.string f4] 29 (0,0))):W.cell? ⟨g,0,none⟩=some (.bool f0):=(bc_ h 0).trans rfl
theorem IsS29.set_0 {w0 W:World} {g:Nat} {f0:Bool} {f1:Int} {f2:Int} {f3:Int} {f4:ByteArray} (h:IsS29 w0 W g f0 f1 f2 f3 f4) (x:Bool):IsS29 w0 (W.setCell ⟨g,0,none⟩ (.bool x)) g x f1 f2 f3 f4:=by
 obtain ⟨hb,hg⟩:=h
 exact ⟨by simpa using blk_set hb 0 (.bool x),hg⟩
theorem cellS29_1 {W:World} {g:Nat} {f0:Bool} {f1:Int} {f2:Int} {f3:Int} {f4:ByteArray} (h:W.heap[g]?=some (.cells #[.bool f0,.int .i64 f1,.int .i64 f2,.int .i64 f3,.string f4] 29 (0,0))):W.cell? ⟨g,1,none⟩=some (.int .i64 f1):=(bc_ h 1).trans rfl
theorem IsS29.set_1 {w0 W:World} {g:Nat} {f0:Bool} {f1:Int} {f2:Int} {f3:Int} {f4:ByteArray} (h:IsS29 w0 W g f0 f1 f2 f3 f4) (x:Int):IsS29 w0 (W.setCell ⟨g,1,none⟩ (.int .i64 x)) g f0 x f2 f3 f4:=by
 obtain ⟨hb,hg⟩:=h
 exact ⟨by simpa using blk_set hb 1 (.int .i64 x),hg⟩
theorem cellS29_2 {W:World} {g:Nat} {f0:Bool} {f1:Int} {f2:Int} {f3:Int} {f4:ByteArray} (h:W.heap[g]?=some (.cells #[.bool f0,.int .i64 f1,.int .i64 f2,.int .i64 f3,.string f4] 29 (0,0))):W.cell? ⟨g,2,none⟩=some (.int .i64 f2):=(bc_ h 2).trans rfl
theorem IsS29.set_2 {w0 W:World} {g:Nat} {f0:Bool} {f1:Int} {f2:Int} {f3:Int} {f4:ByteArray} (h:IsS29 w0 W g f0 f1 f2 f3 f4) (x:Int):IsS29 w0 (W.setCell ⟨g,2,none⟩ (.int .i64 x)) g f0 f1 x f3 f4:=by
 obtain ⟨hb,hg⟩:=h
 exact ⟨by simpa using blk_set hb 2 (.int .i64 x),hg⟩
theorem cellS29_3 {W:World} {g:Nat} {f0:Bool} {f1:Int} {f2:Int} {f3:Int} {f4:ByteArray} (h:W.heap[g]?=some (.cells #[.bool f0,.int .i64 f1,.int .i64 f2,.int .i64 f3,.string f4] 29 (0,0))):W.cell? ⟨g,3,none⟩=some (.int .i64 f3):=(bc_ h 3).trans rfl
theorem IsS29.set_3 {w0 W:World} {g:Nat} {f0:Bool} {f1:Int} {f2:Int} {f3:Int} {f4:ByteArray} (h:IsS29 w0 W g f0 f1 f2 f3 f4) (x:Int):IsS29 w0 (W.setCell ⟨g,3,none⟩ (.int .i64 x)) g f0 f1 f2 x f4:=by
 obtain ⟨hb,hg⟩:=h
 exact ⟨by simpa using blk_set hb 3 (.int .i64 x),hg⟩
theorem cellS29_4 {W:World} {g:Nat} {f0:Bool} {f1:Int} {f2:Int} {f3:Int} {f4:ByteArray} (h:W.heap[g]?=some (.cells #[.bool f0,.int .i64 f1,.int .i64 f2,.int .i64 f3,.string f4] 29 (0,0))):W.cell? ⟨g,4,none⟩=some (.string f4):=(bc_ h 4).trans rfl
theorem IsS29.set_4 {w0 W:World} {g:Nat} {f0:Bool} {f1:Int} {f2:Int} {f3:Int} {f4:ByteArray} (h:IsS29 w0 W g f0 f1 f2 f3 f4) (x:ByteArray):IsS29 w0 (W.setCell ⟨g,4,none⟩ (.string x)) g f0 f1 f2 f3 x:=by
 obtain ⟨hb,hg⟩:=h
 exact ⟨by simpa using blk_set hb 4 (.string x),hg⟩
theorem IsS29.new (w0 W:World) (f0:Bool) (f1:Int) (f2:Int) (f3:Int) (f4:ByteArray) (hB:Below w0.heap.size w0 W):IsS29 w0 (W.alloc (.cells #[.bool f0,.int .i64 f1,.int .i64 f2,.int .i64 f3,.string f4] 29)) W.heap.size f0 f1 f2 f3 f4:=⟨by simpa using heap_alloc_new W _,hB.size⟩

/-! ### claim_may: function 17 -/
-- BY HAND
-- 44
theorem claim_may.calls (g:Nat) (q0:Bool) (q1 q2 q3:Int) (q4:ByteArray) (r:Bool) (w:World) (bk:w.heap[g]?=some (.cells #[.bool q0,.int .i64 q1,.int .i64 q2,.int .i64 q3,.string q4] 29)) (hs:q4.size≤140737488351232) (h:reqB q0 q1 q2 q3 q4=r) :
  Calls Tryz.prog 17 #[.pointer (some ⟨g,0,none⟩)] w fun e w'=>e=.returned (.bool r)∧Below w.heap.size w w':=by
 unfold reqB at h
 obtain ⟨b1,h1⟩:∃ b,nameB (bytesOf q4)=b:=⟨_,rfl⟩
 rw [h1] at h
 have C1:=am_ (fun W=>name_May_c.calls q4 b1 W (by unfold name_May_c.f;rw [if_pos (by omega),h1]))
 have HR:=am_ h
 have HB:=am_ (Below.refl w.heap.size w)
 have BK:=am_ bk
 have v0:=bc_ BK.out 0;have v1:=bc_ BK.out 1;have v2:=bc_ BK.out 2;have v3:=bc_ BK.out 3;have v4:=bc_ BK.out 4
 clear h hs h1 bk
 go_enter Tryz.func17,Tryz.ntmps17
 go_wp2_with (first
  | (go_at_call 44;(with_reducible refine (C1.out _).mono ?_);rintro e wq ⟨rfl,⟨nd,rfl⟩⟩))
 all_goals (try go_ret)
 all_goals refine ⟨ret_bool ?_,?_⟩
 all_goals first
  | ((repeat (with_reducible first|exact HB.out|apply p3_|apply p1_|apply p2_));done)
  | (rw [←HR.out];clear HR HB C1 BK;(try clear v0 v1 v2 v3 v4);rw [Bool.eq_iff_iff];(simp_all;done))
  | (rw [←HR.out];clear HR HB C1 BK;simp_all<;>omega)

/-! ### claim_host: function 18 -/
-- BY HAND
theorem claim_host.calls (g:Nat) (q0:Bool) (q1 q2 q3:Int) (q4:ByteArray) (r:Int) (w:World) (bk:w.heap[g]?=some (.cells #[.bool q0,.int .i64 q1,.int .i64 q2,.int .i64 q3,.string q4] 29)) (h:claimHost q0 q2 q3=r) :
  Calls Tryz.prog 18 #[.pointer (some ⟨g,0,none⟩)] w fun e w'=>e=.returned (.int .i64 r)∧Below w.heap.size w w':=by
 have HB:=am_ (Below.refl w.heap.size w)
 have BK:=am_ bk
 have v0:=bc_ BK.out 0;have v1:=bc_ BK.out 1;have v2:=bc_ BK.out 2;have v3:=bc_ BK.out 3;have v4:=bc_ BK.out 4
 clear bk
 unfold claimHost at h
 cases q0 with
 | true =>
  rw [if_pos (.inl rfl)] at h
  subst h
  go_enter Tryz.func18,Tryz.ntmps18
  go_wp2
  go_ret
  exact ⟨rfl,(by repeat (with_reducible first|exact HB.out|apply p3_|apply p1_|apply p2_))⟩
 | false =>
  by_cases e:q3=0
  ·rw [if_pos (.inr e)] at h
   subst h
   subst e
   go_enter Tryz.func18,Tryz.ntmps18
   go_wp2
   go_ret
   exact ⟨rfl,(by repeat (with_reducible first|exact HB.out|apply p3_|apply p1_|apply p2_))⟩
  ·rw [if_neg (by rintro (e'|e');exact absurd e' (by decide);exact e e')] at h
   subst h
   have e1:(q3 == 0)=false:=by simpa using e
   have e2:(q3 != 0)=true:=by simpa using e
   go_enter Tryz.func18,Tryz.ntmps18
   go_wp2
   go_ret
   exact ⟨rfl,(by repeat (with_reducible first|exact HB.out|apply p3_|apply p1_|apply p2_))⟩

/-! ### table_at: function 45 -/
-- BY HAND
/-- where the first of a row stands that is so; below 0: none is. -/
def table_at.idx (p:S44→Bool) (l:List S44):Int:=match l.findIdx? p with
 | some i=>(i:Int)
 | none => -1
theorem table_at.idx_hit (p:S44→Bool) (l:List S44) (k:Nat) (hk:k < l.length) (h:p l[k]=true) (hn:∀ (j:Nat) (hj:j < l.length),j < k→p l[j]=false):table_at.idx p l=k:=by
 have e:l.findIdx? p=some k:=List.findIdx?_eq_some_iff_getElem.2 ⟨hk,h,fun j hj=>by simp [hn j (by omega) hj]⟩
 unfold table_at.idx
 rw [e]
theorem table_at.idx_miss (p:S44→Bool) (l:List S44) (hn:∀ (j:Nat) (hj:j < l.length),p l[j]=false):table_at.idx p l = -1:=by
 have e:l.findIdx? p=none:=List.findIdx?_eq_none_iff.2 fun x hx=>by
  obtain ⟨j,hj,rfl⟩:=List.getElem_of_mem hx
  exact hn j hj
 unfold table_at.idx
 rw [e]
theorem table_at.idx_lt (p:S44→Bool) (l:List S44):table_at.idx p l < l.length ∧ -1≤table_at.idx p l:=by
 unfold table_at.idx
 cases e:l.findIdx? p with
 | none=>simp only;omega
 | some i =>
  obtain ⟨h,_⟩:=List.findIdx?_eq_some_iff_getElem.1 e
  simp only
  omega
theorem table_at.idx_congr (p q:S44→Bool) (l:List S44) (h:∀ x∈l,p x=q x):table_at.idx p l=table_at.idx q l:=by
 cases e:l.findIdx? p with
 | none =>
  have hn:=List.findIdx?_eq_none_iff.1 e
  rw [table_at.idx_miss p l (fun j hj=>hn _ (List.getElem_mem hj)),table_at.idx_miss q l (fun j hj=>by rw [←h _ (List.getElem_mem hj)];exact hn _ (List.getElem_mem hj))]
 | some i =>
  obtain ⟨hi,h1,h2⟩:=List.findIdx?_eq_some_iff_getElem.1 e
  have h3:∀ (j:Nat) (hj:j < l.length),j < i→p l[j]=false:=fun j hj hji=>by simpa using h2 j hji
  rw [table_at.idx_hit p l i hi h1 h3,table_at.idx_hit q l i hi (by rw [←h _ (List.getElem_mem hi)];exact h1) (fun j hj hji=>by rw [←h _ (List.getElem_mem hj)];exact h3 j hj hji)]
theorem table_at.rd (l:List S44) (k:Nat) (h:k < l.length):rd_T44 l (k:Int)=l[k]:=by
 unfold rd_T44
 rw [Int.toNat_natCast,List.getD_eq_getElem?_getD,List.getElem?_eq_getElem h]
 rfl
theorem table_at.index (p:S44→Bool) (G:Nat) (lb:Array Value) (A0:Option Addr) (c0:Nat) (l0:List S44) (w:World) (hr:Kd.C k44 w A0 l0.length l0) (hs:l0.length≤140737488351232)
  (eg:∀ args w,(callFunc G args).run Tryz.prog w=.ok (.enter G args) w)
  (hp:∀ (W:World) (x:S44),x∈l0→Below w.heap.size w W→Calls Tryz.prog G (#[.agg #[.int .i64 x.f0,.int .i64 x.f1,.string x.f2,.int .i64 x.f3,.string x.f4,.bool x.f5]] ++ lb) W fun e w'=>e=.returned (.bool (p x))∧Below W.heap.size W w') :
  Calls Tryz.prog 73 #[.slice A0 l0.length c0,.func (.func G) #[] lb] w fun e w'=>e=.returned (.int .i64 (table_at.idx p l0))∧Below w.heap.size w w':=by
 have HR:=am_ hr
 have HP:=am_ hp
 clear hr hp
 go_enter Tryz.func73,Tryz.ntmps73
 go_wp2
 go_loopg [5,8] l0.length (fun gg _ s8 wr=>∃ kk:Nat,kk+gg=l0.length∧s8=.int .i64 kk∧Aside0 (Below w.heap.size w wr)∧Aside0 (∀(j:Nat) (h:j < l0.length),j < kk→p (l0[j]'h)=false))
 case atStart=>exact ⟨0,by omega,rfl,⟨Below.refl _ w⟩,⟨fun j _ hj=>absurd hj (Nat.not_lt_zero _)⟩⟩
 case round =>
  obtain ⟨kk,hg,rfl,BW,A⟩:=hrel
  by_cases hlt:kk < l0.length
  ·have hltz:(kk:Int) < (l0.length:Int):=by omega
   obtain ⟨ad,e1,h0,h1,h2,h3,h4,h5⟩:=at_T44 HR.out (kk:Int) (by omega) hltz
   cases e1
   rw [table_at.rd l0 kk hlt] at h0 h1 h2 h3 h4 h5
   rw [Int.toNat_natCast] at h0 h1 h2 h3 h4 h5
   obtain ⟨x,hx⟩:∃ x,l0[kk]'hlt=x:=⟨_,rfl⟩
   have B:=am_ hx
   rw [hx] at h0 h1 h2 h3 h4 h5
   clear hx
   replace h0:=(BW.out.cell (wb_ w _ h0)).trans h0
   replace h1:=(BW.out.cell (wb_ w _ h1)).trans h1
   replace h2:=(BW.out.cell (wb_ w _ h2)).trans h2
   replace h3:=(BW.out.cell (wb_ w _ h3)).trans h3
   replace h4:=(BW.out.cell (wb_ w _ h4)).trans h4
   replace h5:=(BW.out.cell (wb_ w _ h5)).trans h5
   have hcall:=HP.out wr x (by rw [←B.out];exact List.getElem_mem hlt) BW.out
   cases hq:p x with
   | true =>
    rw [hq] at hcall
    have hq':=am_ hq
    clear hq
    go_wp2_with fail
    refine hcall.mono ?_
    rintro e w' ⟨rfl,hb'⟩
    go_wp2
    go_ret
    refine ⟨?_,bt_ BW.out hb'⟩
    rw [table_at.idx_hit p l0 kk hlt (by rw [B.out];exact hq'.out) A.out]
    rfl
   | false =>
    rw [hq] at hcall
    have hq':=am_ hq
    clear hq
    go_wp2_with fail
    refine hcall.mono ?_
    rintro e w' ⟨rfl,hb'⟩
    go_wp2
    go_roundg (l0.length - (kk+1))
    case measure=>omega
    case rel =>
     refine ⟨kk+1,by omega,by go_num,⟨bt_ BW.out hb'⟩,⟨fun j h hj=>?_⟩⟩
     by_cases e:j=kk
     ·subst e
      rw [B.out]
      exact hq'.out
     ·exact A.out j h (by omega)
  ·have hltz:¬ (kk:Int) < (l0.length:Int):=by omega
   go_wp2
   go_ret
   refine ⟨?_,BW.out⟩
   rw [table_at.idx_miss p l0 (fun j hj=>A.out j hj (by omega))]
   rfl
theorem table_at.closure (host:Int) (B:Nat) (x:S44) (w:World) (hc:w.cell? ⟨B,0,none⟩=some (.int .i64 host)) :
  Calls Tryz.prog 74 #[.agg #[.int .i64 x.f0,.int .i64 x.f1,.string x.f2,.int .i64 x.f3,.string x.f4,.bool x.f5],.pointer (some ⟨B,0,none⟩)] w fun e w'=>e=.returned (.bool (x.f0 == host))∧Below w.heap.size w w':=by
 have hlt:B < w.heap.size:=wb_ w _ hc
 have hne:B≠w.heap.size:=by omega
 go_enter Tryz.func74,Tryz.ntmps74
 go_wp2
 go_ret
 exact ⟨rfl,by repeat (first|exact Below.refl _ _|apply p3_|apply p1_|apply p2_)⟩
def table_at.f (l0:List S44) (a1:Int):Option Int:=if l0.length≤140737488351232 then some (table_at.idx (fun x=>x.f0 == a1) l0) else none
theorem table_at.calls (A0:Option Addr) (c0:Nat) (l0:List (S44)) (a1:Int) (r:Int) (w:World) (hr0:Kd.C k44 w A0 l0.length l0) (hc0:l0.length≤c0) (h:table_at.f l0 a1=some r) :
  Calls Tryz.prog 45 #[.slice A0 l0.length c0,.int .i64 a1] w fun e w'=>e=.returned (.int .i64 r)∧Below w.heap.size w w':=by
 unfold table_at.f at h
 by_cases hs:l0.length≤140737488351232
 ·rw [if_pos hs] at h
  obtain rfl:=e5_ h
  clear h
  have eg:∀ args w,(callFunc 74 args).run Tryz.prog w=.ok (.enter 74 args) w:=fun args w=>enters_ Tryz.func74 (by kernel_rfl) rfl args w
  have hb:=p3_ (Below.refl w.heap.size w) (.cells #[.int .i64 a1] 3)
  have hcell:(w.alloc (.cells #[.int .i64 a1] 3)).cell? ⟨w.heap.size,0,none⟩=some (.int .i64 a1):=(bc_ (blk_new w _) 0).trans rfl
  have hI:=table_at.index (fun x=>x.f0 == a1) 74 #[.pointer (some ⟨w.heap.size,0,none⟩)] A0 c0 l0 (w.alloc (.cells #[.int .i64 a1] 3)) (c4_ hr0 hb) hs eg (fun W x _ hW=>table_at.closure a1 w.heap.size x W ((hW.cell (p:=⟨w.heap.size,0,none⟩) (wb_ _ _ hcell)).trans hcell))
  replace hI:=am_ hI
  clear hcell eg hr0 hc0
  generalize table_at.idx (fun x=>x.f0 == a1) l0=r at hI ⊢
  go_enter Tryz.func45,Tryz.ntmps45
  go_wp2_with (first|(go_at_call 73;refine hI.out.mono ?_;rintro e w' ⟨rfl,hb'⟩))
  go_ret
  exact ⟨rfl,bt_ hb hb'⟩
 ·rw [if_neg hs] at h
  cases h

/-! ### table_Find: function 19 -/
def table_Find.f (l0:List (S44)) (a1:Int):Option (Int×Int×ByteArray×Int×ByteArray×Bool×Bool):=(table_at.f l0 a1).bind fun t143=>(if t143 < 0 then (some (0,0,(⟨#[]⟩:ByteArray),0,(⟨#[]⟩:ByteArray),false,false)) else (if 0≤t143 then (if t143 < (l0.length:Int) then (some ((rd_T44 l0 t143).f0,(rd_T44 l0 t143).f1,(rd_T44 l0 t143).f2,(rd_T44 l0 t143).f3,(rd_T44 l0 t143).f4,(rd_T44 l0 t143).f5,true)) else (none)) else (none)))
theorem table_Find.calls (A0:Option Addr) (c0:Nat) (l0:List (S44)) (a1:Int) (r1:Int) (r2:Int) (r3:ByteArray) (r4:Int) (r5:ByteArray) (r6:Bool) (r7:Bool) (w:World) (hr0:Kd.C k44 w A0 l0.length l0) (hc0:l0.length≤c0) (h:table_Find.f l0 a1=some (r1,r2,r3,r4,r5,r6,r7)) :
  Calls Tryz.prog 19 #[.slice A0 l0.length c0,.int .i64 a1] w fun e w'=>e=.returned (.tuple #[.agg #[.int .i64 r1,.int .i64 r2,.string r3,.int .i64 r4,.string r5,.bool r6],.bool r7])∧Below w.heap.size w w':=by
 have hu44:=Tryz.underlying44
 have HR0:=am_ hr0
 have HC0:=am_ hc0
 clear hr0 hc0
 have HB:=am_ (Below.refl w.heap.size w)
 have H:((table_at.f l0 a1).bind fun t143=>(if t143 < 0 then (some (0,0,(⟨#[]⟩:ByteArray),0,(⟨#[]⟩:ByteArray),false,false)) else (if 0≤t143 then (if t143 < (l0.length:Int) then (some ((rd_T44 l0 t143).f0,(rd_T44 l0 t143).f1,(rd_T44 l0 t143).f2,(rd_T44 l0 t143).f3,(rd_T44 l0 t143).f4,(rd_T44 l0 t143).f5,true)) else (none)) else (none))))=some (r1,r2,r3,r4,r5,r6,r7):=h
 clear h
 replace H:=e4_ H
 obtain ⟨t143,A30,H⟩:=H
 replace H:(if t143 < 0 then (some (0,0,(⟨#[]⟩:ByteArray),0,(⟨#[]⟩:ByteArray),false,false)) else (if 0≤t143 then (if t143 < (l0.length:Int) then (some ((rd_T44 l0 t143).f0,(rd_T44 l0 t143).f1,(rd_T44 l0 t143).f2,(rd_T44 l0 t143).f3,(rd_T44 l0 t143).f4,(rd_T44 l0 t143).f5,true)) else (none)) else (none)))=some (r1,r2,r3,r4,r5,r6,r7):=H
 have A3:=am_ A30
 clear A30
 by_cases c4:t143 < 0
 ·rw [if_pos c4] at H
  have c4b0:decide (t143 < 0)=true:=decide_eq_true c4
  clear c4
  simp only [Option.some.injEq,Prod.mk.injEq] at H
  obtain ⟨rfl,rfl,rfl,rfl,rfl,rfl,rfl⟩:=H
  go_enter Tryz.func19,Tryz.ntmps19
  go_wp2_with (first|((with_reducible refine gate_dst (N:=4) rfl ?_);refine box_event ?hg (N:=4) ?hd (cs:=#[.int .i64 0,.int .i64 0,.string (⟨#[]⟩:ByteArray),.int .i64 0,.string (⟨#[]⟩:ByteArray),.bool false]) (t:=44) ?hr ?_;(case hd=>rfl);(case hg=>rfl);(case hr=>first|(go_simp;done)|(go_simp;rfl));intro gb142 hg w5 hbox hb;have n0_:=am_ (bt_ (by repeat (with_reducible first|exact HB.out|apply p3_|apply p1_|apply p2_)) hb);have n1_:=am_ (hbox);have n2_:=am_ ((by rw [hg];exact (bz_ (by repeat (with_reducible first|exact HB.out|apply p3_|apply p1_|apply p2_))):w.heap.size≤gb142));have n3_:=am_ ((by rw [hg];exact (bz_ (by repeat (with_reducible first|exact HB.out|apply p3_|apply p1_|apply p2_))):w.heap.size≤gb142));clear HB;have HB:=n0_;have BK142:=n1_;have GW142:=n2_;have GE142:=n3_;clear n0_ n1_ n2_ n3_;clear hb hbox hg)|((with_reducible refine gate_callee (f:=45) rfl ?_);refine goesL_ (some 9) rfl rfl Tryz.func45 (by kernel_rfl) rfl #[.slice A0 l0.length c0,.int .i64 a1] rfl (by (try simp only [List.map_toArray,List.map_cons,List.map_nil]);first|done|rfl|(simp only [List.length_drop,List.length_take];rfl)) ?_;(with_reducible refine (table_at.calls _ _ l0 a1 t143 _ ?side1 ?side2 A3.out).mono ?_);(case side1=>repeat (first|exact (c4_ HR0.out HB.out)|(with_reducible refine c1_ ?_ _)|(with_reducible refine c2_ ?_ _)|(with_reducible refine c3_ ?_)));(case side2=>exact HC0.out);rintro e w6 ⟨rfl,hb⟩;refine ⟨_,rfl,?_⟩;have n0_:=am_ (kb_ (g:=gb142) (o:=.cells #[.int .i64 0,.int .i64 0,.string (⟨#[]⟩:ByteArray),.int .i64 0,.string (⟨#[]⟩:ByteArray),.bool false] 44 (0,0)) (by (with_reducible repeat (first|refine k2_ ?_ _|refine k3_ ?_|refine k1_ ?_ _));exact BK142.out) hb);have n1_:=am_ (bt_ (by repeat (with_reducible first|exact HB.out|apply p3_|apply p1_|apply p2_|refine bs_ ?_ GE142.out)) hb);clear BK142;clear HB;have BK142:=n0_;have HB:=n1_;clear n0_ n1_;(try clear hb);have hcz7_0:w6.cell? ⟨gb142,0,none⟩=some (.int .i64 0):=(bc_ BK142.out 0).trans rfl;have hcz7_1:w6.cell? ⟨gb142,1,none⟩=some (.int .i64 0):=(bc_ BK142.out 1).trans rfl;have hcz7_2:w6.cell? ⟨gb142,2,none⟩=some (.string (⟨#[]⟩:ByteArray)):=(bc_ BK142.out 2).trans rfl;have hcz7_3:w6.cell? ⟨gb142,3,none⟩=some (.int .i64 0):=(bc_ BK142.out 3).trans rfl;have hcz7_4:w6.cell? ⟨gb142,4,none⟩=some (.string (⟨#[]⟩:ByteArray)):=(bc_ BK142.out 4).trans rfl;have hcz7_5:w6.cell? ⟨gb142,5,none⟩=some (.bool false):=(bc_ BK142.out 5).trans rfl;have hfz7_0:=bf_ BK142.out 0;have hfz7_1:=bf_ BK142.out 1;have hfz7_2:=bf_ BK142.out 2;have hfz7_3:=bf_ BK142.out 3;have hfz7_4:=bf_ BK142.out 4;have hfz7_5:=bf_ BK142.out 5))
  refine bodyPost_ret (results_ct rfl _ _ gb142 44 #[.int .i64 0,.int .i64 0,.string (⟨#[]⟩:ByteArray),.int .i64 0,.string (⟨#[]⟩:ByteArray),.bool false] (0,0) _ rfl (by (with_reducible repeat (first|refine k2_ ?_ _|refine k3_ ?_|refine k1_ ?_ _));refine blk_put (cs:=#[.int .i64 0,.int .i64 0,.string (⟨#[]⟩:ByteArray),.int .i64 0,.string (⟨#[]⟩:ByteArray),.bool false]) ?_ 5 _ rfl;(with_reducible repeat (first|refine k2_ ?_ _|refine k3_ ?_|refine k1_ ?_ _));refine blk_put (cs:=#[.int .i64 0,.int .i64 0,.string (⟨#[]⟩:ByteArray),.int .i64 0,.string (⟨#[]⟩:ByteArray),.bool false]) ?_ 4 _ rfl;(with_reducible repeat (first|refine k2_ ?_ _|refine k3_ ?_|refine k1_ ?_ _));refine blk_put (cs:=#[.int .i64 0,.int .i64 0,.string (⟨#[]⟩:ByteArray),.int .i64 0,.string (⟨#[]⟩:ByteArray),.bool false]) ?_ 3 _ rfl;(with_reducible repeat (first|refine k2_ ?_ _|refine k3_ ?_|refine k1_ ?_ _));refine blk_put (cs:=#[.int .i64 0,.int .i64 0,.string (⟨#[]⟩:ByteArray),.int .i64 0,.string (⟨#[]⟩:ByteArray),.bool false]) ?_ 2 _ rfl;(with_reducible repeat (first|refine k2_ ?_ _|refine k3_ ?_|refine k1_ ?_ _));refine blk_put (cs:=#[.int .i64 0,.int .i64 0,.string (⟨#[]⟩:ByteArray),.int .i64 0,.string (⟨#[]⟩:ByteArray),.bool false]) ?_ 1 _ rfl;(with_reducible repeat (first|refine k2_ ?_ _|refine k3_ ?_|refine k1_ ?_ _));refine blk_put (cs:=#[.int .i64 0,.int .i64 0,.string (⟨#[]⟩:ByteArray),.int .i64 0,.string (⟨#[]⟩:ByteArray),.bool false]) ?_ 0 _ rfl;(with_reducible repeat (first|refine k2_ ?_ _|refine k3_ ?_|refine k1_ ?_ _));exact BK142.out) Tryz.underlying44 rfl (by kernel_rfl)) rfl ?_
  exact ⟨by first|rfl|(simp [errW_none,errW_some]<;>rfl)|(simp [*,errW_none,errW_some]<;>rfl),by repeat (with_reducible first|exact HB.out|apply p3_|apply p1_|apply p2_|refine bs_ ?_ GE142.out)⟩
 rw [if_neg c4] at H
 have c4b0:decide (t143 < 0)=false:=decide_eq_false c4
 clear c4
 by_cases c8:0≤t143
 rotate_left
 ·rw [if_neg c8] at H
  exact absurd H (by simp)
 rw [if_pos c8] at H
 have c8b0:decide (0≤t143)=true:=decide_eq_true c8
 clear c8
 by_cases c9:t143 < (l0.length:Int)
 rotate_left
 ·rw [if_neg c9] at H
  exact absurd H (by simp)
 rw [if_pos c9] at H
 have c9b0:decide (t143 < (l0.length:Int))=true:=decide_eq_true c9
 clear c9
 simp only [Option.some.injEq,Prod.mk.injEq] at H
 obtain ⟨rfl,rfl,rfl,rfl,rfl,rfl,rfl⟩:=H
 go_enter Tryz.func19,Tryz.ntmps19
 go_wp2_with (first|((with_reducible refine gate_dst (N:=4) rfl ?_);refine box_event ?hg (N:=4) ?hd (cs:=#[.int .i64 0,.int .i64 0,.string (⟨#[]⟩:ByteArray),.int .i64 0,.string (⟨#[]⟩:ByteArray),.bool false]) (t:=44) ?hr ?_;(case hd=>rfl);(case hg=>rfl);(case hr=>first|(go_simp;done)|(go_simp;rfl));intro gb142 hg w10 hbox hb;have n0_:=am_ (bt_ (by repeat (with_reducible first|exact HB.out|apply p3_|apply p1_|apply p2_)) hb);have n1_:=am_ (hbox);have n2_:=am_ ((by rw [hg];exact (bz_ (by repeat (with_reducible first|exact HB.out|apply p3_|apply p1_|apply p2_))):w.heap.size≤gb142));have n3_:=am_ ((by rw [hg];exact (bz_ (by repeat (with_reducible first|exact HB.out|apply p3_|apply p1_|apply p2_))):w.heap.size≤gb142));clear HB;have HB:=n0_;have BK142:=n1_;have GW142:=n2_;have GE142:=n3_;clear n0_ n1_ n2_ n3_;clear hb hbox hg)|((with_reducible refine gate_callee (f:=45) rfl ?_);refine goesL_ (some 9) rfl rfl Tryz.func45 (by kernel_rfl) rfl #[.slice A0 l0.length c0,.int .i64 a1] rfl (by (try simp only [List.map_toArray,List.map_cons,List.map_nil]);first|done|rfl|(simp only [List.length_drop,List.length_take];rfl)) ?_;(with_reducible refine (table_at.calls _ _ l0 a1 t143 _ ?side1 ?side2 A3.out).mono ?_);(case side1=>repeat (first|exact (c4_ HR0.out HB.out)|(with_reducible refine c1_ ?_ _)|(with_reducible refine c2_ ?_ _)|(with_reducible refine c3_ ?_)));(case side2=>exact HC0.out);rintro e w11 ⟨rfl,hb⟩;refine ⟨_,rfl,?_⟩;have n0_:=am_ (kb_ (g:=gb142) (o:=.cells #[.int .i64 0,.int .i64 0,.string (⟨#[]⟩:ByteArray),.int .i64 0,.string (⟨#[]⟩:ByteArray),.bool false] 44 (0,0)) (by (with_reducible repeat (first|refine k2_ ?_ _|refine k3_ ?_|refine k1_ ?_ _));exact BK142.out) hb);have n1_:=am_ (bt_ (by repeat (with_reducible first|exact HB.out|apply p3_|apply p1_|apply p2_|refine bs_ ?_ GE142.out)) hb);clear BK142;clear HB;have BK142:=n0_;have HB:=n1_;clear n0_ n1_;(try clear hb);have p144:0≤(t143:Int):=of_decide_eq_true (by first|(with_reducible assumption)|assumption);have q144:t143 < (l0.length:Int):=of_decide_eq_true (by first|(with_reducible assumption)|assumption);obtain ⟨ad144,e144,hx144_0,hx144_1,hx144_2,hx144_3,hx144_4,hx144_5⟩:=at_T44 HR0.out t143 p144 q144;cases e144;replace hx144_0:=(HB.out.cell (wb_ w _ hx144_0)).trans hx144_0;replace hx144_1:=(HB.out.cell (wb_ w _ hx144_1)).trans hx144_1;replace hx144_2:=(HB.out.cell (wb_ w _ hx144_2)).trans hx144_2;replace hx144_3:=(HB.out.cell (wb_ w _ hx144_3)).trans hx144_3;replace hx144_4:=(HB.out.cell (wb_ w _ hx144_4)).trans hx144_4;replace hx144_5:=(HB.out.cell (wb_ w _ hx144_5)).trans hx144_5;replace p144:=eq_true p144;replace q144:=eq_true q144;have hcz12_0:w11.cell? ⟨gb142,0,none⟩=some (.int .i64 0):=(bc_ BK142.out 0).trans rfl;have hcz12_1:w11.cell? ⟨gb142,1,none⟩=some (.int .i64 0):=(bc_ BK142.out 1).trans rfl;have hcz12_2:w11.cell? ⟨gb142,2,none⟩=some (.string (⟨#[]⟩:ByteArray)):=(bc_ BK142.out 2).trans rfl;have hcz12_3:w11.cell? ⟨gb142,3,none⟩=some (.int .i64 0):=(bc_ BK142.out 3).trans rfl;have hcz12_4:w11.cell? ⟨gb142,4,none⟩=some (.string (⟨#[]⟩:ByteArray)):=(bc_ BK142.out 4).trans rfl;have hcz12_5:w11.cell? ⟨gb142,5,none⟩=some (.bool false):=(bc_ BK142.out 5).trans rfl;have hfz12_0:=bf_ BK142.out 0;have hfz12_1:=bf_ BK142.out 1;have hfz12_2:=bf_ BK142.out 2;have hfz12_3:=bf_ BK142.out 3;have hfz12_4:=bf_ BK142.out 4;have hfz12_5:=bf_ BK142.out 5))
 refine bodyPost_ret (results_ct rfl _ _ gb142 44 #[.int .i64 ((rd_T44 l0 t143).f0),.int .i64 ((rd_T44 l0 t143).f1),.string ((rd_T44 l0 t143).f2),.int .i64 ((rd_T44 l0 t143).f3),.string ((rd_T44 l0 t143).f4),.bool ((rd_T44 l0 t143).f5)] (0,0) _ rfl (by (with_reducible repeat (first|refine k2_ ?_ _|refine k3_ ?_|refine k1_ ?_ _));refine blk_put (cs:=#[.int .i64 ((rd_T44 l0 t143).f0),.int .i64 ((rd_T44 l0 t143).f1),.string ((rd_T44 l0 t143).f2),.int .i64 ((rd_T44 l0 t143).f3),.string ((rd_T44 l0 t143).f4),.bool false]) ?_ 5 _ rfl;(with_reducible repeat (first|refine k2_ ?_ _|refine k3_ ?_|refine k1_ ?_ _));refine blk_put (cs:=#[.int .i64 ((rd_T44 l0 t143).f0),.int .i64 ((rd_T44 l0 t143).f1),.string ((rd_T44 l0 t143).f2),.int .i64 ((rd_T44 l0 t143).f3),.string (⟨#[]⟩:ByteArray),.bool false]) ?_ 4 _ rfl;(with_reducible repeat (first|refine k2_ ?_ _|refine k3_ ?_|refine k1_ ?_ _));refine blk_put (cs:=#[.int .i64 ((rd_T44 l0 t143).f0),.int .i64 ((rd_T44 l0 t143).f1),.string ((rd_T44 l0 t143).f2),.int .i64 0,.string (⟨#[]⟩:ByteArray),.bool false]) ?_ 3 _ rfl;(with_reducible repeat (first|refine k2_ ?_ _|refine k3_ ?_|refine k1_ ?_ _));refine blk_put (cs:=#[.int .i64 ((rd_T44 l0 t143).f0),.int .i64 ((rd_T44 l0 t143).f1),.string (⟨#[]⟩:ByteArray),.int .i64 0,.string (⟨#[]⟩:ByteArray),.bool false]) ?_ 2 _ rfl;(with_reducible repeat (first|refine k2_ ?_ _|refine k3_ ?_|refine k1_ ?_ _));refine blk_put (cs:=#[.int .i64 ((rd_T44 l0 t143).f0),.int .i64 0,.string (⟨#[]⟩:ByteArray),.int .i64 0,.string (⟨#[]⟩:ByteArray),.bool false]) ?_ 1 _ rfl;(with_reducible repeat (first|refine k2_ ?_ _|refine k3_ ?_|refine k1_ ?_ _));refine blk_put (cs:=#[.int .i64 0,.int .i64 0,.string (⟨#[]⟩:ByteArray),.int .i64 0,.string (⟨#[]⟩:ByteArray),.bool false]) ?_ 0 _ rfl;(with_reducible repeat (first|refine k2_ ?_ _|refine k3_ ?_|refine k1_ ?_ _));exact BK142.out) Tryz.underlying44 rfl (by kernel_rfl)) rfl ?_
 exact ⟨by first|rfl|(simp [errW_none,errW_some]<;>rfl)|(simp [*,errW_none,errW_some]<;>rfl),by repeat (with_reducible first|exact HB.out|apply p3_|apply p1_|apply p2_|refine bs_ ?_ GE142.out)⟩

/-! ### table_Find_c: function 19 -/
theorem find_idx (l:List S44) (h:Int):(table_at.idx (fun x=>x.f0 == h) l < 0∧findL l h=none)∨∃ (i:Nat) (hi:i < l.length),table_at.idx (fun x=>x.f0 == h) l=(i:Int)∧findL l h=some (l[i]'hi):=by
 unfold table_at.idx findL
 cases e:l.findIdx? (fun x=>x.f0 == h) with
 | none =>
  left
  refine ⟨by simp,List.find?_eq_none.2 fun x hx=>?_⟩
  have:=List.findIdx?_eq_none_iff.1 e x hx
  simpa using this
 | some i =>
  right
  obtain ⟨hi,h1,h2⟩:=List.findIdx?_eq_some_iff_getElem.1 e
  exact ⟨i,hi,rfl,List.find?_eq_some_iff_getElem.2 ⟨h1,i,hi,rfl,fun j hj=>by simpa using h2 j hj⟩⟩
def table_Find_c.f (l0:List S44) (a1:Int):Option (Int×Int×ByteArray×Int×ByteArray×Bool×Bool):=if l0.length≤140737488351232 then some ((gotL (findL l0 a1)).f0,(gotL (findL l0 a1)).f1,(gotL (findL l0 a1)).f2,(gotL (findL l0 a1)).f3,(gotL (findL l0 a1)).f4,(gotL (findL l0 a1)).f5,(findL l0 a1).isSome) else none
theorem table_Find_c.calls (A0:Option Addr) (c0:Nat) (l0:List S44) (a1:Int) (r1:Int) (r2:Int) (r3:ByteArray) (r4:Int) (r5:ByteArray) (r6:Bool) (r7:Bool) (w:World) (hr0:Kd.C k44 w A0 l0.length l0) (hc0:l0.length≤c0) (h:table_Find_c.f l0 a1=some (r1,r2,r3,r4,r5,r6,r7)) :
  Calls Tryz.prog 19 #[.slice A0 l0.length c0,.int .i64 a1] w fun e w'=>e=.returned (.tuple #[.agg #[.int .i64 r1,.int .i64 r2,.string r3,.int .i64 r4,.string r5,.bool r6],.bool r7])∧Below w.heap.size w w':=by
 unfold table_Find_c.f at h
 by_cases hs:l0.length≤140737488351232
 ·rw [if_pos hs] at h
  refine table_Find.calls A0 c0 l0 a1 r1 r2 r3 r4 r5 r6 r7 w hr0 hc0 ?_
  unfold table_Find.f table_at.f
  rw [if_pos hs,Option.bind_some,←h]
  rcases find_idx l0 a1 with ⟨h1,h2⟩|⟨i,hi,h1,h2⟩
  ·rw [if_pos h1,h2]
   rfl
  ·rw [h1,if_neg (by omega),if_pos (by omega),if_pos (by omega),h2,table_at.rd l0 i hi]
   rfl
 ·rw [if_neg hs] at h
  cases h

/-! ### lease_Live: function 46 -/
-- BY HAND
def lease_Live.f (a0_0:Int) (a0_1:Int) (a0_2:ByteArray) (a0_3:Int) (a0_4:ByteArray) (a0_5:Bool) (a1:Int):Option Bool:=if a0_4.size≤140737488351232 then some (liveB a0_0 a0_1 a0_2 a0_3 a0_4 a0_5 a1) else none
theorem lease_Live.calls (a0_0:Int) (a0_1:Int) (a0_2:ByteArray) (a0_3:Int) (a0_4:ByteArray) (a0_5:Bool) (a1:Int) (r:Bool) (w:World) (h:lease_Live.f a0_0 a0_1 a0_2 a0_3 a0_4 a0_5 a1=some r) :
  Calls Tryz.prog 46 #[.agg #[.int .i64 a0_0,.int .i64 a0_1,.string a0_2,.int .i64 a0_3,.string a0_4,.bool a0_5],.int .i64 a1] w fun e w'=>e=.returned (.bool r)∧Below w.heap.size w w':=by
 unfold lease_Live.f at h
 by_cases hs:a0_4.size≤140737488351232
 rotate_left
 ·rw [if_neg hs] at h
  cases h
 rw [if_pos hs] at h
 have HR:=e5_ h
 unfold liveB at HR
 obtain ⟨b1,h1⟩:∃ b,leaseB a0_0 a0_1 a0_2 a0_3 a0_4 a0_5=b:=⟨_,rfl⟩
 rw [h1] at HR
 have C1:=am_ (fun W=>lease_May.calls a0_0 a0_1 a0_2 a0_3 a0_4 a0_5 b1 W (by unfold lease_May.f;rw [if_pos hs,h1]))
 have BK:=am_ (blk_new w (.cells #[.int .i64 a0_0,.int .i64 a0_1,.string a0_2,.int .i64 a0_3,.string a0_4,.bool a0_5] 44))
 have HB:=am_ (Below.refl w.heap.size w)
 replace HR:=am_ HR
 clear h hs h1
 go_enter Tryz.func46,Tryz.ntmps46
 go_wp2_with (first
  | (go_at_call 70;(with_reducible refine (C1.out _).mono ?_);rintro e w1 ⟨rfl,hb2⟩;replace BK:=am_ (kb_ (show _ from (by (with_reducible repeat (first|exact BK.out|refine k2_ ?_ _|refine k3_ ?_|refine k1_ ?_ _)))) hb2);replace HB:=am_ (bt_ (show Below w.heap.size w _ by repeat (with_reducible first|exact HB.out|apply p3_|apply p1_|apply p2_)) hb2);clear hb2;have u0:=bc_ BK.out 0;have u1:=bc_ BK.out 1;have u2:=bc_ BK.out 2;have u3:=bc_ BK.out 3;have u4:=bc_ BK.out 4;have u5:=bc_ BK.out 5))
 all_goals (try go_ret)
 all_goals refine ⟨ret_bool ?_,?_⟩
 all_goals first
  | ((repeat (with_reducible first|exact HB.out|apply p3_|apply p1_|apply p2_));done)
  | (rw [←HR.out];clear HR HB C1 BK;(try clear v0 v1 v2 v3 v4 v5);(try clear u0 u1 u2 u3 u4 u5);rw [Bool.eq_iff_iff];(simp_all;done))
  | (rw [←HR.out];clear HR HB C1 BK;simp_all<;>omega)

/-! ### lease_Holds: function 47 -/
-- BY HAND
theorem lease_Holds.calls (g:Nat) (s0 s1:Int) (s2:ByteArray) (s3:Int) (s4:ByteArray) (s5:Bool) (c:ByteArray) (now:Int) (r:Bool) (w:World) (hb:w.heap[g]?=some (.cells #[.int .i64 s0,.int .i64 s1,.string s2,.int .i64 s3,.string s4,.bool s5] 44)) (hs:s4.size≤140737488351232) (h:holdsB s0 s1 s2 s3 s4 s5 c now=r) :
  Calls Tryz.prog 47 #[.pointer (some ⟨g,0,none⟩),.string c,.int .i64 now] w fun e w'=>e=.returned (.bool r)∧Below w.heap.size w w':=by
 unfold holdsB at h
 obtain ⟨b1,h1⟩:∃ b,liveB s0 s1 s2 s3 s4 s5 now=b:=⟨_,rfl⟩
 rw [h1] at h
 have C1:=am_ (fun W=>lease_Live.calls s0 s1 s2 s3 s4 s5 now b1 W (by unfold lease_Live.f;rw [if_pos hs,h1]))
 have HR:=am_ h
 have HB:=am_ (Below.refl w.heap.size w)
 have BK:=am_ hb
 have v0:=bc_ hb 0
 have v1:=bc_ hb 1
 have v2:=bc_ hb 2
 have v3:=bc_ hb 3
 have v4:=bc_ hb 4
 have v5:=bc_ hb 5
 clear h hb hs h1
 go_enter Tryz.func47,Tryz.ntmps47
 go_wp2_with (first
  | (go_at_call 46;(with_reducible refine (C1.out _).mono ?_);rintro e w1 ⟨rfl,hb2⟩;replace BK:=am_ (kb_ (show _ from (by (with_reducible repeat (first|exact BK.out|refine k2_ ?_ _|refine k3_ ?_|refine k1_ ?_ _)))) hb2);replace HB:=am_ (bt_ (show Below w.heap.size w _ by repeat (with_reducible first|exact HB.out|apply p3_|apply p1_|apply p2_)) hb2);clear hb2;have u0:=bc_ BK.out 0;have u1:=bc_ BK.out 1;have u2:=bc_ BK.out 2;have u3:=bc_ BK.out 3;have u4:=bc_ BK.out 4;have u5:=bc_ BK.out 5))
 all_goals (try go_ret)
 all_goals refine ⟨ret_bool ?_,?_⟩
 all_goals first
  | ((repeat (with_reducible first|exact HB.out|apply p3_|apply p1_|apply p2_));done)
  | (rw [←HR.out];clear HR HB C1 BK;(try clear v0 v1 v2 v3 v4 v5);(try clear u0 u1 u2 u3 u4 u5);rw [Bool.eq_iff_iff];(simp_all;done))
  | (rw [←HR.out];clear HR HB C1 BK;simp_all<;>omega)

/-! ### lease_Bound: function 48 -/
-- BY HAND
theorem lease_Bound.calls (g:Nat) (s0 s1:Int) (s2:ByteArray) (s3:Int) (s4:ByteArray) (s5:Bool) (c:ByteArray) (now:Int) (r:Bool) (w:World) (hb:w.heap[g]?=some (.cells #[.int .i64 s0,.int .i64 s1,.string s2,.int .i64 s3,.string s4,.bool s5] 44)) (hs:s4.size≤140737488351232) (h:boundB s0 s1 s2 s3 s4 s5 c now=r) :
  Calls Tryz.prog 48 #[.pointer (some ⟨g,0,none⟩),.string c,.int .i64 now] w fun e w'=>e=.returned (.bool r)∧Below w.heap.size w w':=by
 unfold boundB at h
 obtain ⟨b1,h1⟩:∃ b,holdsB s0 s1 s2 s3 s4 s5 c now=b:=⟨_,rfl⟩
 rw [h1] at h
 have C1:=am_ (fun W (bk:W.heap[g]?=some (.cells #[.int .i64 s0,.int .i64 s1,.string s2,.int .i64 s3,.string s4,.bool s5] 44))=>lease_Holds.calls g s0 s1 s2 s3 s4 s5 c now b1 W bk hs h1)
 have HR:=am_ h
 have HB:=am_ (Below.refl w.heap.size w)
 have BK:=am_ hb
 have v0:=bc_ hb 0
 have v1:=bc_ hb 1
 have v2:=bc_ hb 2
 have v3:=bc_ hb 3
 have v4:=bc_ hb 4
 have v5:=bc_ hb 5
 clear h hb hs h1
 go_enter Tryz.func48,Tryz.ntmps48
 go_wp2_with (first
  | (go_at_call 47;(with_reducible refine (C1.out _ (by (with_reducible repeat (first|exact BK.out|refine k2_ ?_ _|refine k3_ ?_|refine k1_ ?_ _)))).mono ?_);rintro e w1 ⟨rfl,hb2⟩;replace BK:=am_ (kb_ (show _ from (by (with_reducible repeat (first|exact BK.out|refine k2_ ?_ _|refine k3_ ?_|refine k1_ ?_ _)))) hb2);replace HB:=am_ (bt_ (show Below w.heap.size w _ by repeat (with_reducible first|exact HB.out|apply p3_|apply p1_|apply p2_)) hb2);clear hb2;have u0:=bc_ BK.out 0;have u1:=bc_ BK.out 1;have u2:=bc_ BK.out 2;have u3:=bc_ BK.out 3;have u4:=bc_ BK.out 4;have u5:=bc_ BK.out 5))
 all_goals (try go_ret)
 all_goals refine ⟨ret_bool ?_,?_⟩
 all_goals first
  | ((repeat (with_reducible first|exact HB.out|apply p3_|apply p1_|apply p2_));done)
  | (rw [←HR.out];clear HR HB C1 BK;(try clear v0 v1 v2 v3 v4 v5);(try clear u0 u1 u2 u3 u4 u5);rw [Bool.eq_iff_iff];(simp_all;done))
  | (rw [←HR.out];clear HR HB C1 BK;simp_all<;>omega)

/-! ### claim_kind: function 21 -/
-- BY HAND
-- 46 47 48
def claim_kind.T1:Bool×List (List Nat×List Nat):=(true,[([],[]),([0],[0]),([1],[1]),([],[]),([2,3],[2,3]),([],[]),([5],[5]),([6],[6]),([7],[7]),([],[]),([8,9],[8,9]),([4,4,0,1,2,3,4],[4]),([10,11,0,1,2,3,4,5,6,7,8,9,10,11],[10])])
def claim_kind.B1:List Nat:=[0,1,3,0,15,0,32,96,224,0,992,31,4095]
theorem claim_kind.tab1:rtab .any (opsOf Tryz.f21 1)=claim_kind.T1:=by kernel_rfl
theorem claim_kind.bits1:waitsOk claim_kind.T1.2 claim_kind.B1=true:=by kernel_rfl
def claim_kind.T2:Bool×List (List Nat×List Nat):=(true,[([],[]),([0],[0]),([1],[1]),([2],[2]),([3],[3]),([4],[4]),([5,4],[4,5]),([6,4],[4,6]),([7,4],[4,7]),([8,4],[4,8]),([4,9],[4,9]),([10],[10]),([],[]),([12],[12]),([13],[13]),([14],[14]),([15,4],[15]),([16],[16]),([16,17],[16,17]),([18,16],[18]),([19],[19]),([19],[19]),([19],[19]),([20,21,22,19,19],[19,20,21,22]),([19,23],[19,23]),([24],[24]),([],[]),([26],[26]),([27],[27]),([28],[28]),([29],[29]),([],[]),([31],[31]),([32],[32]),([],[]),([34],[34]),([35],[35]),([],[]),([37,23],[37]),([38],[38]),([38],[38]),([38],[38]),([39,40,41,38,38],[38,39,40,41]),([38,42],[38,42]),([43],[43]),([],[]),([45],[45]),([],[]),([47],[47]),([11,25,30,33,36,44,46,48],[11,25,30,33,36,44,46,48]),([49,42,0,1,2,3,4,5,6,7,8,9,10,11,12,13,14,15,16,17,18,19,20,21,22,23,24,25,26,27,28,29,30,31,32,33,34,35,36,37,38,39,40,41,42,43,44,45,46,47,48,49],[49])])
def claim_kind.B2:List Nat:=[0,1,3,7,15,31,63,127,255,511,1023,2047,0,4096,12288,28672,61471,127007,258079,520223,1044511,1044511,1044511,8384543,16773151,33550367,0,67108864,201326592,469762048,1006632960,0,2147483648,6442450944,0,17179869184,51539607552,0,137455726623,412333633567,412333633567,412333633567,4260624330783,8658670841887,17454763864095,0,35184372088832,0,140737488355328,562949953421311,1125899906842623]
theorem claim_kind.tab2:rtab .any (opsOf Tryz.f21 2)=claim_kind.T2:=by kernel_rfl
theorem claim_kind.bits2:waitsOk claim_kind.T2.2 claim_kind.B2=true:=by kernel_rfl
def claim_kind.S (gq gl:Nat) (q0:Bool) (q1 q2 q3:Int) (q4:ByteArray) (x0 x1:Int) (x2:ByteArray) (x3:Int) (x4:ByteArray) (x5:Bool) (w':World):Prop:=w'.cell? ⟨gq,0,none⟩=some (.bool q0)∧w'.cell? ⟨gq,1,none⟩=some (.int .i64 q1)∧w'.cell? ⟨gq,2,none⟩=some (.int .i64 q2)∧w'.cell? ⟨gq,3,none⟩=some (.int .i64 q3)∧w'.cell? ⟨gq,4,none⟩=some (.string q4)∧w'.cell? ⟨gl,0,none⟩=some (.int .i64 x0)∧w'.cell? ⟨gl,1,none⟩=some (.int .i64 x1)∧w'.cell? ⟨gl,2,none⟩=some (.string x2)∧w'.cell? ⟨gl,3,none⟩=some (.int .i64 x3)∧w'.cell? ⟨gl,4,none⟩=some (.string x4)∧w'.cell? ⟨gl,5,none⟩=some (.bool x5)
theorem claim_kind.S_below {w w2:World} {gq gl:Nat} {q0:Bool} {q1 q2 q3:Int} {q4:ByteArray} {x0 x1:Int} {x2:ByteArray} {x3:Int} {x4:ByteArray} {x5:Bool} (h:claim_kind.S gq gl q0 q1 q2 q3 q4 x0 x1 x2 x3 x4 x5 w) (hb:Below w.heap.size w w2):claim_kind.S gq gl q0 q1 q2 q3 q4 x0 x1 x2 x3 x4 x5 w2:=by
 obtain ⟨s0,s1,s2,s3,s4,s5,s6,s7,s8,s9,s10⟩:=h
 exact ⟨(hb.cell (wb_ _ _ s0)).trans s0,(hb.cell (wb_ _ _ s1)).trans s1,(hb.cell (wb_ _ _ s2)).trans s2,(hb.cell (wb_ _ _ s3)).trans s3,(hb.cell (wb_ _ _ s4)).trans s4,(hb.cell (wb_ _ _ s5)).trans s5,(hb.cell (wb_ _ _ s6)).trans s6,(hb.cell (wb_ _ _ s7)).trans s7,(hb.cell (wb_ _ _ s8)).trans s8,(hb.cell (wb_ _ _ s9)).trans s9,(hb.cell (wb_ _ _ s10)).trans s10⟩
theorem claim_kind.calls (gq:Nat) (q0:Bool) (q1 q2 q3:Int) (q4:ByteArray) (hto:Int) (lent:Bool) (gl:Nat) (x0 x1:Int) (x2:ByteArray) (x3:Int) (x4:ByteArray) (x5:Bool) (client:ByteArray) (now:Int) (r:Int) (w:World) (bq:w.heap[gq]?=some (.cells #[.bool q0,.int .i64 q1,.int .i64 q2,.int .i64 q3,.string q4] 29)) (bx:w.heap[gl]?=some (.cells #[.int .i64 x0,.int .i64 x1,.string x2,.int .i64 x3,.string x4,.bool x5] 44)) (hs:x4.size≤140737488351232) (h:kindV q0 q1 hto lent ⟨x0,x1,x2,x3,x4,x5⟩ client now=r) :
  Calls Tryz.prog 21 #[.pointer (some ⟨gq,0,none⟩),.int .i64 hto,.bool lent,.pointer (some ⟨gl,0,none⟩),.string client,.int .i64 now] w fun e w'=>e=.returned (.int .i64 r)∧Below w.heap.size w w':=by
 obtain ⟨lv,hlv⟩:∃ b,liveB x0 x1 x2 x3 x4 x5 now=b:=⟨_,rfl⟩
 obtain ⟨bh,hbh⟩:∃ b,holdsB x0 x1 x2 x3 x4 x5 client now=b:=⟨_,rfl⟩
 obtain ⟨bb,hbb⟩:∃ b,boundB x0 x1 x2 x3 x4 x5 client now=b:=⟨_,rfl⟩
 obtain ⟨ow,how⟩:∃ b,(x2.toList == client.toList)=b:=⟨_,rfl⟩
 have HR:=am_ (show (if q0=true then (if q1=167772161 then (if (lent && bh)=true then (1:Int) else 2) else 0) else if hto=0 then 0 else if lent=false then 2 else if lv=true then (if bb=true then 1 else 2) else if ow=true then 1 else 0)=r from by
  rw [←h,←hlv,←hbh,←hbb,←how]
  unfold kindV
  simp only [beq_iff_eq]
  rfl)
 have CL:=am_ (fun W=>lease_Live.calls x0 x1 x2 x3 x4 x5 now lv W (by unfold lease_Live.f;rw [if_pos hs,hlv]))
 have CH:=am_ (fun W (hx:W.heap[gl]?=some (.cells #[.int .i64 x0,.int .i64 x1,.string x2,.int .i64 x3,.string x4,.bool x5] 44))=>lease_Holds.calls gl x0 x1 x2 x3 x4 x5 client now bh W hx hs hbh)
 have CB:=am_ (fun W (hx:W.heap[gl]?=some (.cells #[.int .i64 x0,.int .i64 x1,.string x2,.int .i64 x3,.string x4,.bool x5] 44))=>lease_Bound.calls gl x0 x1 x2 x3 x4 x5 client now bb W hx hs hbb)
 have HB:=am_ (Below.refl w.heap.size w)
 have BQ:=am_ bq
 have BX:=am_ bx
 have v0:=bc_ BQ.out 0;have v1:=bc_ BQ.out 1;have v2:=bc_ BQ.out 2;have v3:=bc_ BQ.out 3;have v4:=bc_ BQ.out 4
 have z0:=bc_ BX.out 0;have z1:=bc_ BX.out 1;have z2:=bc_ BX.out 2;have z3:=bc_ BX.out 3;have z4:=bc_ BX.out 4;have z5:=bc_ BX.out 5
 clear h hs hlv hbh hbb bq bx
 go_enter Tryz.func21,Tryz.ntmps21
 go_wp2_with (fail)
 refine ordS (S:=claim_kind.S gq gl q0 q1 q2 q3 q4 x0 x1 x2 x3 x4 x5) 13 (by kernel_rfl) rfl rfl (by unfold claim_kind.S;go_simp) ?_
 intro hHeld
 refine with_tabW claim_kind.tab1 claim_kind.bits1 (fun HT_ HW_=>?_)
 have HB0:=HB
 replace HB:=am_ (p2_ HB.out)
 replace BX:=am_ (k3_ BX.out)
 replace BQ:=am_ (k3_ BQ.out)
 refine ordI [0,1,2,3,5,6,7,8,9,10] ?_
 iterate 10 first|(refine ordP' HT_ (v:=?_) (a':=?_) rfl rfl (by kernel_rfl) (fun _ _ _ h=>h) (Or.inl ⟨by kernel_rfl,?_⟩) ?_ ?_;rotate_left;(intro w';go_simp;with_reducible rfl);rotate_left;(simp only [Act.put,sa_,sb_,sc_,i64_w,i32_w];rfl))|(refine ordL' HT_ HW_ (v:=?_) (a':=?_) rfl rfl (by kernel_rfl) (fun _ _ _ h=>h) (Or.inl ⟨by kernel_rfl,?_⟩) hHeld ?_ ?_;rotate_left;(rintro w' ⟨s0,s1,s2,s3,s4,s5,s6,s7,s8,s9,s10⟩;go_simp;with_reducible rfl);rotate_left;(simp only [Act.put,sa_,sb_,sc_,i64_w,i32_w];rfl))
 refine ordN ?_
 refine ordG (fn:=Tryz.f46) HT_ 4 rfl rfl (by kernel_rfl) rfl Tryz.func46 (by kernel_rfl) (by kernel_rfl) #[.agg #[.int .i64 x0,.int .i64 x1,.string x2,.int .i64 x3,.string x4,.bool x5],.int .i64 now] (by kernel_rfl) (by (try simp only [List.map_toArray,List.map_cons,List.map_nil]);first|done|rfl) ?_
 with_reducible refine (CL.out _).mono ?_
 rintro e wg ⟨rfl,hb2⟩
 replace HB:=am_ (bt_ HB.out hb2)
 replace BX:=am_ (kb_ BX.out hb2)
 replace BQ:=am_ (kb_ BQ.out hb2)
 refine ⟨_,rfl,(claim_kind.S_below hHeld hb2),fun hHeld=>⟨?_,?_,?_⟩⟩
 rotate_left
 ·simp only [Act.put,sa_,sb_,sc_,i64_w,i32_w]
  rfl
 refine ordI [11,12] ?_
 iterate 2 (refine ordP' HT_ (v:=?_) (a':=?_) rfl rfl (by kernel_rfl) (fun _ _ _ h=>h) (Or.inl ⟨by kernel_rfl,?_⟩) ?_ ?_;rotate_left;(intro w';go_simp;with_reducible rfl);rotate_left;(simp only [Act.put,sa_,sb_,sc_,i64_w,i32_w];rfl))
 refine ordN ?_
 refine ordE HT_ (by kernel_rfl) ?_
 have HS:=am_ hHeld
 clear hHeld HT_ HW_
 clear v0 v1 v2 v3 v4 z0 z1 z2 z3 z4 z5
 clear how CL
 go_wp2_with (fail)
 cases q0 with
 | true =>
  cases lent with
  | true =>
   cases lv with
   | true =>
    refine ordS (S:=claim_kind.S gq gl true q1 q2 q3 q4 x0 x1 x2 x3 x4 x5) 51 (by kernel_rfl) rfl rfl (by exact claim_kind.S_below HS.out (by repeat (first|exact Below.refl _ _|apply p2_))) ?_
    intro hHeld
    refine with_tabW claim_kind.tab2 claim_kind.bits2 (fun HT_ HW_=>?_)
    have HB0:=HB
    replace HB:=am_ (p2_ HB.out)
    replace BX:=am_ (k3_ BX.out)
    replace BQ:=am_ (k3_ BQ.out)
    refine ordI [0,1,2,3,4,5,6,7,8,9,10,11,12,13,14,15,16,17,18,19,20,21,22,26,27,28,29,30,31,32,33,34,35,36,37,45,46,47,48] ?_
    iterate 39 first|(refine ordP' HT_ (v:=?_) (a':=?_) rfl rfl (by kernel_rfl) (fun _ _ _ h=>h) (Or.inl ⟨by kernel_rfl,?_⟩) ?_ ?_;rotate_left;(intro w';go_simp;with_reducible rfl);rotate_left;(simp only [Act.put,sa_,sb_,sc_,i64_w,i32_w];rfl))|(refine ordL' HT_ HW_ (v:=?_) (a':=?_) rfl rfl (by kernel_rfl) (fun _ _ _ h=>h) (Or.inl ⟨by kernel_rfl,?_⟩) hHeld ?_ ?_;rotate_left;(rintro w' ⟨s0,s1,s2,s3,s4,s5,s6,s7,s8,s9,s10⟩;go_simp;with_reducible rfl);rotate_left;(simp only [Act.put,sa_,sb_,sc_,i64_w,i32_w];rfl))
    refine ordN ?_
    refine ordG (fn:=Tryz.f47) HT_ 23 rfl rfl (by kernel_rfl) rfl Tryz.func47 (by kernel_rfl) (by kernel_rfl) #[.pointer (some ⟨gl,0,none⟩),.string client,.int .i64 now] (by kernel_rfl) (by (try simp only [List.map_toArray,List.map_cons,List.map_nil]);first|done|rfl) ?_
    with_reducible refine (CH.out _ BX.out).mono ?_
    rintro e wg ⟨rfl,hb2⟩
    replace HB:=am_ (bt_ HB.out hb2)
    replace BX:=am_ (kb_ BX.out hb2)
    replace BQ:=am_ (kb_ BQ.out hb2)
    refine ⟨_,rfl,(claim_kind.S_below hHeld hb2),fun hHeld=>⟨?_,?_,?_⟩⟩
    rotate_left
    ·simp only [Act.put,sa_,sb_,sc_,i64_w,i32_w]
     rfl
    refine ordI [24,25,38,39,40,41] ?_
    iterate 6 (refine ordP' HT_ (v:=?_) (a':=?_) rfl rfl (by kernel_rfl) (fun _ _ _ h=>h) (Or.inl ⟨by kernel_rfl,?_⟩) ?_ ?_;rotate_left;(intro w';go_simp;with_reducible rfl);rotate_left;(simp only [Act.put,sa_,sb_,sc_,i64_w,i32_w];rfl))
    refine ordN ?_
    refine ordG (fn:=Tryz.f48) HT_ 42 rfl rfl (by kernel_rfl) rfl Tryz.func48 (by kernel_rfl) (by kernel_rfl) #[.pointer (some ⟨gl,0,none⟩),.string client,.int .i64 now] (by kernel_rfl) (by (try simp only [List.map_toArray,List.map_cons,List.map_nil]);first|done|rfl) ?_
    with_reducible refine (CB.out _ BX.out).mono ?_
    rintro e wg ⟨rfl,hb2⟩
    replace HB:=am_ (bt_ HB.out hb2)
    replace BX:=am_ (kb_ BX.out hb2)
    replace BQ:=am_ (kb_ BQ.out hb2)
    refine ⟨_,rfl,(claim_kind.S_below hHeld hb2),fun hHeld=>⟨?_,?_,?_⟩⟩
    rotate_left
    ·simp only [Act.put,sa_,sb_,sc_,i64_w,i32_w]
     rfl
    refine ordI [43,44] ?_
    iterate 2 (refine ordP' HT_ (v:=?_) (a':=?_) rfl rfl (by kernel_rfl) (fun _ _ _ h=>h) (Or.inl ⟨by kernel_rfl,?_⟩) ?_ ?_;rotate_left;(intro w';go_simp;with_reducible rfl);rotate_left;(simp only [Act.put,sa_,sb_,sc_,i64_w,i32_w];rfl))
    refine ordN ?_
    refine ordC HT_ 49 rfl rfl (by kernel_rfl) (fun K hK=>?_)
    rw [if_pos (by kernel_rfl)]
    go_simp
    refine hK.out _ _ (claim_kind.S_below hHeld (p3_ (Below.refl _ _) _)) (fun hHeld=>?_)
    clear hK K
    refine ordI [50] ?_
    iterate 1 (refine ordP' HT_ (v:=?_) (a':=?_) rfl rfl (by kernel_rfl) (fun _ _ _ h=>h) (Or.inl ⟨by kernel_rfl,?_⟩) ?_ ?_;rotate_left;(intro w';go_simp;with_reducible rfl);rotate_left;(simp only [Act.put,sa_,sb_,sc_,i64_w,i32_w];rfl))
    refine ordN ?_
    refine ordE HT_ (by kernel_rfl) ?_
    clear hHeld HT_ HW_ BX BQ CH CB HS
    go_wp2
    refine wp_loop_rounds 9 ?_
    repeat any_goals (rw [rounds_succ];go_wp2)
    all_goals (try go_ret)
    all_goals refine ⟨?_,by repeat (with_reducible first|exact HB.out|exact HB0.out|apply p3_|apply p1_|apply p2_)⟩
    all_goals first|(rw [←HR.out];clear HR HB HB0;rfl)|(rw [←HR.out];clear HR HB HB0;(simp_all;done))|(rw [←HR.out];clear HR HB HB0;simp_all<;>omega)
   | false =>
    refine ordS (S:=claim_kind.S gq gl true q1 q2 q3 q4 x0 x1 x2 x3 x4 x5) 51 (by kernel_rfl) rfl rfl (by exact claim_kind.S_below HS.out (by repeat (first|exact Below.refl _ _|apply p2_))) ?_
    intro hHeld
    refine with_tabW claim_kind.tab2 claim_kind.bits2 (fun HT_ HW_=>?_)
    have HB0:=HB
    replace HB:=am_ (p2_ HB.out)
    replace BX:=am_ (k3_ BX.out)
    replace BQ:=am_ (k3_ BQ.out)
    refine ordI [0,1,2,3,4,5,6,7,8,9,10,11,12,13,14,15,16,17,18,19,20,21,22,26,27,28,29,30,31,32,33,34,35,36,37,45,46,47,48] ?_
    iterate 39 first|(refine ordP' HT_ (v:=?_) (a':=?_) rfl rfl (by kernel_rfl) (fun _ _ _ h=>h) (Or.inl ⟨by kernel_rfl,?_⟩) ?_ ?_;rotate_left;(intro w';go_simp;with_reducible rfl);rotate_left;(simp only [Act.put,sa_,sb_,sc_,i64_w,i32_w];rfl))|(refine ordL' HT_ HW_ (v:=?_) (a':=?_) rfl rfl (by kernel_rfl) (fun _ _ _ h=>h) (Or.inl ⟨by kernel_rfl,?_⟩) hHeld ?_ ?_;rotate_left;(rintro w' ⟨s0,s1,s2,s3,s4,s5,s6,s7,s8,s9,s10⟩;go_simp;with_reducible rfl);rotate_left;(simp only [Act.put,sa_,sb_,sc_,i64_w,i32_w];rfl))
    refine ordN ?_
    refine ordG (fn:=Tryz.f47) HT_ 23 rfl rfl (by kernel_rfl) rfl Tryz.func47 (by kernel_rfl) (by kernel_rfl) #[.pointer (some ⟨gl,0,none⟩),.string client,.int .i64 now] (by kernel_rfl) (by (try simp only [List.map_toArray,List.map_cons,List.map_nil]);first|done|rfl) ?_
    with_reducible refine (CH.out _ BX.out).mono ?_
    rintro e wg ⟨rfl,hb2⟩
    replace HB:=am_ (bt_ HB.out hb2)
    replace BX:=am_ (kb_ BX.out hb2)
    replace BQ:=am_ (kb_ BQ.out hb2)
    refine ⟨_,rfl,(claim_kind.S_below hHeld hb2),fun hHeld=>⟨?_,?_,?_⟩⟩
    rotate_left
    ·simp only [Act.put,sa_,sb_,sc_,i64_w,i32_w]
     rfl
    refine ordI [24,25,38] ?_
    iterate 3 (refine ordP' HT_ (v:=?_) (a':=?_) rfl rfl (by kernel_rfl) (fun _ _ _ h=>h) (Or.inl ⟨by kernel_rfl,?_⟩) ?_ ?_;rotate_left;(intro w';go_simp;with_reducible rfl);rotate_left;(simp only [Act.put,sa_,sb_,sc_,i64_w,i32_w];rfl))
    refine ordN ?_
    refine ordI [39,40,41,42] ?_
    iterate 4 (refine ordP' HT_ (v:=undef) (a':=?_) rfl rfl (by kernel_rfl) (fun _ _ _ h=>h) (Or.inr ⟨by kernel_rfl,rfl⟩) ?_ ?_;rotate_left;(simp only [Act.put,sa_,sb_,sc_,i64_w,i32_w];rfl))
    refine ordN ?_
    refine ordI [43,44] ?_
    iterate 2 (refine ordP' HT_ (v:=?_) (a':=?_) rfl rfl (by kernel_rfl) (fun _ _ _ h=>h) (Or.inl ⟨by kernel_rfl,?_⟩) ?_ ?_;rotate_left;(intro w';go_simp;with_reducible rfl);rotate_left;(simp only [Act.put,sa_,sb_,sc_,i64_w,i32_w];rfl))
    refine ordN ?_
    refine ordC HT_ 49 rfl rfl (by kernel_rfl) (fun K hK=>?_)
    rw [if_pos (by kernel_rfl)]
    go_simp
    refine hK.out _ _ (claim_kind.S_below hHeld (p3_ (Below.refl _ _) _)) (fun hHeld=>?_)
    clear hK K
    refine ordI [50] ?_
    iterate 1 (refine ordP' HT_ (v:=?_) (a':=?_) rfl rfl (by kernel_rfl) (fun _ _ _ h=>h) (Or.inl ⟨by kernel_rfl,?_⟩) ?_ ?_;rotate_left;(intro w';go_simp;with_reducible rfl);rotate_left;(simp only [Act.put,sa_,sb_,sc_,i64_w,i32_w];rfl))
    refine ordN ?_
    refine ordE HT_ (by kernel_rfl) ?_
    clear hHeld HT_ HW_ BX BQ CH CB HS
    go_wp2
    refine wp_loop_rounds 9 ?_
    repeat any_goals (rw [rounds_succ];go_wp2)
    all_goals (try go_ret)
    all_goals refine ⟨?_,by repeat (with_reducible first|exact HB.out|exact HB0.out|apply p3_|apply p1_|apply p2_)⟩
    all_goals first|(rw [←HR.out];clear HR HB HB0;rfl)|(rw [←HR.out];clear HR HB HB0;(simp_all;done))|(rw [←HR.out];clear HR HB HB0;simp_all<;>omega)
  | false =>
   cases lv with
   | true =>
    refine ordS (S:=claim_kind.S gq gl true q1 q2 q3 q4 x0 x1 x2 x3 x4 x5) 51 (by kernel_rfl) rfl rfl (by exact claim_kind.S_below HS.out (by repeat (first|exact Below.refl _ _|apply p2_))) ?_
    intro hHeld
    refine with_tabW claim_kind.tab2 claim_kind.bits2 (fun HT_ HW_=>?_)
    have HB0:=HB
    replace HB:=am_ (p2_ HB.out)
    replace BX:=am_ (k3_ BX.out)
    replace BQ:=am_ (k3_ BQ.out)
    refine ordI [0,1,2,3,4,5,6,7,8,9,10,11,12,13,14,15,16,17,18,19] ?_
    iterate 20 first|(refine ordP' HT_ (v:=?_) (a':=?_) rfl rfl (by kernel_rfl) (fun _ _ _ h=>h) (Or.inl ⟨by kernel_rfl,?_⟩) ?_ ?_;rotate_left;(intro w';go_simp;with_reducible rfl);rotate_left;(simp only [Act.put,sa_,sb_,sc_,i64_w,i32_w];rfl))|(refine ordL' HT_ HW_ (v:=?_) (a':=?_) rfl rfl (by kernel_rfl) (fun _ _ _ h=>h) (Or.inl ⟨by kernel_rfl,?_⟩) hHeld ?_ ?_;rotate_left;(rintro w' ⟨s0,s1,s2,s3,s4,s5,s6,s7,s8,s9,s10⟩;go_simp;with_reducible rfl);rotate_left;(simp only [Act.put,sa_,sb_,sc_,i64_w,i32_w];rfl))
    refine ordN ?_
    refine ordI [20,21,22,23] ?_
    iterate 4 (refine ordP' HT_ (v:=undef) (a':=?_) rfl rfl (by kernel_rfl) (fun _ _ _ h=>h) (Or.inr ⟨by kernel_rfl,rfl⟩) ?_ ?_;rotate_left;(simp only [Act.put,sa_,sb_,sc_,i64_w,i32_w];rfl))
    refine ordN ?_
    refine ordI [24,25,26,27,28,29,30,31,32,33,34,35,36,37,38,39,40,41,45,46,47,48] ?_
    iterate 22 first|(refine ordP' HT_ (v:=?_) (a':=?_) rfl rfl (by kernel_rfl) (fun _ _ _ h=>h) (Or.inl ⟨by kernel_rfl,?_⟩) ?_ ?_;rotate_left;(intro w';go_simp;with_reducible rfl);rotate_left;(simp only [Act.put,sa_,sb_,sc_,i64_w,i32_w];rfl))|(refine ordL' HT_ HW_ (v:=?_) (a':=?_) rfl rfl (by kernel_rfl) (fun _ _ _ h=>h) (Or.inl ⟨by kernel_rfl,?_⟩) hHeld ?_ ?_;rotate_left;(rintro w' ⟨s0,s1,s2,s3,s4,s5,s6,s7,s8,s9,s10⟩;go_simp;with_reducible rfl);rotate_left;(simp only [Act.put,sa_,sb_,sc_,i64_w,i32_w];rfl))
    refine ordN ?_
    refine ordG (fn:=Tryz.f48) HT_ 42 rfl rfl (by kernel_rfl) rfl Tryz.func48 (by kernel_rfl) (by kernel_rfl) #[.pointer (some ⟨gl,0,none⟩),.string client,.int .i64 now] (by kernel_rfl) (by (try simp only [List.map_toArray,List.map_cons,List.map_nil]);first|done|rfl) ?_
    with_reducible refine (CB.out _ BX.out).mono ?_
    rintro e wg ⟨rfl,hb2⟩
    replace HB:=am_ (bt_ HB.out hb2)
    replace BX:=am_ (kb_ BX.out hb2)
    replace BQ:=am_ (kb_ BQ.out hb2)
    refine ⟨_,rfl,(claim_kind.S_below hHeld hb2),fun hHeld=>⟨?_,?_,?_⟩⟩
    rotate_left
    ·simp only [Act.put,sa_,sb_,sc_,i64_w,i32_w]
     rfl
    refine ordI [43,44] ?_
    iterate 2 (refine ordP' HT_ (v:=?_) (a':=?_) rfl rfl (by kernel_rfl) (fun _ _ _ h=>h) (Or.inl ⟨by kernel_rfl,?_⟩) ?_ ?_;rotate_left;(intro w';go_simp;with_reducible rfl);rotate_left;(simp only [Act.put,sa_,sb_,sc_,i64_w,i32_w];rfl))
    refine ordN ?_
    refine ordC HT_ 49 rfl rfl (by kernel_rfl) (fun K hK=>?_)
    rw [if_pos (by kernel_rfl)]
    go_simp
    refine hK.out _ _ (claim_kind.S_below hHeld (p3_ (Below.refl _ _) _)) (fun hHeld=>?_)
    clear hK K
    refine ordI [50] ?_
    iterate 1 (refine ordP' HT_ (v:=?_) (a':=?_) rfl rfl (by kernel_rfl) (fun _ _ _ h=>h) (Or.inl ⟨by kernel_rfl,?_⟩) ?_ ?_;rotate_left;(intro w';go_simp;with_reducible rfl);rotate_left;(simp only [Act.put,sa_,sb_,sc_,i64_w,i32_w];rfl))
    refine ordN ?_
    refine ordE HT_ (by kernel_rfl) ?_
    clear hHeld HT_ HW_ BX BQ CH CB HS
    go_wp2
    refine wp_loop_rounds 9 ?_
    repeat any_goals (rw [rounds_succ];go_wp2)
    all_goals (try go_ret)
    all_goals refine ⟨?_,by repeat (with_reducible first|exact HB.out|exact HB0.out|apply p3_|apply p1_|apply p2_)⟩
    all_goals first|(rw [←HR.out];clear HR HB HB0;rfl)|(rw [←HR.out];clear HR HB HB0;(simp_all;done))|(rw [←HR.out];clear HR HB HB0;simp_all<;>omega)
   | false =>
    refine ordS (S:=claim_kind.S gq gl true q1 q2 q3 q4 x0 x1 x2 x3 x4 x5) 51 (by kernel_rfl) rfl rfl (by exact claim_kind.S_below HS.out (by repeat (first|exact Below.refl _ _|apply p2_))) ?_
    intro hHeld
    refine with_tabW claim_kind.tab2 claim_kind.bits2 (fun HT_ HW_=>?_)
    have HB0:=HB
    replace HB:=am_ (p2_ HB.out)
    replace BX:=am_ (k3_ BX.out)
    replace BQ:=am_ (k3_ BQ.out)
    refine ordI [0,1,2,3,4,5,6,7,8,9,10,11,12,13,14,15,16,17,18,19] ?_
    iterate 20 first|(refine ordP' HT_ (v:=?_) (a':=?_) rfl rfl (by kernel_rfl) (fun _ _ _ h=>h) (Or.inl ⟨by kernel_rfl,?_⟩) ?_ ?_;rotate_left;(intro w';go_simp;with_reducible rfl);rotate_left;(simp only [Act.put,sa_,sb_,sc_,i64_w,i32_w];rfl))|(refine ordL' HT_ HW_ (v:=?_) (a':=?_) rfl rfl (by kernel_rfl) (fun _ _ _ h=>h) (Or.inl ⟨by kernel_rfl,?_⟩) hHeld ?_ ?_;rotate_left;(rintro w' ⟨s0,s1,s2,s3,s4,s5,s6,s7,s8,s9,s10⟩;go_simp;with_reducible rfl);rotate_left;(simp only [Act.put,sa_,sb_,sc_,i64_w,i32_w];rfl))
    refine ordN ?_
    refine ordI [20,21,22,23] ?_
    iterate 4 (refine ordP' HT_ (v:=undef) (a':=?_) rfl rfl (by kernel_rfl) (fun _ _ _ h=>h) (Or.inr ⟨by kernel_rfl,rfl⟩) ?_ ?_;rotate_left;(simp only [Act.put,sa_,sb_,sc_,i64_w,i32_w];rfl))
    refine ordN ?_
    refine ordI [24,25,26,27,28,29,30,31,32,33,34,35,36,37,38] ?_
    iterate 15 first|(refine ordP' HT_ (v:=?_) (a':=?_) rfl rfl (by kernel_rfl) (fun _ _ _ h=>h) (Or.inl ⟨by kernel_rfl,?_⟩) ?_ ?_;rotate_left;(intro w';go_simp;with_reducible rfl);rotate_left;(simp only [Act.put,sa_,sb_,sc_,i64_w,i32_w];rfl))|(refine ordL' HT_ HW_ (v:=?_) (a':=?_) rfl rfl (by kernel_rfl) (fun _ _ _ h=>h) (Or.inl ⟨by kernel_rfl,?_⟩) hHeld ?_ ?_;rotate_left;(rintro w' ⟨s0,s1,s2,s3,s4,s5,s6,s7,s8,s9,s10⟩;go_simp;with_reducible rfl);rotate_left;(simp only [Act.put,sa_,sb_,sc_,i64_w,i32_w];rfl))
    refine ordN ?_
    refine ordI [39,40,41,42] ?_
    iterate 4 (refine ordP' HT_ (v:=undef) (a':=?_) rfl rfl (by kernel_rfl) (fun _ _ _ h=>h) (Or.inr ⟨by kernel_rfl,rfl⟩) ?_ ?_;rotate_left;(simp only [Act.put,sa_,sb_,sc_,i64_w,i32_w];rfl))
    refine ordN ?_
    refine ordI [43,44,45,46,47,48] ?_
    iterate 6 (refine ordP' HT_ (v:=?_) (a':=?_) rfl rfl (by kernel_rfl) (fun _ _ _ h=>h) (Or.inl ⟨by kernel_rfl,?_⟩) ?_ ?_;rotate_left;(intro w';go_simp;with_reducible rfl);rotate_left;(simp only [Act.put,sa_,sb_,sc_,i64_w,i32_w];rfl))
    refine ordN ?_
    refine ordC HT_ 49 rfl rfl (by kernel_rfl) (fun K hK=>?_)
    rw [if_pos (by kernel_rfl)]
    go_simp
    refine hK.out _ _ (claim_kind.S_below hHeld (p3_ (Below.refl _ _) _)) (fun hHeld=>?_)
    clear hK K
    refine ordI [50] ?_
    iterate 1 (refine ordP' HT_ (v:=?_) (a':=?_) rfl rfl (by kernel_rfl) (fun _ _ _ h=>h) (Or.inl ⟨by kernel_rfl,?_⟩) ?_ ?_;rotate_left;(intro w';go_simp;with_reducible rfl);rotate_left;(simp only [Act.put,sa_,sb_,sc_,i64_w,i32_w];rfl))
    refine ordN ?_
    refine ordE HT_ (by kernel_rfl) ?_
    clear hHeld HT_ HW_ BX BQ CH CB HS
    go_wp2
    refine wp_loop_rounds 9 ?_
    repeat any_goals (rw [rounds_succ];go_wp2)
    all_goals (try go_ret)
    all_goals refine ⟨?_,by repeat (with_reducible first|exact HB.out|exact HB0.out|apply p3_|apply p1_|apply p2_)⟩
    all_goals first|(rw [←HR.out];clear HR HB HB0;rfl)|(rw [←HR.out];clear HR HB HB0;(simp_all;done))|(rw [←HR.out];clear HR HB HB0;simp_all<;>omega)
 | false =>
  cases lv with
  | true =>
   refine ordS (S:=claim_kind.S gq gl false q1 q2 q3 q4 x0 x1 x2 x3 x4 x5) 51 (by kernel_rfl) rfl rfl (by exact claim_kind.S_below HS.out (by repeat (first|exact Below.refl _ _|apply p2_))) ?_
   intro hHeld
   refine with_tabW claim_kind.tab2 claim_kind.bits2 (fun HT_ HW_=>?_)
   have HB0:=HB
   replace HB:=am_ (p2_ HB.out)
   replace BX:=am_ (k3_ BX.out)
   replace BQ:=am_ (k3_ BQ.out)
   refine ordI [0,1,2,3,4] ?_
   iterate 5 first|(refine ordP' HT_ (v:=?_) (a':=?_) rfl rfl (by kernel_rfl) (fun _ _ _ h=>h) (Or.inl ⟨by kernel_rfl,?_⟩) ?_ ?_;rotate_left;(intro w';go_simp;with_reducible rfl);rotate_left;(simp only [Act.put,sa_,sb_,sc_,i64_w,i32_w];rfl))|(refine ordL' HT_ HW_ (v:=?_) (a':=?_) rfl rfl (by kernel_rfl) (fun _ _ _ h=>h) (Or.inl ⟨by kernel_rfl,?_⟩) hHeld ?_ ?_;rotate_left;(rintro w' ⟨s0,s1,s2,s3,s4,s5,s6,s7,s8,s9,s10⟩;go_simp;with_reducible rfl);rotate_left;(simp only [Act.put,sa_,sb_,sc_,i64_w,i32_w];rfl))
   refine ordN ?_
   refine ordI [5,6,7,8,9] ?_
   iterate 5 (refine ordP' HT_ (v:=undef) (a':=?_) rfl rfl (by kernel_rfl) (fun _ _ _ h=>h) (Or.inr ⟨by kernel_rfl,rfl⟩) ?_ ?_;rotate_left;(simp only [Act.put,sa_,sb_,sc_,i64_w,i32_w];rfl))
   refine ordN ?_
   refine ordI [10,11,12,13,14,15,16] ?_
   iterate 7 first|(refine ordP' HT_ (v:=?_) (a':=?_) rfl rfl (by kernel_rfl) (fun _ _ _ h=>h) (Or.inl ⟨by kernel_rfl,?_⟩) ?_ ?_;rotate_left;(intro w';go_simp;with_reducible rfl);rotate_left;(simp only [Act.put,sa_,sb_,sc_,i64_w,i32_w];rfl))|(refine ordL' HT_ HW_ (v:=?_) (a':=?_) rfl rfl (by kernel_rfl) (fun _ _ _ h=>h) (Or.inl ⟨by kernel_rfl,?_⟩) hHeld ?_ ?_;rotate_left;(rintro w' ⟨s0,s1,s2,s3,s4,s5,s6,s7,s8,s9,s10⟩;go_simp;with_reducible rfl);rotate_left;(simp only [Act.put,sa_,sb_,sc_,i64_w,i32_w];rfl))
   refine ordN ?_
   refine ordI [17] ?_
   iterate 1 (refine ordP' HT_ (v:=undef) (a':=?_) rfl rfl (by kernel_rfl) (fun _ _ _ h=>h) (Or.inr ⟨by kernel_rfl,rfl⟩) ?_ ?_;rotate_left;(simp only [Act.put,sa_,sb_,sc_,i64_w,i32_w];rfl))
   refine ordN ?_
   refine ordI [18,19] ?_
   iterate 2 (refine ordP' HT_ (v:=?_) (a':=?_) rfl rfl (by kernel_rfl) (fun _ _ _ h=>h) (Or.inl ⟨by kernel_rfl,?_⟩) ?_ ?_;rotate_left;(intro w';go_simp;with_reducible rfl);rotate_left;(simp only [Act.put,sa_,sb_,sc_,i64_w,i32_w];rfl))
   refine ordN ?_
   refine ordI [20,21,22,23] ?_
   iterate 4 (refine ordP' HT_ (v:=undef) (a':=?_) rfl rfl (by kernel_rfl) (fun _ _ _ h=>h) (Or.inr ⟨by kernel_rfl,rfl⟩) ?_ ?_;rotate_left;(simp only [Act.put,sa_,sb_,sc_,i64_w,i32_w];rfl))
   refine ordN ?_
   refine ordI [24,25,26,27,28,29,30,31,32,33,34,35,36,37,38,39,40,41,45,46,47,48] ?_
   iterate 22 first|(refine ordP' HT_ (v:=?_) (a':=?_) rfl rfl (by kernel_rfl) (fun _ _ _ h=>h) (Or.inl ⟨by kernel_rfl,?_⟩) ?_ ?_;rotate_left;(intro w';go_simp;with_reducible rfl);rotate_left;(simp only [Act.put,sa_,sb_,sc_,i64_w,i32_w];rfl))|(refine ordL' HT_ HW_ (v:=?_) (a':=?_) rfl rfl (by kernel_rfl) (fun _ _ _ h=>h) (Or.inl ⟨by kernel_rfl,?_⟩) hHeld ?_ ?_;rotate_left;(rintro w' ⟨s0,s1,s2,s3,s4,s5,s6,s7,s8,s9,s10⟩;go_simp;with_reducible rfl);rotate_left;(simp only [Act.put,sa_,sb_,sc_,i64_w,i32_w];rfl))
   refine ordN ?_
   refine ordG (fn:=Tryz.f48) HT_ 42 rfl rfl (by kernel_rfl) rfl Tryz.func48 (by kernel_rfl) (by kernel_rfl) #[.pointer (some ⟨gl,0,none⟩),.string client,.int .i64 now] (by kernel_rfl) (by (try simp only [List.map_toArray,List.map_cons,List.map_nil]);first|done|rfl) ?_
   with_reducible refine (CB.out _ BX.out).mono ?_
   rintro e wg ⟨rfl,hb2⟩
   replace HB:=am_ (bt_ HB.out hb2)
   replace BX:=am_ (kb_ BX.out hb2)
   replace BQ:=am_ (kb_ BQ.out hb2)
   refine ⟨_,rfl,(claim_kind.S_below hHeld hb2),fun hHeld=>⟨?_,?_,?_⟩⟩
   rotate_left
   ·simp only [Act.put,sa_,sb_,sc_,i64_w,i32_w]
    rfl
   refine ordI [43,44] ?_
   iterate 2 (refine ordP' HT_ (v:=?_) (a':=?_) rfl rfl (by kernel_rfl) (fun _ _ _ h=>h) (Or.inl ⟨by kernel_rfl,?_⟩) ?_ ?_;rotate_left;(intro w';go_simp;with_reducible rfl);rotate_left;(simp only [Act.put,sa_,sb_,sc_,i64_w,i32_w];rfl))
   refine ordN ?_
   refine ordC HT_ 49 rfl rfl (by kernel_rfl) (fun K hK=>?_)
   rw [if_pos (by kernel_rfl)]
   go_simp
   refine hK.out _ _ (claim_kind.S_below hHeld (p3_ (Below.refl _ _) _)) (fun hHeld=>?_)
   clear hK K
   refine ordI [50] ?_
   iterate 1 (refine ordP' HT_ (v:=?_) (a':=?_) rfl rfl (by kernel_rfl) (fun _ _ _ h=>h) (Or.inl ⟨by kernel_rfl,?_⟩) ?_ ?_;rotate_left;(intro w';go_simp;with_reducible rfl);rotate_left;(simp only [Act.put,sa_,sb_,sc_,i64_w,i32_w];rfl))
   refine ordN ?_
   refine ordE HT_ (by kernel_rfl) ?_
   clear hHeld HT_ HW_ BX BQ CH CB HS
   go_wp2
   refine wp_loop_rounds 9 ?_
   repeat any_goals (rw [rounds_succ];go_wp2)
   all_goals (try go_ret)
   all_goals refine ⟨?_,by repeat (with_reducible first|exact HB.out|exact HB0.out|apply p3_|apply p1_|apply p2_)⟩
   all_goals first|(rw [←HR.out];clear HR HB HB0;rfl)|(rw [←HR.out];clear HR HB HB0;(simp_all;done))|(rw [←HR.out];clear HR HB HB0;simp_all<;>omega)
  | false =>
   refine ordS (S:=claim_kind.S gq gl false q1 q2 q3 q4 x0 x1 x2 x3 x4 x5) 51 (by kernel_rfl) rfl rfl (by exact claim_kind.S_below HS.out (by repeat (first|exact Below.refl _ _|apply p2_))) ?_
   intro hHeld
   refine with_tabW claim_kind.tab2 claim_kind.bits2 (fun HT_ HW_=>?_)
   have HB0:=HB
   replace HB:=am_ (p2_ HB.out)
   replace BX:=am_ (k3_ BX.out)
   replace BQ:=am_ (k3_ BQ.out)
   refine ordI [0,1,2,3,4] ?_
   iterate 5 first|(refine ordP' HT_ (v:=?_) (a':=?_) rfl rfl (by kernel_rfl) (fun _ _ _ h=>h) (Or.inl ⟨by kernel_rfl,?_⟩) ?_ ?_;rotate_left;(intro w';go_simp;with_reducible rfl);rotate_left;(simp only [Act.put,sa_,sb_,sc_,i64_w,i32_w];rfl))|(refine ordL' HT_ HW_ (v:=?_) (a':=?_) rfl rfl (by kernel_rfl) (fun _ _ _ h=>h) (Or.inl ⟨by kernel_rfl,?_⟩) hHeld ?_ ?_;rotate_left;(rintro w' ⟨s0,s1,s2,s3,s4,s5,s6,s7,s8,s9,s10⟩;go_simp;with_reducible rfl);rotate_left;(simp only [Act.put,sa_,sb_,sc_,i64_w,i32_w];rfl))
   refine ordN ?_
   refine ordI [5,6,7,8,9] ?_
   iterate 5 (refine ordP' HT_ (v:=undef) (a':=?_) rfl rfl (by kernel_rfl) (fun _ _ _ h=>h) (Or.inr ⟨by kernel_rfl,rfl⟩) ?_ ?_;rotate_left;(simp only [Act.put,sa_,sb_,sc_,i64_w,i32_w];rfl))
   refine ordN ?_
   refine ordI [10,11,12,13,14,15,16] ?_
   iterate 7 first|(refine ordP' HT_ (v:=?_) (a':=?_) rfl rfl (by kernel_rfl) (fun _ _ _ h=>h) (Or.inl ⟨by kernel_rfl,?_⟩) ?_ ?_;rotate_left;(intro w';go_simp;with_reducible rfl);rotate_left;(simp only [Act.put,sa_,sb_,sc_,i64_w,i32_w];rfl))|(refine ordL' HT_ HW_ (v:=?_) (a':=?_) rfl rfl (by kernel_rfl) (fun _ _ _ h=>h) (Or.inl ⟨by kernel_rfl,?_⟩) hHeld ?_ ?_;rotate_left;(rintro w' ⟨s0,s1,s2,s3,s4,s5,s6,s7,s8,s9,s10⟩;go_simp;with_reducible rfl);rotate_left;(simp only [Act.put,sa_,sb_,sc_,i64_w,i32_w];rfl))
   refine ordN ?_
   refine ordI [17] ?_
   iterate 1 (refine ordP' HT_ (v:=undef) (a':=?_) rfl rfl (by kernel_rfl) (fun _ _ _ h=>h) (Or.inr ⟨by kernel_rfl,rfl⟩) ?_ ?_;rotate_left;(simp only [Act.put,sa_,sb_,sc_,i64_w,i32_w];rfl))
   refine ordN ?_
   refine ordI [18,19] ?_
   iterate 2 (refine ordP' HT_ (v:=?_) (a':=?_) rfl rfl (by kernel_rfl) (fun _ _ _ h=>h) (Or.inl ⟨by kernel_rfl,?_⟩) ?_ ?_;rotate_left;(intro w';go_simp;with_reducible rfl);rotate_left;(simp only [Act.put,sa_,sb_,sc_,i64_w,i32_w];rfl))
   refine ordN ?_
   refine ordI [20,21,22,23] ?_
   iterate 4 (refine ordP' HT_ (v:=undef) (a':=?_) rfl rfl (by kernel_rfl) (fun _ _ _ h=>h) (Or.inr ⟨by kernel_rfl,rfl⟩) ?_ ?_;rotate_left;(simp only [Act.put,sa_,sb_,sc_,i64_w,i32_w];rfl))
   refine ordN ?_
   refine ordI [24,25,26,27,28,29,30,31,32,33,34,35,36,37,38] ?_
   iterate 15 first|(refine ordP' HT_ (v:=?_) (a':=?_) rfl rfl (by kernel_rfl) (fun _ _ _ h=>h) (Or.inl ⟨by kernel_rfl,?_⟩) ?_ ?_;rotate_left;(intro w';go_simp;with_reducible rfl);rotate_left;(simp only [Act.put,sa_,sb_,sc_,i64_w,i32_w];rfl))|(refine ordL' HT_ HW_ (v:=?_) (a':=?_) rfl rfl (by kernel_rfl) (fun _ _ _ h=>h) (Or.inl ⟨by kernel_rfl,?_⟩) hHeld ?_ ?_;rotate_left;(rintro w' ⟨s0,s1,s2,s3,s4,s5,s6,s7,s8,s9,s10⟩;go_simp;with_reducible rfl);rotate_left;(simp only [Act.put,sa_,sb_,sc_,i64_w,i32_w];rfl))
   refine ordN ?_
   refine ordI [39,40,41,42] ?_
   iterate 4 (refine ordP' HT_ (v:=undef) (a':=?_) rfl rfl (by kernel_rfl) (fun _ _ _ h=>h) (Or.inr ⟨by kernel_rfl,rfl⟩) ?_ ?_;rotate_left;(simp only [Act.put,sa_,sb_,sc_,i64_w,i32_w];rfl))
   refine ordN ?_
   refine ordI [43,44,45,46,47,48] ?_
   iterate 6 (refine ordP' HT_ (v:=?_) (a':=?_) rfl rfl (by kernel_rfl) (fun _ _ _ h=>h) (Or.inl ⟨by kernel_rfl,?_⟩) ?_ ?_;rotate_left;(intro w';go_simp;with_reducible rfl);rotate_left;(simp only [Act.put,sa_,sb_,sc_,i64_w,i32_w];rfl))
   refine ordN ?_
   refine ordC HT_ 49 rfl rfl (by kernel_rfl) (fun K hK=>?_)
   rw [if_pos (by kernel_rfl)]
   go_simp
   refine hK.out _ _ (claim_kind.S_below hHeld (p3_ (Below.refl _ _) _)) (fun hHeld=>?_)
   clear hK K
   refine ordI [50] ?_
   iterate 1 (refine ordP' HT_ (v:=?_) (a':=?_) rfl rfl (by kernel_rfl) (fun _ _ _ h=>h) (Or.inl ⟨by kernel_rfl,?_⟩) ?_ ?_;rotate_left;(intro w';go_simp;with_reducible rfl);rotate_left;(simp only [Act.put,sa_,sb_,sc_,i64_w,i32_w];rfl))
   refine ordN ?_
   refine ordE HT_ (by kernel_rfl) ?_
   clear hHeld HT_ HW_ BX BQ CH CB HS
   go_wp2
   refine wp_loop_rounds 9 ?_
   repeat any_goals (rw [rounds_succ];go_wp2)
   all_goals (try go_ret)
   all_goals refine ⟨?_,by repeat (with_reducible first|exact HB.out|exact HB0.out|apply p3_|apply p1_|apply p2_)⟩
   all_goals first|(rw [←HR.out];clear HR HB HB0;rfl)|(rw [←HR.out];clear HR HB HB0;(simp_all;done))|(rw [←HR.out];clear HR HB HB0;simp_all<;>omega)

end Go.Proofs.YtibalpbkmgegnaaGreatDoor.PL
