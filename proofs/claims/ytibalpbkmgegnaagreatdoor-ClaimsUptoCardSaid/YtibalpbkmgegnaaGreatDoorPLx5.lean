-- Made by wip/pr.py out of the translation (a turned copy of the kit's print; contracts by hand where said).
import Derived.Test.YtibalpbkmgegnaaGreatDoorPLx0
import Derived.Test.YtibalpbkmgegnaaGreatDoorPLx4
namespace Go.Proofs.YtibalpbkmgegnaaGreatDoor.PL
open Go.RowKit Go.Proofs.YtibalpbkmgegnaaGreatDoorW.PrintWords Go.Proofs.YtibalpbkmgegnaaGreatDoorW.PrintLast Go.Proofs.YtibalpbkmgegnaaGreatDoorW.PrintMore
-- shrunk
attribute [local go_sem] max2_int min2_int max_two min_two max_three min_three max_four min_four   -- for this text's walks alone
set_option linter.unusedVariables false
set_option linter.unusedSimpArgs false

/-! tabput.inc -/
theorem go_ins (x:S44) (hx:leaseOk x=true) (v:List S44) (hv:∀ y∈v,x.f0 < y.f0):∀ (u:List S44) (p:Option Int),goTab p (u ++ v)=true→(∀y∈u,y.f0 < x.f0)→above p x.f0=true→goTab p (u ++ x :: v)=true
 | [],p,h,_,ha=>by
  rw [List.nil_append] at h ⊢
  unfold goTab
  rw [hx,ha,Bool.true_and,Bool.true_and]
  cases v with
  | nil=>rfl
  | cons y r =>
   have hy:=hv y List.mem_cons_self
   unfold goTab at h ⊢
   rw [Bool.and_eq_true,Bool.and_eq_true] at h
   rw [h.1,h.2.2,show above (some x.f0) y.f0=true from decide_eq_true hy]
   rfl
 | a :: u,p,h,hu,_=>by
  rw [List.cons_append] at h ⊢
  unfold goTab at h ⊢
  rw [Bool.and_eq_true,Bool.and_eq_true] at h
  rw [h.1,h.2.1,Bool.true_and,Bool.true_and]
  exact go_ins x hx v hv u (some a.f0) h.2.2 (fun y hy=>hu y (List.mem_cons_of_mem _ hy)) (decide_eq_true (hu a List.mem_cons_self))
theorem row_split (x:S44):∀ (l:List S44),l.Pairwise (fun a b=>a.f0 < b.f0)→(∀y∈l,y.f0≠x.f0)→∃ u v,l=u ++ v∧(∀y∈u,y.f0 < x.f0)∧∀ y∈v,x.f0 < y.f0
 | [],_,_=>⟨[],[],rfl,(fun y h=>by cases h),(fun y h=>by cases h)⟩
 | y :: r,hs,hn=>by
  obtain ⟨h1,h2⟩:=List.pairwise_cons.1 hs
  by_cases q:y.f0 < x.f0
  ·obtain ⟨u,v,e,hu,hv⟩:=row_split x r h2 (fun z hz=>hn z (List.mem_cons_of_mem _ hz))
   refine ⟨y :: u,v,by rw [e];rfl,?_,hv⟩
   intro z hz
   rcases List.mem_cons.1 hz with e|e
   ·rw [e];exact q
   ·exact hu z e
  ·refine ⟨[],y :: r,rfl,(fun z h=>by cases h),?_⟩
   have:=hn y List.mem_cons_self
   intro z hz
   rcases List.mem_cons.1 hz with e|e
   ·rw [e];omega
   ·have:=h1 z e;omega
theorem putrow_mid (x:S44) (v:List S44) (hv:∀ y∈v,x.f0 < y.f0):∀ (u:List S44),(∀y∈u,y.f0 < x.f0)→putGo x false (u ++ v)=u ++ x :: v
 | [],_=>by
  rw [List.nil_append,List.nil_append]
  cases v with
  | nil=>rfl
  | cons y r =>
   have hy:=hv y List.mem_cons_self
   unfold putGo
   rw [if_pos ⟨rfl,by omega⟩,if_neg (show ¬y.f0=x.f0 by omega),decide_eq_true (show y.f0 ≥ x.f0 by omega),Bool.or_true,put_done r x (fun z hz=>by have:=hv z (List.mem_cons_of_mem _ hz);omega)]
   rfl
 | y :: u,hu=>by
  have hy:=hu y List.mem_cons_self
  rw [List.cons_append,List.cons_append]
  unfold putGo
  rw [if_neg (by omega),if_neg (show ¬y.f0=x.f0 by omega),decide_eq_false (show ¬y.f0 ≥ x.f0 by omega),Bool.or_false,putrow_mid x v hv u (fun z hz=>hu z (List.mem_cons_of_mem _ hz))]
  rfl
theorem go_swap (host:Int) (y:S44) (hh:y.f0=host) (hy:leaseOk y=true):∀ (l:List S44) (p:Option Int),goTab p l=true→goTab p (swapL l host y)=true
 | [],p,h=>h
 | x :: r,p,h=>by
  unfold goTab at h
  rw [Bool.and_eq_true,Bool.and_eq_true] at h
  obtain ⟨h1,h2,h3⟩:=h
  have i:=go_swap host y hh hy r (some x.f0) h3
  rw [show swapL (x :: r) host y=(if x.f0=host then y else x) :: swapL r host y from rfl]
  unfold goTab
  by_cases q:x.f0=host
  ·rw [←q] at i
   rw [if_pos q,hh,hy,←q,h2,i]
   rfl
  ·rw [if_neg q,h1,h2,i]
   rfl
theorem table_parts {l:List S44} (h:tableB l=true):goTab none l=true∧l.length≤8:=by
 unfold tableB at h
 rw [Bool.and_eq_true,decide_eq_true_eq] at h
 exact h
theorem table_of {l:List S44} (h:goTab none l=true) (h8:l.length≤8):tableB l=true:=by
 unfold tableB
 rw [h,decide_eq_true h8]
 rfl
/-- a lease put into a table: the row stands in order. -/
theorem go_put {l:List S44} {x:S44} (hT:tableB l=true) (hx:leaseOk x=true):goTab none (putL l x)=true:=by
 obtain ⟨_,hs,_⟩:=table_sorted hT
 have hg:=(table_parts hT).1
 unfold putL
 by_cases hm:∃ y∈l,y.f0=x.f0
 ·rw [put_swap l x hs hm]
  exact go_swap x.f0 x rfl hx l none hg
 ·obtain ⟨u,v,e,hu,hv⟩:=row_split x l hs (fun y hy e=>hm ⟨y,hy,e⟩)
  rw [e,putrow_mid x v hv u hu]
  rw [e] at hg
  exact go_ins x hx v hv u none hg hu rfl
theorem table_put {l:List S44} {x:S44} (hT:tableB l=true) (hx:leaseOk x=true):tableB (putL l x)=decide ((putL l x).length≤8):=by
 unfold tableB
 rw [go_put hT hx,Bool.true_and]
/-- a lease stands in a row: it is found by its host. -/
theorem find_of {ls:List S44} (hs:ls.Pairwise (fun a b=>a.f0 < b.f0)) {x:S44} (hx:x∈ls):findL ls x.f0=some x:=by
 cases hfd:findL ls x.f0 with
 | none=>exact absurd rfl (find_none hfd x hx)
 | some y =>
  obtain ⟨hy,he⟩:=find_some hfd
  rw [host_once hs y hy x hx he]
theorem find_put {l:List S44} {x:S44} (hT:tableB l=true) (hx:leaseOk x=true) (host:Int):findL (putL l x) host=if host=x.f0 then some x else findL l host:=by
 obtain ⟨_,hs,_⟩:=table_sorted hT
 have hsp:(putL l x).Pairwise (fun a b=>a.f0 < b.f0):=(goTab_sorted _ none (go_put hT hx)).2.1
 have hmem:∀ y,y∈putL l x ↔ y=x∨y∈l∧y.f0≠x.f0:=by
  intro y
  unfold putL
  by_cases hm:∃ y∈l,y.f0=x.f0
  ·rw [put_swap l x hs hm]
   unfold swapL
   rw [List.mem_map]
   constructor
   ·rintro ⟨z,hz,e⟩
    by_cases q:z.f0=x.f0
    ·rw [if_pos q] at e;exact .inl e.symm
    ·rw [if_neg q] at e;rw [←e];exact .inr ⟨hz,q⟩
   ·rintro (e|⟨hy,hn⟩)
    ·obtain ⟨z,hz,hzx⟩:=hm
     exact ⟨z,hz,by rw [if_pos hzx,e]⟩
    ·exact ⟨y,hy,if_neg hn⟩
  ·have hn:∀ y∈l,y.f0≠x.f0:=fun y hy e=>hm ⟨y,hy,e⟩
   obtain ⟨u,v,e,hu,hv⟩:=row_split x l hs hn
   rw [e,putrow_mid x v hv u hu]
   constructor
   ·intro h
    rcases List.mem_append.1 h with h|h
    ·exact .inr ⟨List.mem_append_left _ h,hn y (by rw [e];exact List.mem_append_left _ h)⟩
    ·rcases List.mem_cons.1 h with h|h
     ·exact .inl h
     ·exact .inr ⟨List.mem_append_right _ h,hn y (by rw [e];exact List.mem_append_right _ h)⟩
   ·rintro (h|⟨h,_⟩)
    ·rw [h];simp
    ·rcases List.mem_append.1 h with h|h
     ·exact List.mem_append_left _ h
     ·exact List.mem_append_right _ (List.mem_cons_of_mem _ h)
 by_cases q:host=x.f0
 ·rw [if_pos q,q]
  exact find_of hsp ((hmem x).2 (.inl rfl))
 ·rw [if_neg q]
  cases hf:findL l host with
  | some y =>
   obtain ⟨hy,he⟩:=find_some hf
   have:=find_of hsp ((hmem y).2 (.inr ⟨hy,by rw [he];exact q⟩))
   rw [he] at this
   exact this
  | none =>
   cases hf2:findL (putL l x) host with
   | none=>rfl
   | some y =>
    obtain ⟨hy,he⟩:=find_some hf2
    rcases (hmem y).1 hy with e|⟨h,_⟩
    ·rw [e] at he;exact absurd he.symm q
    ·exact absurd he (find_none hf y h)

/-! offer1.inc -/
theorem lease_freed {x:S44} (h:leaseOk x=true):leaseOk (freedX x)=true:=by
 have h1:leaseB x.f0 x.f1 x.f2 x.f3 x.f4 x.f5=true:=h
 show leaseB x.f0 0 x.f2 x.f3 ⟨#[]⟩ false=true
 unfold leaseB at h1 ⊢
 simp only [Bool.and_eq_true,decide_eq_true_eq] at h1
 rw [decide_eq_true h1.1.1.1.1,decide_eq_true h1.1.1.2,decide_eq_true h1.1.2]
 have e1:stateB 0 x.f2 (⟨#[]⟩:ByteArray) false=true:=by
  unfold stateB
  rw [if_pos (.inl rfl)]
  kernel_rfl
 have e2:nameB (bytesOf (⟨#[]⟩:ByteArray))=true:=by kernel_rfl
 rw [e1,e2]
 rfl
theorem go_map (f:S44→S44) (hf:∀ x,(f x).f0=x.f0) (hk:∀ x,leaseOk x=true→leaseOk (f x)=true):∀ (l:List S44) (p:Option Int),goTab p l=true→goTab p (l.map f)=true
 | [],p,h=>h
 | x :: r,p,h=>by
  unfold goTab at h
  rw [Bool.and_eq_true,Bool.and_eq_true] at h
  obtain ⟨h1,h2,h3⟩:=h
  rw [List.map_cons]
  unfold goTab
  rw [hk x h1,hf x,h2,go_map f hf hk r (some x.f0) h3]
  rfl
theorem table_drop {p:S44→Bool} {c:ByteArray} {now but:Int} {ls:List S44} (h:tableB ls=true):tableB (dropL p c now but ls)=true:=by
 obtain ⟨h1,h2⟩:=table_parts h
 refine table_of ?_ (by unfold dropL;rw [List.length_map];exact h2)
 refine go_map _ (fun x=>?_) (fun x hx=>?_) ls none h1
 ·by_cases q:dropX p c now but x=true
  ·rw [if_pos q];rfl
  ·rw [if_neg q]
 ·by_cases q:dropX p c now but x=true
  ·rw [if_pos q];exact lease_freed hx
  ·rw [if_neg q];exact hx
theorem find_drop (p:S44→Bool) (c:ByteArray) (now but:Int) (host:Int):∀ (ls:List S44),findL (dropL p c now but ls) host=(findL ls host).map fun x=>if dropX p c now but x=true then freedX x else x
 | []=>rfl
 | x :: r=>by
  have ih:=find_drop p c now but host r
  unfold findL dropL at ih ⊢
  rw [List.map_cons,List.find?_cons,List.find?_cons]
  have e:(if dropX p c now but x=true then freedX x else x).f0=x.f0:=by
   by_cases q:dropX p c now but x=true
   ·rw [if_pos q];rfl
   ·rw [if_neg q]
  rw [e]
  cases x.f0 == host with
  | true=>rfl
  | false=>exact ih
theorem live_freed (c:ByteArray) (now:Int) (x:S44):liveX now (freedX x)=false∧holdsX c now (freedX x)=false∧boundX c now (freedX x)=false:=by
 have h1:liveX now (freedX x)=false:=by
  show liveB x.f0 0 x.f2 x.f3 ⟨#[]⟩ false now=false
  unfold liveB
  rw [show decide ((0:Int)≠0)=false from rfl,Bool.and_false,Bool.false_and]
 have h2:holdsX c now (freedX x)=false:=by
  have e:holdsX c now (freedX x)=(liveX now (freedX x) && (decide ((freedX x).f1≠3) && decide ((freedX x).f2.toList=c.toList))):=rfl
  rw [e,h1,Bool.false_and]
 refine ⟨h1,h2,?_⟩
 have e:boundX c now (freedX x)=(holdsX c now (freedX x) && decide ((freedX x).f1=2)):=rfl
 rw [e,h2,Bool.false_and]
theorem putgo_mem (x:S44):∀ (l:List S44) (d:Bool),(putGo x d l).length≤l.length+1+(if d=true then 0 else l.length)∧∀ y∈putGo x d l,y=x∨y∈l
 | [],d=>by
  cases d
  ·exact ⟨by simp [putGo],fun y hy=>by simp [putGo] at hy;exact .inl hy⟩
  ·exact ⟨by simp [putGo],fun y hy=>by simp [putGo] at hy⟩
 | a :: r,d=>by
  have ih:=putgo_mem x r (d || decide (a.f0 ≥ x.f0))
  unfold putGo
  constructor
  ·rw [List.length_append,List.length_append]
   have h1:=ih.1
   have e1:(if d=false∧a.f0 ≥ x.f0 then [x] else ([]:List S44)).length≤(if d=false∧a.f0 ≥ x.f0 then 1 else 0):=by split<;>simp
   have e2:(if a.f0=x.f0 then ([]:List S44) else [a]).length≤1:=by split<;>simp
   rw [List.length_cons]
   cases d<;>by_cases q:a.f0 ≥ x.f0<;>simp [q] at h1 e1 ⊢<;>omega
  ·intro y hy
   rcases List.mem_append.1 hy with h|h
   ·by_cases q:d=false∧a.f0 ≥ x.f0
    ·rw [if_pos q,List.mem_singleton] at h
     exact .inl h
    ·rw [if_neg q] at h
     cases h
   ·rcases List.mem_append.1 h with h|h
    ·by_cases q:a.f0=x.f0
     ·rw [if_pos q] at h
      cases h
     ·rw [if_neg q,List.mem_singleton] at h
      rw [h]
      exact .inr List.mem_cons_self
    ·rcases ih.2 y h with e|e
     ·exact .inl e
     ·exact .inr (List.mem_cons_of_mem _ e)
theorem putfit (l:List S44) (x:S44) (m:Nat) (hl:∀ y∈l,y.f4.size≤m) (hx:x.f4.size≤m):(putL l x).length≤2 * l.length+1∧∀ y∈putL l x,y.f4.size≤m:=by
 have h:=putgo_mem x l false
 refine ⟨by have:=h.1;simp only [Bool.false_eq_true,if_false] at this;unfold putL;omega,fun y hy=>?_⟩
 rcases h.2 y hy with e|e
 ·rw [e];exact hx
 ·exact hl y e

/-! claim1.inc -/
theorem holds_client {c:ByteArray} {now:Int} {x:S44} (h:holdsX c now x=true):x.f2.toList=c.toList:=by
 unfold holdsX holdsB at h
 simp only [Bool.and_eq_true,decide_eq_true_eq] at h
 exact h.2.2
theorem bound_holds {c:ByteArray} {now:Int} {x:S44} (h:boundX c now x=true):holdsX c now x=true:=by
 unfold boundX boundB at h
 rw [Bool.and_eq_true] at h
 exact h.1
/-- who is told yes has the host's lease. -/
theorem kind_own {q0:Bool} {q1 hh:Int} {lent:Bool} {x:S44} {c:ByteArray} {now:Int} (h:kindV q0 q1 hh lent x c now=1):x.f2.toList=c.toList∧lent=true:=by
 unfold kindV at h
 by_cases h0:q0=true
 ·rw [if_pos h0] at h
  by_cases h1:q1=167772161
  ·rw [if_pos h1] at h
   by_cases h2:(lent && holdsX c now x)=true
   ·rw [Bool.and_eq_true] at h2
    exact ⟨holds_client h2.2,h2.1⟩
   ·rw [if_neg h2] at h;exact absurd h (by decide)
  ·rw [if_neg h1] at h;exact absurd h (by decide)
 ·rw [if_neg h0] at h
  by_cases h1:hh=0
  ·rw [if_pos h1] at h;exact absurd h (by decide)
  rw [if_neg h1] at h
  cases lent with
  | false=>rw [if_pos rfl] at h;exact absurd h (by decide)
  | true =>
   rw [if_neg (by decide)] at h
   refine ⟨?_,rfl⟩
   by_cases h2:liveX now x=true
   ·rw [if_pos h2] at h
    by_cases h3:boundX c now x=true
    ·exact holds_client (bound_holds h3)
    ·rw [if_neg h3] at h;exact absurd h (by decide)
   ·rw [if_neg h2] at h
    by_cases h3:x.f2.toList=c.toList
    ·exact h3
    ·rw [if_neg h3] at h;exact absurd h (by decide)
theorem got_found {o:Option S44} {c:ByteArray} (hc:c.toList≠[]) (h:(gotL o).f2.toList=c.toList):∃ x,o=some x:=by
 cases o with
 | some x=>exact ⟨x,rfl⟩
 | none=>exact absurd (h.symm.trans (show (gotL none).f2.toList=[] by kernel_rfl)) hc
/-- the row behind a claim that is granted: the host's lease is another, the client's others are free. -/
theorem claim_row {p:S44→Bool} {c:ByteArray} {now:Int} {ls:List S44} {b x:S44} (hT:tableB ls=true) (hx:findL ls b.f0=some x) :
  putL (dropL p c now b.f0 ls) b=swapL (dropL p c now b.f0 ls) b.f0 b∧(putL (dropL p c now b.f0 ls) b).length=ls.length:=by
 have hTd:tableB (dropL p c now b.f0 ls)=true:=table_drop hT
 obtain ⟨_,hs,_⟩:=table_sorted hTd
 have hf:=find_drop p c now b.f0 b.f0 ls
 rw [hx,Option.map_some] at hf
 obtain ⟨hm,he⟩:=find_some hf
 have e:putL (dropL p c now b.f0 ls) b=swapL (dropL p c now b.f0 ls) b.f0 b:=put_swap _ b hs ⟨_,hm,he⟩
 refine ⟨e,?_⟩
 rw [e]
 unfold swapL dropL
 rw [List.length_map,List.length_map]
theorem claim_table {p:S44→Bool} {c:ByteArray} {now:Int} {ls:List S44} {b x:S44} (hT:tableB ls=true) (hx:findL ls b.f0=some x) (hb:leaseOk b=true):tableB (putL (dropL p c now b.f0 ls) b)=true:=by
 rw [table_put (table_drop hT) hb,(claim_row hT hx).2,decide_eq_true (table_parts hT).2]
/-- whose lease stands at a host behind it. -/
theorem claim_find {p:S44→Bool} {c:ByteArray} {now:Int} {ls:List S44} {b:S44} (hT:tableB ls=true) (hb:leaseOk b=true) (host:Int) :
  findL (putL (dropL p c now b.f0 ls) b) host=if host=b.f0 then some b else (findL ls host).map fun x=>if dropX p c now b.f0 x=true then freedX x else x:=by
 rw [find_put (table_drop hT) hb,find_drop]
theorem filter_same {q:S44→Bool} {F:S44→S44}:∀ (l:List S44),(∀y∈l,F y=y∨q y=false∧q (F y)=false)→(l.map F).filter q=l.filter q
 | [],_=>rfl
 | y :: r,h=>by
  rw [List.map_cons,List.filter_cons,List.filter_cons,filter_same r (fun z hz=>h z (List.mem_cons_of_mem _ hz))]
  rcases h y List.mem_cons_self with e|⟨e1,e2⟩
  ·rw [e]
  ·rw [e1,e2]
   rfl
/-- the change that a granted claim is. -/
def claimF (p:S44→Bool) (c:ByteArray) (now:Int) (b y:S44):S44:=if y.f0=b.f0 then b else if dropX p c now b.f0 y=true then freedX y else y
theorem claim_map {p:S44→Bool} {c:ByteArray} {now:Int} {ls:List S44} {b x:S44} (hT:tableB ls=true) (hx:findL ls b.f0=some x):putL (dropL p c now b.f0 ls) b=ls.map (claimF p c now b):=by
 rw [(claim_row hT hx).1]
 unfold swapL dropL
 rw [List.map_map]
 apply List.map_congr_left
 intro y _
 show (if (if dropX p c now b.f0 y=true then freedX y else y).f0=b.f0 then b else if dropX p c now b.f0 y=true then freedX y else y)=claimF p c now b y
 have e:(if dropX p c now b.f0 y=true then freedX y else y).f0=y.f0:=by
  by_cases q:dropX p c now b.f0 y=true
  ·rw [if_pos q];rfl
  ·rw [if_neg q]
 rw [e]
 rfl
/-- of all others' leases none is another behind it. -/
theorem claim_rest {p q:S44→Bool} {c:ByteArray} {now:Int} {ls:List S44} {b x:S44} (hT:tableB ls=true) (hx:findL ls b.f0=some x) (hc:x.f2.toList=c.toList) (hb:b.f2.toList=c.toList) (hq:∀ y:S44,y.f2.toList=c.toList→q y=false) :
  (putL (dropL p c now b.f0 ls) b).filter q=ls.filter q:=by
 rw [claim_map hT hx]
 obtain ⟨_,hs,_⟩:=table_sorted hT
 obtain ⟨hm,he⟩:=find_some hx
 refine filter_same ls (fun y hy=>?_)
 unfold claimF
 by_cases q1:y.f0=b.f0
 ·rw [if_pos q1]
  refine .inr ⟨hq y ?_,hq b hb⟩
  rw [host_once hs y hy x hm (by rw [q1,he])]
  exact hc
 ·rw [if_neg q1]
  by_cases q2:dropX p c now b.f0 y=true
  ·rw [if_pos q2]
   unfold dropX at q2
   simp only [Bool.and_eq_true] at q2
   have e:=holds_client q2.2.1
   exact .inr ⟨hq y e,hq (freedX y) e⟩
  ·rw [if_neg q2]
   exact .inl rfl
/-- claimed again at once: the same row. -/
theorem claim_again {c:ByteArray} {now:Int} {ls:List S44} {b x:S44} (hT:tableB ls=true) (hx:findL ls b.f0=some x) (hb:leaseOk b=true) :
  putL (dropL (fun _=>true) c now b.f0 (putL (dropL (fun _=>true) c now b.f0 ls) b)) b=putL (dropL (fun _=>true) c now b.f0 ls) b:=by
 have hTA:=claim_table (p:=fun _=>true) (c:=c) (now:=now) hT hx hb
 have hfA:findL (putL (dropL (fun _=>true) c now b.f0 ls) b) b.f0=some b:=by rw [claim_find hT hb,if_pos rfl]
 have hmA:=claim_map (p:=fun _=>true) (c:=c) (now:=now) hT hx
 generalize hA:putL (dropL (fun _=>true) c now b.f0 ls) b=A at hTA hfA hmA ⊢
 rw [claim_map hTA hfA]
 obtain ⟨_,hs,_⟩:=table_sorted hTA
 obtain ⟨hm,_⟩:=find_some hfA
 refine Eq.trans (List.map_congr_left (g:=id) ?_) (List.map_id A)
 intro y hy
 show claimF (fun _=>true) c now b y=y
 unfold claimF
 by_cases q1:y.f0=b.f0
 ·rw [if_pos q1,host_once hs y hy b hm q1]
 ·rw [if_neg q1,if_neg]
  intro q2
  rw [hmA] at hy
  obtain ⟨v,hv,e⟩:=List.mem_map.1 hy
  have q3:holdsX c now y=true:=by
   unfold dropX at q2
   simp only [Bool.and_eq_true] at q2
   exact q2.2.1
  unfold claimF at e
  by_cases q4:v.f0=b.f0
  ·rw [if_pos q4] at e
   exact q1 (by rw [←e])
  ·rw [if_neg q4] at e
   by_cases q5:dropX (fun _=>true) c now b.f0 v=true
   ·rw [if_pos q5] at e
    rw [←e,(live_freed c now v).2.1] at q3
    cases q3
   ·rw [if_neg q5] at e
    rw [e] at q5
    exact q5 q2
theorem kept_again (q4:ByteArray) (x:S44) (c:ByteArray) (fr:ByteArray→Bool) (hh til:Int):keptN q4 (boundL fr hh til c (keptN q4 x c)) c=keptN q4 x c:=by
 have e:keptN q4 (boundL fr hh til c (keptN q4 x c)) c=if q4.toList=[] then keptN q4 x c else q4:=by
  by_cases q:q4.toList=[]
  ·rw [if_pos q]
   exact if_pos ⟨q,rfl,rfl⟩
  ·rw [if_neg q]
   exact if_neg fun h=>q h.1
 rw [e]
 by_cases q:q4.toList=[]
 ·rw [if_pos q]
 ·rw [if_neg q]
  exact (if_neg fun h=>q h.1).symm
theorem bound_ok {fr:ByteArray→Bool} {hh til:Int} {c nm:ByteArray} (h2:2≤hh∧hh≤254) (hc:c.toList≠[]) (hs:c.size≤16) (ht:0≤til∧til≤1099511627776) (hn:nameB (bytesOf nm)=true):leaseOk (boundL fr hh til c nm)=true:=by
 show leaseB hh 2 c til nm (fr nm && decide (nm.toList≠[]))=true
 unfold leaseB stateB
 rw [if_neg (by decide),if_neg (by decide),if_pos rfl,decide_eq_true h2,decide_eq_true hc,decide_eq_true hs,decide_eq_true ht,hn]
 by_cases q:nm.toList≠[]
 ·rw [decide_eq_true q];rfl
 ·rw [decide_eq_false q,Bool.and_false];rfl
theorem kept_ok {q4 c:ByteArray} {x:S44} (hq:nameB (bytesOf q4)=true) (hx:leaseOk x=true):nameB (bytesOf (keptN q4 x c))=true:=by
 unfold keptN
 split
 ·have h1:leaseB x.f0 x.f1 x.f2 x.f3 x.f4 x.f5=true:=hx
  unfold leaseB at h1
  simp only [Bool.and_eq_true] at h1
  exact h1.2
 ·exact hq
/-- what is granted holds, bound. -/
theorem bound_holds_ {fr:ByteArray→Bool} {hh til now:Int} {c nm:ByteArray} (hok:leaseOk (boundL fr hh til c nm)=true) (ht:til > now):liveX now (boundL fr hh til c nm)=true∧holdsX c now (boundL fr hh til c nm)=true∧boundX c now (boundL fr hh til c nm)=true:=by
 have h1:liveX now (boundL fr hh til c nm)=true:=by
  have e:liveX now (boundL fr hh til c nm)=(leaseOk (boundL fr hh til c nm) && decide ((2:Int)≠0) && decide (til > now)):=rfl
  rw [e,hok,decide_eq_true ht]
  rfl
 have h2:holdsX c now (boundL fr hh til c nm)=true:=by
  have e:holdsX c now (boundL fr hh til c nm)=(liveX now (boundL fr hh til c nm) && (decide ((2:Int)≠3) && decide (c.toList=c.toList))):=rfl
  rw [e,h1,decide_eq_true rfl]
  rfl
 refine ⟨h1,h2,?_⟩
 have e:boundX c now (boundL fr hh til c nm)=(holdsX c now (boundL fr hh til c nm) && decide ((2:Int)=2)):=rfl
 rw [e,h2]
 rfl
/-- claimed again: told yes again. -/
theorem kind_again {q0:Bool} {q1 hh:Int} {lent:Bool} {x b:S44} {c:ByteArray} {now:Int} (h:kindV q0 q1 hh lent x c now=1) (h1:liveX now b=true) (h2:holdsX c now b=true) (h3:boundX c now b=true):kindV q0 q1 hh lent b c now=1:=by
 have hl:=(kind_own h).2
 rw [hl] at h ⊢
 unfold kindV at h ⊢
 by_cases h0:q0=true
 ·rw [if_pos h0] at h ⊢
  by_cases hq:q1=167772161
  ·rw [if_pos hq,h2];rfl
  ·rw [if_neg hq] at h;exact absurd h (by decide)
 ·rw [if_neg h0] at h ⊢
  by_cases hz:hh=0
  ·rw [if_pos hz] at h;exact absurd h (by decide)
  ·rw [if_neg hz,if_neg (by decide),if_pos h1,if_pos h3]
/-- claimed by who has it. -/
theorem kind_had {hh q1:Int} {b:S44} {c:ByteArray} {now:Int} (hz:hh≠0) (h1:liveX now b=true) (h3:boundX c now b=true):kindV false q1 hh true b c now=1:=by
 unfold kindV
 rw [if_neg (by decide),if_neg hz,if_neg (by decide),if_pos h1,if_pos h3]
theorem client_parts {c:ByteArray} (h:clientB c=true):c.toList≠[]∧c.size≤16:=by
 unfold clientB at h
 rw [decide_eq_true_eq] at h
 refine ⟨fun e=>?_,h.2⟩
 rw [ByteArray.toList_eq] at e
 have e2:c.size=c.data.toList.length:=rfl
 rw [e] at e2
 have e3:c.size=0:=e2
 omega
/-- what a claim tells: nothing; or the host, with the row behind it; or no host, and all stays but offers. -/
theorem claim_told {fr:ByteArray→Bool} {a0 a1:Int} {l2:List Int} {l3:List S95} {a4:Int} {z:ByteArray} {l6:List S93} {ls:List S44} {now:Int} {c:ByteArray} {q0:Bool} {q1 q2 q3:Int} {q4:ByteArray} {a:List S44} {k h e:Int}
  (hv:claimV fr a0 a1 l2 l3 a4 z l6 ls now c q0 q1 q2 q3 q4=(a,k,h,e)) :
  e=1700∧a=[]∧k=0∧h=0 ∨
  e=0∧pickMayB a0 a1 l2 l3 a4 z l6 ls now c=true∧(0≤now∧now≤1099510579200)∧reqB q0 q1 q2 q3 q4=true ∧
   (k=1∧(∃x,h=claimHost q0 q2 q3∧findL ls h=some x∧kindV q0 q1 h (lentB a0 a1 l2 l3 a4 z l6 h c) x c now=1∧a=putL (dropL (fun _=>true) c now h ls) (boundL fr h (now+a4) c (keptN q4 x c))∧leaseOk (boundL fr h (now+a4) c (keptN q4 x c))=true∧now+a4 > now) ∨
    k≠1∧h=0∧(a=ls∨q0=true∧k=0∧a=dropL offeredX c now 0 ls)):=by
 unfold claimV at hv
 by_cases hM:(pickMayB a0 a1 l2 l3 a4 z l6 ls now c && (decide (0≤now∧now≤1099510579200) && reqB q0 q1 q2 q3 q4))=true
 ·rw [if_pos hM] at hv
  simp only [Bool.and_eq_true,decide_eq_true_eq] at hM
  obtain ⟨hm,hn,hr⟩:=hM
  have hp:=may_parts hm
  have hcl:=client_parts hp.2.2.2.2.2
  have ha4:1≤a4∧a4≤1048576:=by
   have h1:=hp.2.2.1
   unfold confB at h1
   simp only [Bool.and_eq_true,decide_eq_true_eq] at h1
   exact h1.2.1
  unfold claimGo at hv
  by_cases hk:kindV q0 q1 (claimHost q0 q2 q3) (lentB a0 a1 l2 l3 a4 z l6 (claimHost q0 q2 q3) c) (gotL (findL ls (claimHost q0 q2 q3))) c now=1
  ·rw [if_pos hk] at hv
   obtain ⟨e1,e2⟩:=Prod.mk.inj hv
   obtain ⟨e3,e4⟩:=Prod.mk.inj e2
   obtain ⟨e5,e6⟩:=Prod.mk.inj e4
   rw [e5] at hk e1
   obtain ⟨x,hx⟩:=got_found hcl.1 (kind_own hk).1
   have eg:gotL (findL ls h)=x:=by rw [hx];rfl
   rw [eg] at hk e1
   refine .inr ⟨e6.symm,hm,hn,hr,.inl ⟨e3.symm,x,e5.symm,hx,hk,e1.symm,?_,by omega⟩⟩
   obtain ⟨hxm,hxh⟩:=find_some hx
   have hxo:=(table_sorted hp.2.2.2.1).1 x hxm
   have hb:leaseB x.f0 x.f1 x.f2 x.f3 x.f4 x.f5=true:=hxo
   unfold leaseB at hb
   simp only [Bool.and_eq_true,decide_eq_true_eq] at hb
   have h2:=hb.1.1.1.1
   rw [hxh] at h2
   unfold reqB at hr
   rw [Bool.and_eq_true] at hr
   exact bound_ok h2 hcl.1 hcl.2 (by omega) (kept_ok hr.1 hxo)
  ·rw [if_neg hk] at hv
   refine .inr ?_
   by_cases hq:kindV q0 q1 (claimHost q0 q2 q3) (lentB a0 a1 l2 l3 a4 z l6 (claimHost q0 q2 q3) c) (gotL (findL ls (claimHost q0 q2 q3))) c now=0∧q0=true
   ·rw [if_pos hq] at hv
    obtain ⟨e1,e2⟩:=Prod.mk.inj hv
    obtain ⟨e3,e4⟩:=Prod.mk.inj e2
    obtain ⟨e5,e6⟩:=Prod.mk.inj e4
    exact ⟨e6.symm,hm,hn,hr,.inr ⟨by rw [←e3];decide,e5.symm,.inr ⟨hq.2,e3.symm,e1.symm⟩⟩⟩
   ·rw [if_neg hq] at hv
    obtain ⟨e1,e2⟩:=Prod.mk.inj hv
    obtain ⟨e3,e4⟩:=Prod.mk.inj e2
    obtain ⟨e5,e6⟩:=Prod.mk.inj e4
    exact ⟨e6.symm,hm,hn,hr,.inr ⟨by rw [←e3];exact hk,e5.symm,.inl e1.symm⟩⟩
 ·rw [if_neg hM] at hv
  obtain ⟨e1,e2⟩:=Prod.mk.inj hv
  obtain ⟨e3,e4⟩:=Prod.mk.inj e2
  obtain ⟨e5,e6⟩:=Prod.mk.inj e4
  exact .inl ⟨e6.symm,e1.symm,e3.symm,e5.symm⟩
/-- behind a granted claim who claimed holds just that host. -/
theorem claim_only {c:ByteArray} {now:Int} {ls:List S44} {b x y:S44} (hT:tableB ls=true) (hx:findL ls b.f0=some x) (hy:y∈putL (dropL (fun _=>true) c now b.f0 ls) b) (hh:holdsX c now y=true):y=b:=by
 rw [claim_map hT hx] at hy
 obtain ⟨v,hv,e⟩:=List.mem_map.1 hy
 unfold claimF at e
 by_cases q4:v.f0=b.f0
 ·rw [if_pos q4] at e
  exact e.symm
 ·rw [if_neg q4] at e
  by_cases q5:dropX (fun _=>true) c now b.f0 v=true
  ·rw [if_pos q5] at e
   rw [←e,(live_freed c now v).2.1] at hh
   cases hh
  ·rw [if_neg q5] at e
   rw [←e] at hh
   refine absurd ?_ q5
   unfold dropX
   rw [decide_eq_true q4,hh]
   rfl
theorem claim_of {c:ByteArray} {now:Int} {ls:List S44} {b x:S44} (hT:tableB ls=true) (hx:findL ls b.f0=some x) (hb:leaseOk b=true) (hh:holdsX c now b=true):ofL (putL (dropL (fun _=>true) c now b.f0 ls) b) c now=some b:=by
 have hTA:=claim_table (p:=fun _=>true) (c:=c) (now:=now) hT hx hb
 have hfA:findL (putL (dropL (fun _=>true) c now b.f0 ls) b) b.f0=some b:=by rw [claim_find hT hb,if_pos rfl]
 unfold ofL
 rw [if_pos hTA]
 cases hf:(putL (dropL (fun _=>true) c now b.f0 ls) b).find? (holdsX c now) with
 | none=>exact absurd hh (by have:=List.find?_eq_none.1 hf b (find_some hfA).1;exact this)
 | some y=>rw [claim_only hT hx (List.mem_of_find?_eq_some hf) (List.find?_some hf)]
/-- who claims again at once what it was told to have has the same. -/
theorem claim_twice {fr fr2:ByteArray→Bool} {a0 a1:Int} {l2:List Int} {l3:List S95} {a4:Int} {z:ByteArray} {l6:List S93} {ls:List S44} {now:Int} {c:ByteArray} {q0:Bool} {q1 q2 q3:Int} {q4:ByteArray} {a:List S44} {h:Int}
  (hv:claimV fr a0 a1 l2 l3 a4 z l6 ls now c q0 q1 q2 q3 q4=(a,1,h,0)) (hf:∀ nm,fr2 nm=fr nm) :
  claimV fr2 a0 a1 l2 l3 a4 z l6 a now c q0 q1 q2 q3 q4=(a,1,h,0)∧claimV fr2 a0 a1 l2 l3 a4 z l6 a now c false 0 0 h ⟨#[]⟩=(a,1,h,0)∧∃ b:S44,ofL a c now=some b∧b.f0=h:=by
 rcases claim_told hv with ⟨e,_⟩|⟨_,hm,hn,hr,⟨_,x,e1,hx,hk,ea,hb,ht⟩|⟨e,_⟩⟩
 ·exact absurd e (by decide)
 ·have hp:=may_parts hm
  have hT:=hp.2.2.2.1
  have hfr:fr2=fr:=funext hf
  subst hfr
  generalize hB:boundL fr2 h (now+a4) c (keptN q4 x c)=b at ea hb
  have hbh:b.f0=h:=by rw [←hB];rfl
  obtain ⟨hl1,hl2,hl3⟩:liveX now b=true∧holdsX c now b=true∧boundX c now b=true:=by
   rw [←hB] at hb ⊢
   exact bound_holds_ hb ht
  have hka:keptN q4 b c=keptN q4 x c:=by rw [←hB];exact kept_again q4 x c fr2 h (now+a4)
  have hke:keptN ⟨#[]⟩ b c=keptN q4 x c:=by rw [←hB];exact if_pos ⟨by kernel_rfl,rfl,rfl⟩
  rw [←hbh] at hx hk e1 ea hB ⊢
  have hTA:=claim_table (p:=fun _=>true) (c:=c) (now:=now) hT hx hb
  have hfA:findL a b.f0=some b:=by rw [ea,claim_find hT hb,if_pos rfl]
  have hag:=claim_again (c:=c) (now:=now) hT hx hb
  have hof:=claim_of hT hx hb hl2
  rw [←ea] at hTA hag hof
  have hmA:pickMayB a0 a1 l2 l3 a4 z l6 a now c=true:=by
   unfold pickMayB at hm ⊢
   rw [hT] at hm
   rw [hTA]
   exact hm
  have h0:b.f0≠0:=by
   have h1:leaseB b.f0 b.f1 b.f2 b.f3 b.f4 b.f5=true:=hb
   unfold leaseB at h1
   simp only [Bool.and_eq_true,decide_eq_true_eq] at h1
   omega
  have eg:gotL (findL a b.f0)=b:=by rw [hfA];rfl
  refine ⟨?_,?_,b,hof,rfl⟩
  ·unfold claimV
   rw [if_pos (by rw [hmA,decide_eq_true hn,hr];rfl),←e1,eg,kind_again hk hl1 hl2 hl3]
   unfold claimGo
   rw [if_pos rfl,eg,hka,hB,hag]
  ·unfold claimV
   have hr2:reqB false 0 0 b.f0 ⟨#[]⟩=true:=by
    unfold reqB
    rw [show nameB (bytesOf (⟨#[]⟩:ByteArray))=true by kernel_rfl,decide_eq_true (show (0:Int)≤b.f0 by
     have h1:leaseB b.f0 b.f1 b.f2 b.f3 b.f4 b.f5=true:=hb
     unfold leaseB at h1
     simp only [Bool.and_eq_true,decide_eq_true_eq] at h1
     omega)]
    rfl
   have ec:claimHost false 0 b.f0=b.f0:=if_neg (by rintro (e|e);exact absurd e (by decide);exact h0 e)
   rw [if_pos (by rw [hmA,decide_eq_true hn,hr2];rfl),ec,eg,(kind_own hk).2,kind_had h0 hl1 hl3]
   unfold claimGo
   rw [if_pos rfl,eg,hke,hB,hag]
 ·exact absurd rfl e

/-! fitr.inc -/
theorem size_of_bytes (s:ByteArray):s.size=(bytesOf s).length:=by
 unfold bytesOf
 rw [List.length_map]
 first|rfl|simp
theorem name_size (s:ByteArray) (h:nameB (bytesOf s)=true):s.size≤72:=by
 rw [size_of_bytes]
 exact name_short _ h
theorem nil_size (s:ByteArray) (h:s.toList=[]):s.size≤72:=by
 rw [size_of_bytes]
 rw [ByteArray.toList_eq] at h
 unfold bytesOf
 simp [h]
theorem static_size (z:ByteArray) (x:S93) (h:staticB z x=true):x.f0.size≤72∧x.f4.size≤72:=by
 unfold staticB rrB at h
 simp only [Bool.and_eq_true,decide_eq_true_eq] at h
 obtain ⟨hk,⟨⟨hn,_⟩,hr⟩,_⟩:=h
 refine ⟨name_size _ hn,?_⟩
 rcases hk with e|e|e
 ·rw [if_pos e] at hr
  simp only [Bool.and_eq_true,decide_eq_true_eq] at hr
  exact nil_size _ hr.2.1
 ·rw [if_neg (by omega),if_pos (by omega)] at hr
  simp only [Bool.and_eq_true,decide_eq_true_eq] at hr
  exact name_size _ hr.2.1
 ·rw [if_neg (by omega),if_neg (by omega),if_neg (by omega),if_pos (by omega)] at hr
  simp only [Bool.and_eq_true,decide_eq_true_eq] at hr
  exact nil_size _ hr.2.1
theorem conf_fitr {a0 a1:Int} {l2:List Int} {l3:List S95} {a4:Int} {z:ByteArray} {l6:List S93} (h:confB a0 a1 l2 l3 a4 z l6=true) (h3:l3.length≤5864062014805) (h2:l2.length≤140737488351232):confFitR l2 l3 z l6:=by
 unfold confB at h
 simp only [Bool.and_eq_true,decide_eq_true_eq] at h
 obtain ⟨⟨_,_,hz,_⟩,_,_,_,hs⟩:=h
 unfold staticsB at hs
 rw [Bool.and_eq_true,decide_eq_true_eq,List.all_eq_true] at hs
 have:=name_size z hz
 refine ⟨h2,h3,by omega,by omega,fun x hx=>?_⟩
 have:=static_size z x (hs.1 x hx)
 omega
theorem table_fitr {l:List S44} (h:tableB l=true):tabFitR l:=by
 unfold tableB at h
 rw [Bool.and_eq_true,decide_eq_true_eq] at h
 have go:∀ (l:List S44) (p:Option Int),goTab p l=true→∀ x∈l,x.f4.size≤72:=by
  intro l
  induction l with
  | nil=>intro p _ x hx;cases hx
  | cons y r ih =>
   intro p hp x hx
   unfold goTab at hp
   rw [Bool.and_eq_true,Bool.and_eq_true] at hp
   rcases List.mem_cons.1 hx with e|e
   ·rw [e]
    have h1:leaseB y.f0 y.f1 y.f2 y.f3 y.f4 y.f5=true:=hp.1
    unfold leaseB at h1
    simp only [Bool.and_eq_true] at h1
    exact name_size _ h1.2
   ·exact ih _ hp.2.2 x e
 refine ⟨by omega,fun x hx=>?_⟩
 have:=go l none h.1 x hx
 omega

/-! asked0.inc -/
/-- may these be asked about. -/
def askedB (a0_0:Int) (a0_1:Int) (l0_2:List Int) (l0_3:List S95) (a0_4:Int) (a0_5:ByteArray) (l0_6:List S93) (l1:List S44) (a2:Int) (a3:ByteArray) (a4:Int):Bool:=confB a0_0 a0_1 l0_2 l0_3 a0_4 a0_5 l0_6 && (tableB l1 && (decide (0≤a2∧a2≤a4) && clientB a3))

/-! wraps.inc -/
theorem wrap_succ (i n:Nat) (h:i < n) (hn:n≤140737488351232):wrap64 ((i:Int)+1)=((i+1:Nat):Int):=by
 rw [w64 (by omega)]
 omega

/-! rdget.inc -/
theorem rdLease_get (l:List S44) (i:Nat) (h:i < l.length):rd_T44 l (i:Int)=l[i]:=by
 unfold rd_T44
 rw [Int.toNat_natCast,List.getD_eq_getElem?_getD,List.getElem?_eq_getElem h]
 rfl

/-! drops.inc -/
theorem dropIn_ (l:List Int) (i:Int) (h0:0≤i) (h1:i < l.length):l.drop i.toNat=rd l i :: l.drop (i.toNat+1):=by
 have h:i.toNat < l.length:=by omega
 have e:rd l i=l[i.toNat]:=by
  unfold rd
  rw [List.getD_eq_getElem?_getD,List.getElem?_eq_getElem h]
  rfl
 rw [e,List.drop_eq_getElem_cons h]
theorem dropRs_ (l:List S95) (i:Int) (h0:0≤i) (h1:i < l.length):l.drop i.toNat=rd_T95 l i :: l.drop (i.toNat+1):=by
 have h:i.toNat < l.length:=by omega
 have e:rd_T95 l i=l[i.toNat]:=by
  unfold rd_T95
  rw [List.getD_eq_getElem?_getD,List.getElem?_eq_getElem h]
  rfl
 rw [e,List.drop_eq_getElem_cons h]

/-! regis.inc -/
theorem glue_len_ (p:List Int):∀ L:List (List Int),L≠[]→(glue p L).length=L.length
 | [],h=>absurd rfl h
 | _ :: _,_=>rfl
theorem cutL_app_len:∀ p X:List Int,(cutL (p ++ 46 :: X)).length=(cutL p).length+(cutL X).length
 | [],X=>by
  rw [List.nil_append,cutL_point,List.length_cons]
  have:(cutL []).length=1:=rfl
  omega
 | b :: p,X=>by
  have ih:=cutL_app_len p X
  rw [List.cons_append]
  by_cases hb:b=46
  ·subst hb
   rw [cutL_point,cutL_point,List.length_cons,List.length_cons]
   omega
  ·rw [cutL_other b _ hb,cutL_other b _ hb,glue_len_ _ _ (cutL_ne _),glue_len_ _ _ (cutL_ne _)]
   exact ih
section
variable {a0 a1:Int} {l2:List Int} {l3:List S95} {a4:Int} {z:ByteArray} {l6:List S93}
theorem conf_zone (h:confB a0 a1 l2 l3 a4 z l6=true):nameB (bytesOf z)=true∧z.size≠0:=by
 unfold confB at h
 simp only [Bool.and_eq_true,decide_eq_true_eq] at h
 exact ⟨h.1.2.2.1,fun e=>h.1.2.1 ((toList_nil z).2 e)⟩
theorem bytes_dot (h z:ByteArray):bytesOf (h ++ (⟨#[46]⟩:ByteArray) ++ z)=bytesOf h ++ 46 :: bytesOf z:=by
 rw [bytesOf_append,bytesOf_append,List.append_assoc]
 rfl
/-- a full name is none, or a name of its own. -/
theorem full_cases (h:ByteArray):fullB a0 a1 l2 l3 a4 z l6 h=⟨#[]⟩∨(nameB (bytesOf (fullB a0 a1 l2 l3 a4 z l6 h))=true∧(labelsS (fullB a0 a1 l2 l3 a4 z l6 h)).length≠1∧(fullB a0 a1 l2 l3 a4 z l6 h).toList≠z.toList∧underB (bytesOf (fullB a0 a1 l2 l3 a4 z l6 h)) (bytesOf z)=true∧confB a0 a1 l2 l3 a4 z l6=true):=by
 by_cases q:(labelsS h).length=1
 ·cases hb:nameB (bytesOf (h ++ (⟨#[46]⟩:ByteArray) ++ z)) && confB a0 a1 l2 l3 a4 z l6 with
  | false =>
   left
   unfold fullB
   rw [if_pos q,hb]
   rfl
  | true =>
   right
   have e:fullB a0 a1 l2 l3 a4 z l6 h=h ++ (⟨#[46]⟩:ByteArray) ++ z:=by
    unfold fullB
    rw [if_pos q,hb]
    rfl
   rw [e]
   rw [Bool.and_eq_true] at hb
   obtain ⟨hn,hc⟩:=hb
   obtain ⟨zn,zs⟩:=conf_zone hc
   have c1:1≤(cutL (bytesOf h)).length:=List.length_pos_iff.2 (cutL_ne _)
   have c2:1≤(cutL (bytesOf z)).length:=List.length_pos_iff.2 (cutL_ne _)
   refine ⟨hn,?_,?_,?_,hc⟩
   ·rw [labels_len,bytes_dot,cutL_app_len]
    split<;>omega
   ·intro e2
    have e3:=(toList_iff _ _).1 e2
    have e4:=congrArg List.length e3
    rw [bytes_dot,List.length_append,List.length_cons] at e4
    omega
   ·unfold underB
    rw [hn,zn,bytes_dot,Bool.true_and,Bool.true_and,decide_eq_true_eq]
    exact .inr (.inr ⟨bytesOf h,rfl⟩)
 ·by_cases q2:h.toList=z.toList∨underB (bytesOf h) (bytesOf z)=false
  ·left
   unfold fullB
   rw [if_neg q,if_pos q2]
  ·cases hb:nameB (bytesOf h) && confB a0 a1 l2 l3 a4 z l6 with
   | false =>
    left
    unfold fullB
    rw [if_neg q,if_neg q2,hb]
    rfl
   | true =>
    right
    have e:fullB a0 a1 l2 l3 a4 z l6 h=h:=by
     unfold fullB
     rw [if_neg q,if_neg q2,hb]
     rfl
    rw [e]
    rw [Bool.and_eq_true] at hb
    refine ⟨hb.1,q,fun e2=>q2 (.inl e2),?_,hb.2⟩
    cases e3:underB (bytesOf h) (bytesOf z) with
    | false=>exact absurd (.inr e3) q2
    | true=>rfl
theorem full_none:fullB a0 a1 l2 l3 a4 z l6 ⟨#[]⟩=⟨#[]⟩:=by
 have q:¬ (labelsS ⟨#[]⟩).length=1:=by decide
 unfold fullB
 rw [if_neg q]
 repeat' split
 all_goals rfl
/-- a full name's full name is itself. -/
theorem full_full (h:ByteArray):fullB a0 a1 l2 l3 a4 z l6 (fullB a0 a1 l2 l3 a4 z l6 h)=fullB a0 a1 l2 l3 a4 z l6 h:=by
 rcases full_cases (a0:=a0) (a1:=a1) (l2:=l2) (l3:=l3) (a4:=a4) (z:=z) (l6:=l6) h with e|⟨h1,h2,h3,h4,h5⟩
 ·rw [e,full_none]
 ·generalize fullB a0 a1 l2 l3 a4 z l6 h=x at *
  unfold fullB
  rw [if_neg h2,if_neg (by rintro (e|e);exact h3 e;rw [h4] at e;cases e),h1,h5]
  rfl
theorem full_short (h:ByteArray):(fullB a0 a1 l2 l3 a4 z l6 h).size≤72:=by
 rcases full_cases (a0:=a0) (a1:=a1) (l2:=l2) (l3:=l3) (a4:=a4) (z:=z) (l6:=l6) h with e|⟨h1,_⟩
 ·rw [e]
  exact Nat.zero_le _
 ·have:=name_short _ h1
  rw [bytesOf_length] at this
  exact this
theorem full_name (h:ByteArray):nameB (bytesOf (fullB a0 a1 l2 l3 a4 z l6 h))=true:=by
 rcases full_cases (a0:=a0) (a1:=a1) (l2:=l2) (l3:=l3) (a4:=a4) (z:=z) (l6:=l6) h with e|⟨h1,_⟩
 ·rw [e]
  rfl
 ·exact h1
end

/-! refclaim0.inc -/
def refClaimGo (fr:ByteArray→Bool) (a4:Int) (ls:List S44) (now:Int) (c:ByteArray) (hh:Int) (lent:Bool) (x:S44) (is q0:Bool) (q1:Int) (q4:ByteArray):List S44×Int×Int×Int :=
 if q0=true∧q1≠167772161 then (dropL offeredX c now (-1) ls,0,0,0)
 else if q0=false∧hh=0 then (ls,0,0,0)
 else if lent=false then (ls,2,0,0)
 else if q0=true∧holdsX c now x=false then (ls,2,0,0)
 else if q0=false∧(is && liveX now x)=true∧(x.f1≠2∨x.f2.toList≠c.toList) then (ls,2,0,0)
 else if q0=false∧(is && liveX now x)=false∧(is=false∨x.f2.toList≠c.toList) then (ls,0,0,0)
 else (putL (dropL (fun _=>true) c now hh ls) (boundL fr hh (now+a4) c (if q4.toList=[]∧x.f1=2 then x.f4 else q4)),1,hh,0)
theorem drop_far {p:S44→Bool} {c:ByteArray} {now m k:Int} {ls:List S44} (h:∀ y∈ls,y.f0≠m∧y.f0≠k):dropL p c now m ls=dropL p c now k ls:=by
 unfold dropL
 apply List.map_congr_left
 intro y hy
 unfold dropX
 rw [decide_eq_true (h y hy).1,decide_eq_true (h y hy).2]
theorem got_none_live (now:Int) (o:Option S44):(o.isSome && liveX now (gotL o))=liveX now (gotL o):=by
 cases o with
 | some y=>rfl
 | none=>rfl
theorem bound_live {c:ByteArray} {now:Int} {x:S44} (h:liveX now x=true):boundX c now x=true ↔ x.f1=2∧x.f2.toList=c.toList:=by
 have e:boundX c now x=(liveX now x && (decide (x.f1≠3) && decide (x.f2.toList=c.toList)) && decide (x.f1=2)):=rfl
 rw [e,h]
 simp only [Bool.true_and,Bool.and_eq_true,decide_eq_true_eq]
 constructor
 ·rintro ⟨⟨_,h2⟩,h3⟩;exact ⟨h3,h2⟩
 ·rintro ⟨h3,h2⟩;exact ⟨⟨by omega,h2⟩,h3⟩
/-- the document's answer to a claim is the plain one. -/
theorem refclaim_go (fr:ByteArray→Bool) (a4:Int) (ls:List S44) (now:Int) (c:ByteArray) (hh:Int) (lent q0:Bool) (q1:Int) (q4:ByteArray) (hT:tableB ls=true) (hc:c.toList≠[]) :
  refClaimGo fr a4 ls now c hh lent (gotL (findL ls hh)) (findL ls hh).isSome q0 q1 q4=claimGo fr a4 ls now c hh (kindV q0 q1 hh lent (gotL (findL ls hh)) c now) q0 q4:=by
 have hk:∀ nm,(gotL (findL ls hh)).f2.toList=c.toList→keptN nm (gotL (findL ls hh)) c=if nm.toList=[]∧(gotL (findL ls hh)).f1=2 then (gotL (findL ls hh)).f4 else nm:=by
  intro nm e
  unfold keptN
  by_cases q:nm.toList=[]∧(gotL (findL ls hh)).f1=2
  ·rw [if_pos q,if_pos ⟨q.1,q.2,e⟩]
  ·rw [if_neg q,if_neg (fun h=>q ⟨h.1,h.2.1⟩)]
 have hg:∀ k,(gotL (findL ls hh)).f2.toList=c.toList→k=1→claimGo fr a4 ls now c hh k q0 q4=(putL (dropL (fun _=>true) c now hh ls) (boundL fr hh (now+a4) c (if q4.toList=[]∧(gotL (findL ls hh)).f1=2 then (gotL (findL ls hh)).f4 else q4)),1,hh,0):=by
  intro k e ek
  unfold claimGo
  rw [if_pos ek,hk q4 e]
 have hz:q0=false→∀ k,k≠1→claimGo fr a4 ls now c hh k q0 q4=(ls,k,0,0):=by
  intro e k ek
  unfold claimGo
  rw [if_neg ek,if_neg (by rw [e];rintro ⟨_,h⟩;cases h)]
 unfold refClaimGo
 rw [got_none_live]
 cases q0 with
 | true =>
  by_cases q:q1=167772161
  ·rw [if_neg (fun h=>h.2 q),if_neg (by rintro ⟨h,_⟩;cases h)]
   unfold kindV
   rw [if_pos rfl,if_pos q]
   cases lent with
   | false=>rw [if_pos rfl,Bool.false_and,if_neg (by decide)];rfl
   | true =>
    rw [if_neg (by decide),Bool.true_and]
    cases hh2:holdsX c now (gotL (findL ls hh)) with
    | false=>rw [if_pos ⟨rfl,rfl⟩,if_neg (by decide)];rfl
    | true =>
     rw [if_neg (by rintro ⟨_,h⟩;cases h),if_neg (by rintro ⟨h,_⟩;cases h),if_neg (by rintro ⟨h,_⟩;cases h),if_pos rfl,hg 1 (holds_client hh2) rfl]
  ·rw [if_pos ⟨rfl,q⟩]
   unfold kindV
   rw [if_pos rfl,if_neg q]
   show _=(dropL offeredX c now 0 ls,0,0,0)
   have hok:=(table_sorted hT).1
   rw [drop_far (m := -1) (k:=0) (fun y hy=>by
    have h1:leaseB y.f0 y.f1 y.f2 y.f3 y.f4 y.f5=true:=hok y hy
    unfold leaseB at h1
    simp only [Bool.and_eq_true,decide_eq_true_eq] at h1
    omega)]
 | false =>
  rw [if_neg (by rintro ⟨h,_⟩;cases h)]
  unfold kindV
  rw [if_neg (show ¬((false:Bool)=true) by decide)]
  by_cases q:hh=0
  ·rw [if_pos ⟨rfl,q⟩,if_pos q,hz rfl 0 (by decide)]
  ·rw [if_neg (fun h=>q h.2),if_neg q]
   cases lent with
   | false=>rw [if_pos rfl,if_pos rfl,hz rfl 2 (by decide)]
   | true =>
    rw [if_neg (show ¬((true:Bool)=false) by decide),if_neg (show ¬((true:Bool)=false) by decide),if_neg (by rintro ⟨h,_⟩;cases h)]
    cases hl:liveX now (gotL (findL ls hh)) with
    | true =>
     rw [if_pos rfl]
     have hb:=bound_live (c:=c) hl
     by_cases qb:boundX c now (gotL (findL ls hh))=true
     ·have h2:=hb.1 qb
      rw [if_neg (by rintro ⟨_,_,h|h⟩;exact h h2.1;exact h h2.2),if_neg (by rintro ⟨_,h,_⟩;cases h),if_pos qb,hg 1 h2.2 rfl]
     ·rw [if_pos ⟨rfl,rfl,by
       by_cases a:(gotL (findL ls hh)).f1=2
       ·exact .inr fun e=>qb (hb.2 ⟨a,e⟩)
       ·exact .inl a⟩,if_neg qb,hz rfl 2 (by decide)]
    | false =>
     rw [if_neg (by rintro ⟨_,h,_⟩;cases h),if_neg (show ¬((false:Bool)=true) by decide)]
     by_cases qo:(gotL (findL ls hh)).f2.toList=c.toList
     ·obtain ⟨y,hy⟩:=got_found hc qo
      rw [if_neg (by
       rintro ⟨_,_,h|h⟩
       ·rw [hy] at h;cases h
       ·exact h qo),if_pos qo,hg 1 qo rfl]
     ·rw [if_pos ⟨rfl,rfl,.inr qo⟩,if_neg qo,hz rfl 0 (by decide)]

end Go.Proofs.YtibalpbkmgegnaaGreatDoor.PL
