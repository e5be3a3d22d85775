-- Made by wip/pr.py out of the translation (a turned copy of the kit's print; contracts by hand where said).
import Derived.Test.YtibalpbkmgegnaaGreatDoorPLx0
namespace Go.Proofs.YtibalpbkmgegnaaGreatDoor.PL
open Go.RowKit Go.Proofs.YtibalpbkmgegnaaGreatDoorW.PrintWords Go.Proofs.YtibalpbkmgegnaaGreatDoorW.PrintLast Go.Proofs.YtibalpbkmgegnaaGreatDoorW.PrintMore
-- shrunk
attribute [local go_sem] max2_int min2_int max_two min_two max_three min_three max_four min_four   -- for this text's walks alone
set_option linter.unusedVariables false
set_option linter.unusedSimpArgs false

/-! int.inc -/
/-- the bounds of an int. -/
theorem int_bd {a:Int} (h:(Lit.int .i64 a).wf=true) : -9223372036854775808≤a∧a≤9223372036854775807:=by
 simp only [Lit.wf,IntKind.min,IntKind.max,IntKind.signed,IntKind.bits,Bool.and_eq_true,decide_eq_true_eq,if_true] at h
 omega
theorem u64_eq (a:Int):IntKind.u64.wrap a=a % 18446744073709551616:=by simp [IntKind.wrap,IntKind.bits,IntKind.signed]
theorem w64 {a:Int} (h : -9223372036854775808≤a∧a≤9223372036854775807):wrap64 a=a:=by unfold wrap64;omega
/-- the low bits of any int. -/
theorem and_mask (a:Int) (i:Nat) (hi:i≤62):Go.bits .and .i64 a ((2 ^ i - 1:Nat):Int)=a % ((2 ^ i:Nat):Int):=by
 have hp:0 < 2 ^ i:=Nat.two_pow_pos i
 have hl:2 ^ i≤2 ^ 62:=Nat.pow_le_pow_right (by decide) hi
 show IntKind.wrap .i64 (((BitVec.ofInt 64 a &&& BitVec.ofInt 64 ((2 ^ i - 1:Nat):Int)).toNat:Nat):Int)=_
 have e:(((BitVec.ofInt 64 a &&& BitVec.ofInt 64 ((2 ^ i - 1:Nat):Int)).toNat:Nat):Int)=a % ((2 ^ i:Nat):Int):=by
  rw [BitVec.toNat_and,BitVec.ofInt_natCast,BitVec.toNat_ofNat,Nat.mod_eq_of_lt (show 2 ^ i - 1 < 2 ^ 64 by omega),Nat.and_two_pow_sub_one_eq_mod,BitVec.toNat_ofInt]
  rw [Int.natCast_emod,Int.toNat_of_nonneg (Int.emod_nonneg _ (by decide))]
  exact Int.emod_emod_of_dvd a (by
   rw [Int.natCast_dvd_natCast]
   exact Nat.pow_dvd_pow 2 (by omega))
 rw [e,IntKind.wrap_i64]
 have h0:=Int.emod_nonneg a (show ((2 ^ i:Nat):Int)≠0 by omega)
 have h1:=Int.emod_lt_of_pos a (show 0 < ((2 ^ i:Nat):Int) by omega)
 omega
theorem and_1023 (a:Int):Go.bits .and .i64 a 1023=a % 1024:=and_mask a 10 (by decide)
theorem and_63 (a:Int):Go.bits .and .i64 a 63=a % 64:=and_mask a 6 (by decide)
theorem and_255 (a:Int):Go.bits .and .i64 a 255=a % 256:=and_mask a 8 (by decide)
theorem and_65535 (a:Int):Go.bits .and .i64 a 65535=a % 65536:=and_mask a 16 (by decide)
theorem and_u32 (a:Int):Go.bits .and .i64 a 4294967295=a % 4294967296:=and_mask a 32 (by decide)
theorem wraps_i64 (n:Int) (h0:0≤n) (h1:n < 2 ^ 63):IntKind.i64.wrap n=n:=by rw [IntKind.wrap_i64];omega
theorem or_byte (x b:Int) (hx:0≤x∧x < 281474976710656) (hb:0≤b∧b < 256):Go.bits .or .i64 (wrap64 (x * 256)) b=x * 256+b:=by
 rw [w64 (by omega)]
 exact bits_join .i64 63 (by decide) wraps_i64 8 (x * 256) b (by omega) (by omega) (by omega) hb.1 (by omega) (by omega)

/-! name0.inc -/
theorem bt_bd (s:ByteArray) (i:Int):0≤bt s i∧bt s i < 256:=by have:=bt_range s i;omega
theorem toList_nil (s:ByteArray):s.toList=([]:List UInt8) ↔ s.size=0:=by
 rw [ByteArray.toList_eq,←data_length,List.length_eq_zero_iff]
theorem drop_cons (s:ByteArray) (i:Nat) (h:i < s.size):(bytesOf s).drop i=bt s i :: (bytesOf s).drop (i+1):=by
 have hl:i < (bytesOf s).length:=by rw [bytesOf_length];exact h
 rw [List.drop_eq_getElem_cons hl,←rd_bytesOf]
 unfold rd
 rw [Int.toNat_natCast,List.getD_eq_getElem?_getD,List.getElem?_eq_getElem hl]
 rfl
theorem drop_end (s:ByteArray) (i:Nat) (h:s.size≤i):(bytesOf s).drop i=[]:=List.drop_eq_nil_of_le (by rw [bytesOf_length];exact h)
theorem bytesOf_extract (s:ByteArray) (a b:Nat):bytesOf (s.extract a b)=((bytesOf s).drop a).take (b - a):=by
 unfold bytesOf
 rw [ByteArray.data_extract,Array.toList_extract,List.extract_eq_take_drop,List.map_take,List.map_drop]

/-- may a label have such a byte. -/
def letterB (b:Int):Bool:=decide ((97≤b∧b≤122)∨(48≤b∧b≤57)∨b=45)
/-- may a label be so. -/
def labelB (l:List Int):Bool:=l.all letterB && decide (1≤l.length∧l.length≤8)
/-- a text, cut at its points. -/
def glue (p:List Int):List (List Int)→List (List Int)
 | []=>[p]
 | q :: qs=>(p ++ q) :: qs
def cutL:List Int→List (List Int)
 | []=>[[]]
 | b :: l=>if b=46 then [] :: cutL l else glue [b] (cutL l)
/-- may a name be so. -/
def nameB (l:List Int):Bool:=decide (l=[]) || ((cutL l).all labelB && decide ((cutL l).length≤8))

theorem cutL_ne:∀ l,cutL l≠[]
 | []=>by simp [cutL]
 | b :: l=>by
  unfold cutL
  split
  ·simp
  ·cases cutL l<;>simp [glue]
theorem glue_nil (l:List (List Int)) (h:l≠[]):glue [] l=l:=by
 cases l with
 | nil=>exact absurd rfl h
 | cons q qs=>simp [glue]
theorem glue_glue (p q:List Int) (l:List (List Int)):glue p (glue q l)=glue (p ++ q) l:=by
 cases l<;>simp [glue]
theorem cutL_point (l:List Int):cutL (46 :: l)=[] :: cutL l:=by rw [cutL,if_pos rfl]
theorem cutL_other (b:Int) (l:List Int) (h:b≠46):cutL (b :: l)=glue [b] (cutL l):=by rw [cutL,if_neg h]

theorem cut_index:∀ L:List UInt8,(Lib.indexByte L 46 = -1∧cutL (L.map fun b=>(b.toNat:Int))=[L.map fun b=>(b.toNat:Int)]) ∨
  (0≤Lib.indexByte L 46∧Lib.indexByte L 46 < (L.length:Int)∧cutL (L.map fun b=>(b.toNat:Int))=(L.map fun b=>(b.toNat:Int)).take (Lib.indexByte L 46).toNat :: cutL ((L.map fun b=>(b.toNat:Int)).drop ((Lib.indexByte L 46).toNat+1)))
 | []=>.inl ⟨rfl,rfl⟩
 | b :: L=>by
  have ih:=cut_index L
  by_cases hb:b=46
  ·subst hb
   refine .inr ⟨by simp [Lib.indexByte],by simp [Lib.indexByte],?_⟩
   have e:Lib.indexByte (46 :: L) 46=0:=by simp [Lib.indexByte]
   rw [e]
   exact cutL_point _
  ·have hb2:((b.toNat:Nat):Int)≠46:=by
    intro h
    apply hb
    have h2:b.toNat=46:=by omega
    exact UInt8.toNat_inj.1 h2
   have hne:(b == 46)=false:=by simpa using hb
   rcases ih with ⟨h1,h2⟩|⟨h1,h2,h3⟩
   ·refine .inl ⟨by simp [Lib.indexByte,hne,h1],?_⟩
    rw [List.map_cons,cutL_other _ _ hb2,h2]
    rfl
   ·have e:Lib.indexByte (b :: L) 46=Lib.indexByte L 46+1:=by
     have h4:(Lib.indexByte L 46 == -1)=false:=by
      rw [beq_eq_false_iff_ne]
      omega
     simp [Lib.indexByte,hne,h4]
    refine .inr ⟨by omega,by rw [e,List.length_cons];omega,?_⟩
    rw [e,show (Lib.indexByte L 46+1).toNat=(Lib.indexByte L 46).toNat+1 by omega,List.map_cons,cutL_other _ _ hb2,h3]
    rfl


/-! strof.inc -/
theorem toNat_u8 (x:Int) (h:0≤x∧x < 256):((UInt8.ofNat x.toNat).toNat:Int)=x:=by
 rw [UInt8.toNat_ofNat']
 omega
theorem bytesOf_strOf:∀ l:List Int,(∀x∈l,0≤x∧x < 256)→bytesOf (strOfNums l)=l:=by
 intro l h
 unfold bytesOf strOfNums
 simp only [List.map_map]
 induction l with
 | nil=>rfl
 | cons x l ih =>
  rw [List.map_cons,ih (fun y hy=>h y (List.mem_cons_of_mem _ hy))]
  congr 1
  exact toNat_u8 x (h x (List.mem_cons_self ..))
theorem bytesOf_append (s t:ByteArray):bytesOf (s ++ t)=bytesOf s ++ bytesOf t:=by
 unfold bytesOf
 rw [ByteArray.data_append,Array.toList_append,List.map_append]
theorem bytes_range (s:ByteArray):∀ x∈bytesOf s,0≤x∧x < 256:=by
 intro x hx
 unfold bytesOf at hx
 obtain ⟨b,_,rfl⟩:=List.mem_map.1 hx
 have:=b.toNat_lt
 omega

/-! under0.inc -/
theorem map_u8_inj:∀ l l':List UInt8,l.map (fun b=>(b.toNat:Int))=l'.map (fun b=>(b.toNat:Int))→l=l'
 | [],[],_=>rfl
 | [],_ :: _,h=>by simp at h
 | _ :: _,[],h=>by simp at h
 | a :: l,b :: l',h=>by
  rw [List.map_cons,List.map_cons,List.cons.injEq] at h
  have h1:a.toNat=b.toNat:=by omega
  rw [UInt8.toNat_inj.1 h1,map_u8_inj l l' h.2]
theorem toList_iff (s t:ByteArray):s.toList=t.toList ↔ bytesOf s=bytesOf t:=by
 rw [ByteArray.toList_eq,ByteArray.toList_eq]
 constructor
 ·intro h
  unfold bytesOf
  rw [h]
 ·exact map_u8_inj _ _
theorem bytesOf_inj (s t:ByteArray) (h:bytesOf s=bytesOf t):s=t:=by
 have h1:=(toList_iff s t).2 h
 rw [ByteArray.toList_eq,ByteArray.toList_eq] at h1
 have e:∀ x:ByteArray,x=⟨x.data⟩:=fun _=>rfl
 rw [e s,e t,Array.toList_inj.1 h1]
/-- does a name end as a zone is called. -/
def isU (s z:List Int):Prop:=z=[]∨s=z∨(46 :: z) <:+ s
instance (s z:List Int):Decidable (isU s z):=by unfold isU;infer_instance
def underB (s z:List Int):Bool:=nameB s && nameB z && decide (isU s z)

/-! labels0.inc -/
/-- a name's labels. -/
def labelsS (s:ByteArray):List ByteArray:=if (nameB (bytesOf s) && decide (s.size≠0))=true then (cutL (bytesOf s)).map strOfNums else []
theorem strOf_bytes (s:ByteArray):strOfNums (bytesOf s)=s:=bytesOf_inj _ _ (bytesOf_strOf _ (bytes_range s))
theorem of_map_bytes (r:List ByteArray) (L:List (List Int)) (h:r.map bytesOf=L):r=L.map strOfNums:=by
 subst h
 rw [List.map_map]
 symm
 exact (List.map_congr_left (fun x _=>strOf_bytes x)).trans (List.map_id' r)
theorem labels_len (s:ByteArray):(labelsS s).length=if (nameB (bytesOf s) && decide (s.size≠0))=true then (cutL (bytesOf s)).length else 0:=by
 unfold labelsS
 split
 ·rw [List.length_map]
 ·rfl

/-! short.inc -/
theorem cutL_sum:∀ l:List Int,((cutL l).map (fun p=>p.length+1)).sum=l.length+1
 | []=>rfl
 | b :: l=>by
  have ih:=cutL_sum l
  by_cases hb:b=46
  ·subst hb
   rw [cutL_point,List.map_cons,List.sum_cons,ih]
   simp only [List.length_nil,List.length_cons]
   omega
  ·rw [cutL_other _ _ hb]
   cases hc:cutL l with
   | nil=>exact absurd hc (cutL_ne l)
   | cons q qs =>
    rw [hc] at ih
    simp only [glue,List.map_cons,List.sum_cons,List.length_cons,List.length_append,List.length_nil] at ih ⊢
    omega
theorem label_sum:∀ L:List (List Int),L.all labelB=true→(L.map (fun p=>p.length+1)).sum≤9 * L.length
 | []=>fun _=>Nat.zero_le _
 | p :: L=>fun h=>by
  rw [List.all_cons,Bool.and_eq_true] at h
  have ih:=label_sum L h.2
  have h1:=h.1
  unfold labelB at h1
  rw [Bool.and_eq_true,decide_eq_true_eq] at h1
  simp only [List.map_cons,List.sum_cons,List.length_cons]
  omega
/-- a name that may be is short. -/
theorem name_short (l:List Int) (h:nameB l=true):l.length≤72:=by
 unfold nameB at h
 rw [Bool.or_eq_true,Bool.and_eq_true,decide_eq_true_eq,decide_eq_true_eq] at h
 rcases h with h|⟨h1,h2⟩
 ·rw [h]
  exact Nat.zero_le _
 ·have:=label_sum _ h1
  rw [cutL_sum] at this
  omega

/-! walk.inc -/
/-- what stood there reads as before. -/
theorem kept_ {W w1:World} (hb:Below W.heap.size W w1) (g:Nat) (hg:g < W.heap.size):∀ o,w1.cell? ⟨g,o,none⟩=W.cell? ⟨g,o,none⟩:=fun o=>hb.cell (p:=⟨g,o,none⟩) hg
theorem ret_bool {a b:Bool} (h:a=b):Ending.returned (.bool a)=.returned (.bool b):=by rw [h]
theorem kept_g {W w1:World} {row:Option Nat} {g:Nat} (hb:W.grownBy w1 row) (hg:g < W.heap.size) (hne:some g≠row):∀ o,w1.cell? ⟨g,o,none⟩=W.cell? ⟨g,o,none⟩:=fun o=>by
 unfold World.cell?
 rw [hb.block g hg hne]

/-! maps.inc -/
/-- a map that holds yes at some keys. -/
def mapD {κ:Type} (key:κ→Lit) (cs:List κ):DataW Unit:=cs.foldl (fun D c=>D.put (key c) (.lit (.bool true))) (.map [])
theorem mapD_snoc {κ:Type} (key:κ→Lit) (cs:List κ) (c:κ):mapD key (cs ++ [c])=(mapD key cs).put (key c) (.lit (.bool true)):=by
 unfold mapD
 rw [List.foldl_append]
 rfl
theorem fold_at_ {κ:Type} [DecidableEq κ] (key:κ→Lit) (hk:∀ c,WideAt.IsKeyLit (key c)) (hi:∀ a b,key a=key b→a=b) (c:κ):∀ (cs:List κ) (M:DataW Unit),Maps.IsMap M→(cs.foldl (fun D c=>D.put (key c) (.lit (.bool true))) M).atKey (key c) (.lit (.bool false))=if c∈cs then .lit (.bool true) else M.atKey (key c) (.lit (.bool false))
 | [],M,_=>by simp
 | d :: cs,M,h=>by
  rw [List.foldl_cons,fold_at_ key hk hi c cs _ (h.put _ _)]
  by_cases hc:c∈cs
  ·rw [if_pos hc,if_pos (List.mem_cons_of_mem _ hc)]
  ·rw [if_neg hc]
   by_cases hd:c=d
   ·subst hd
    rw [if_pos List.mem_cons_self,Maps.atKey_put_same h (hk c)]
   ·rw [if_neg (by simp [hd,hc]),Maps.atKey_put_other (fun e=>hd (hi _ _ e))]
theorem mapD_at {κ:Type} [DecidableEq κ] (key:κ→Lit) (hk:∀ c,WideAt.IsKeyLit (key c)) (hi:∀ a b,key a=key b→a=b) (cs:List κ) (c:κ):(mapD key cs).atKey (key c) (.lit (.bool false))=.lit (.bool (decide (c∈cs))):=by
 unfold mapD
 rw [fold_at_ key hk hi c cs _ Maps.isMap_empty]
 by_cases hc:c∈cs
 ·rw [if_pos hc,decide_eq_true hc]
 ·rw [if_neg hc,decide_eq_false hc]
  rfl
theorem bool_inv_ {P:Program} {e:TypeId} (he:P.underlying e=some .bool) {v:Value} {z:DataW Unit×List MemPlace} (h:plainElem P e v=some z):∃ x,v=.bool x∧z=(.lit (.bool x),[]):=by
 unfold plainElem at h
 rw [he] at h
 cases v<;>simp at h
 exact ⟨_,rfl,h.symm⟩
theorem setLook {κ:Type} [DecidableEq κ] {P:Program} {T K E:TypeId} (key:κ→Lit) (hk:∀ c,WideAt.IsKeyLit (key c)) (hi:∀ a b,key a=key b→a=b) (hK:Maps.Keyed P K) (hT:P.underlying T=some (.map K E)) (hE:P.underlying E=some .bool) {w:World} (hz:(zeroValue E).run P w=.ok (.bool false) w) {b n:Nat} {cs:List κ}
  (h:w.ownsMap P K (plainElem (H:=Unit) P E) b n (mapD key cs)) {c:κ} {kv:Value} (hkey:keyOf P K kv=some (key c)) {b3:Bool} (hb3:b3=true ↔ c∈cs):(Instr.lookup T (.map (some b)) kv false).run P w=.ok (.bool b3) w:=by
 obtain ⟨v,ps,hrun,hv⟩:=World.ownsMap.lookup h hK hT hz (plainElem_bool hE false) hkey
 obtain ⟨x,rfl,e⟩:=bool_inv_ hE hv
 rw [mapD_at key hk hi] at e
 obtain ⟨rfl,_⟩:decide (c∈cs)=x∧ps=[]:=by simpa using e
 have:decide (c∈cs)=b3:=by rw [Bool.eq_iff_iff,decide_eq_true_iff,hb3]
 rw [this] at hrun
 exact hrun

/-! small.inc -/
/-- is it a number of four bytes. -/
def wordB (x:Int):Bool:=decide (0≤x∧x≤4294967295)
/-- may a client be called so. -/
def clientB (a:ByteArray):Bool:=decide (1≤a.size∧a.size≤16)

/-! conf.inc -/
/-- each of them in its bounds, none twice, so many at most. -/
def hostsB (a b:Int) (l:List Int) (n:Int):Bool:=l.all (fun h=>decide (a≤h∧h≤b)) && (decide l.Nodup && decide ((l.length:Int)≤n))
def goHosts (a b:Int):List Int→List Int→Bool
 | _,[]=>true
 | cs,x :: r=>if a≤x∧x≤b∧x∉cs then goHosts a b (cs ++ [x]) r else false
theorem goHosts_eq (a b:Int):∀ l cs:List Int,goHosts a b cs l=(l.all (fun h=>decide (a≤h∧h≤b)) && decide (l.Nodup∧∀ x∈l,x∉cs))
 | [],cs=>by simp [goHosts]
 | x :: l,cs=>by
  unfold goHosts
  by_cases h:a≤x∧x≤b∧x∉cs
  ·rw [if_pos h,goHosts_eq a b l,Bool.eq_iff_iff]
   simp only [List.all_cons,Bool.and_eq_true,decide_eq_true_eq,List.nodup_cons,List.mem_append,List.mem_cons,List.mem_singleton]
   constructor
   ·rintro ⟨h1,h2,h3⟩
    refine ⟨⟨⟨h.1,h.2.1⟩,h1⟩,⟨fun e=>h3 x e (.inr (.inl rfl)),h2⟩,?_⟩
    rintro y (rfl|hy)
    ·exact h.2.2
    ·exact fun e=>h3 y hy (.inl e)
   ·rintro ⟨⟨_,h1⟩,⟨h2,h3⟩,h4⟩
    refine ⟨h1,h3,fun y hy=>?_⟩
    rintro (e|e|e)
    ·exact h4 y (.inr hy) e
    ·exact h2 (e ▸ hy)
    ·simp at e
  ·rw [if_neg h]
   symm
   rw [Bool.eq_false_iff]
   intro e
   simp only [List.all_cons,Bool.and_eq_true,decide_eq_true_eq,List.mem_cons] at e
   exact h ⟨e.1.1.1,e.1.1.2,e.2.2 x (.inl rfl)⟩
theorem goHosts_nil (a b:Int) (l:List Int) (n:Int):(goHosts a b [] l && decide ((l.length:Int)≤n))=hostsB a b l n:=by
 rw [goHosts_eq]
 unfold hostsB
 rw [Bool.and_assoc]
 congr 2
 simp
def goRes (cs:List (List UInt8)):List S95→Bool
 | []=>true
 | x :: r=>if clientB x.f0=true∧x.f0.data.toList∉cs then goRes (cs ++ [x.f0.data.toList]) r else false
def reservedB (a b:Int) (l:List S95):Bool:=l.all (fun x=>clientB x.f0) && (decide (l.map fun x=>x.f0.data.toList).Nodup && hostsB a b (l.map fun x=>x.f1) 4)
theorem goRes_eq:∀ (l:List S95) (cs:List (List UInt8)),goRes cs l=(l.all (fun x=>clientB x.f0) && decide ((l.map fun x=>x.f0.data.toList).Nodup∧∀ x∈l,x.f0.data.toList∉cs))
 | [],cs=>by simp [goRes]
 | x :: l,cs=>by
  unfold goRes
  by_cases h:clientB x.f0=true∧x.f0.data.toList∉cs
  ·rw [if_pos h,goRes_eq l,Bool.eq_iff_iff]
   simp only [List.all_cons,Bool.and_eq_true,decide_eq_true_eq,List.map_cons,List.nodup_cons,List.mem_append,List.mem_cons,List.mem_singleton,List.mem_map]
   constructor
   ·rintro ⟨h1,h2,h3⟩
    refine ⟨⟨h.1,h1⟩,⟨?_,h2⟩,?_⟩
    ·rintro ⟨y,hy,e⟩
     exact h3 y hy (.inr (.inl e))
    ·rintro y (rfl|hy)
     ·exact h.2
     ·exact fun e=>h3 y hy (.inl e)
   ·rintro ⟨⟨_,h1⟩,⟨h2,h3⟩,h4⟩
    refine ⟨h1,h3,fun y hy=>?_⟩
    rintro (e|e|e)
    ·exact h4 y (.inr hy) e
    ·exact h2 ⟨y,hy,e⟩
    ·simp at e
  ·rw [if_neg h]
   symm
   rw [Bool.eq_false_iff]
   intro e
   simp only [List.all_cons,Bool.and_eq_true,decide_eq_true_eq,List.mem_cons] at e
   exact h ⟨e.1.1,e.2.2 x (.inl rfl)⟩
theorem goRes_nil (a b:Int) (l:List S95):(goRes [] l && hostsB a b (l.map fun x=>x.f1) 4)=reservedB a b l:=by
 rw [goRes_eq]
 unfold reservedB
 rw [Bool.and_assoc]
 congr 2
 simp

/-! rr.inc -/
/-- may a record be. -/
def rrB (name:ByteArray) (kind ttl addr:Int) (target text:ByteArray) (serial:Int):Bool :=
 nameB (bytesOf name) && decide (0≤ttl∧ttl≤1048576) &&
 (if kind=1 then wordB addr && decide (target.toList=[]∧text.toList=[]∧serial=0)
  else decide (addr=0) &&
  (if kind=2∨kind=5∨kind=12 then nameB (bytesOf target) && decide (text.toList=[]∧serial=0)
   else if kind=6 then nameB (bytesOf target) && (decide (text.toList=[]) && wordB serial)
   else if kind=16∨kind=49 then decide (target.toList=[]∧text.size≤64∧serial=0) else false))

/-! static.inc -/
/-- may a standing record be so. -/
def staticB (z:ByteArray) (x:S93):Bool:=decide (x.f1=1∨x.f1=5∨x.f1=16) && (rrB x.f0 x.f1 x.f2 x.f3 x.f4 x.f5 x.f6 && (underB (bytesOf x.f0) (bytesOf z) && decide (x.f0.toList≠z.toList)))
def staticsB (z:ByteArray) (l:List S93):Bool:=l.all (staticB z) && decide (l.length≤8)

/-! region.inc -/
/-! a region that draws its order, walked in the order of its text: the first m of n operations have come up -/
def upto_ (n m:Nat):Array Bool:=(List.replicate m true ++ List.replicate (n - m) false).toArray
section
variable {P:Program} {ops:Array Oper} {Q:Exit→Act→World→Prop} {S:World→Prop}
theorem seqS {id:Nat} {a:Act} {w:World} (n:Nat) (hm:P.follows .mixedOrders=true) (hn:ops.size=n) (hl:Array.replicate n false=upto_ n 0) (hS:S w.drew)
  (h:S w.drew→wpAnyLast P .any ops Q S [] n (upto_ n (n - n)) a w.drew):(Code.region id ops true).wp P Q a w:=by
 rw [Nat.sub_self] at h
 exact start_ (upto_ n 0) hm hn hl hS h
theorem seqP {n fuel:Nat} {m:Tmp} {oi:Oper} {v:Value} {a:Act} {w:World} (hi:ops[n - (fuel+1)]?=some oi) (hN:oi.dst=some m) (hc:anyB .any ops (upto_ n (n - (fuel+1))) (upto_ n (n - fuel)) (n - (fuel+1))=true)
  (hQ:∀ c a w,Q (.panic c) (a.put oi.dst v) w→Q (.panic c) a w) (hy:Yields P ops oi v a) {a':Act} (ha:a.put (some m) v=a') (h:wpAnyLast P .any ops Q S [] fuel (upto_ n (n - fuel)) a' w) :
  wpAnyLast P .any ops Q S [] (fuel+1) (upto_ n (n - (fuel+1))) a w:=pure_ (upto_ n (n - fuel)) hi hN hc hQ hy ha h
theorem seqL {n fuel:Nat} {m:Tmp} {oi:Oper} {v:Value} {a:Act} {w:World} (hi:ops[n - (fuel+1)]?=some oi) (hN:oi.dst=some m) (hc:takeB .any ops [] (upto_ n (n - (fuel+1))) (upto_ n (n - fuel)) (n - (fuel+1))=true)
  (hQ:∀ c a w,Q (.panic c) (a.put oi.dst v) w→Q (.panic c) a w) (hy:YieldsIf P ops S oi v a) (hS:S w) {a':Act} (ha:a.put (some m) v=a') (h:wpAnyLast P .any ops Q S [] fuel (upto_ n (n - fuel)) a' w) :
  wpAnyLast P .any ops Q S [] (fuel+1) (upto_ n (n - (fuel+1))) a w:=take_ (upto_ n (n - fuel)) hi hN hc hQ hy hS ha h
theorem seqC {n fuel:Nat} {m:Tmp} {oi:Oper} {a:Act} {w:World} (hi:ops[n - (fuel+1)]?=some oi) (hN:oi.dst=some m) (hc:readyB .any ops (upto_ n (n - (fuel+1))) (upto_ n (n - fuel)) (n - (fuel+1))=true)
  (h:∀ K:Act→World→Prop,Shut (∀a' w',S w'→(S w'→wpAnyLast P .any ops Q S [] fuel (upto_ n (n - fuel)) a' w')→K a' w')→if Region.wanted oi (yielded ops a.tmps)=true then Oper.wp P oi a w K Q else K (a.put (some m) undef) w) :
  wpAnyLast P .any ops Q S [] (fuel+1) (upto_ n (n - (fuel+1))) a w:=one_ (upto_ n (n - fuel)) hi hN hc (by simp) h
theorem seqG {n fuel:Nat} {m:Tmp} {oi:Oper} {a:Act} {w:World} {f:FuncId} {fn:Func} {as_:Array Operand} {ts:Array TypeId} (hi:ops[n - (fuel+1)]?=some oi) (hN:oi.dst=some m) (hc:readyB .any ops (upto_ n (n - (fuel+1))) (upto_ n (n - fuel)) (n - (fuel+1))=true)
  (hop:oi.op=.call { callee:=.value (.func f),args:=as_,argTypes:=ts }) (hf:P.funcs[f]?=some fn) (hname:(fn.name == "runtime.NumGoroutine")=false) (hb:fn.body.isSome=true) (args:Array Value) (hw:Region.wanted oi (yielded ops a.tmps)=true) (hargs:as_.map a.eval=args)
  (h:Calls P f args w fun e w'=>∃ v,e=.returned v∧S w'∧(S w'→∃ a',a.put (some m) v=a'∧wpAnyLast P .any ops Q S [] fuel (upto_ n (n - fuel)) a' w')) :
  wpAnyLast P .any ops Q S [] (fuel+1) (upto_ n (n - (fuel+1))) a w:=by
 refine seqC hi hN hc (fun K hK=>goes_ hf hname hb args hw hN hop hargs (h.mono ?_))
 rintro e w' ⟨v,he,hS,hk⟩
 refine ⟨v,he,hK.out _ _ hS (fun hS2=>?_)⟩
 obtain ⟨a',rfl,h2⟩:=hk hS2
 exact h2
theorem seqE {n:Nat} {a:Act} {w:World} (hr:(Region.ready .any ops (upto_ n (n - 0)) == [])=true) (h:Q .normal a w):wpAnyLast P .any ops Q S [] 0 (upto_ n (n - 0)) a w:=done_ hr h
end

/-! confb.inc -/
/-- may a configuration be. -/
def confB (a0 a1:Int) (l2:List Int) (l3:List S95) (a4:Int) (z:ByteArray) (l6:List S93):Bool :=
 decide (2≤a0∧a0≤a1∧a1≤254∧a1 - a0 < 8) && (decide (z.toList≠[]) && (nameB (bytesOf z) && decide ((labelsS z).length≤4))) && (decide (1≤a4∧a4≤1048576) && (hostsB a0 a1 l2 8 && (reservedB a0 a1 l3 && staticsB z l6)))
/-- how long the parts of a configuration may be, that the walks reach. -/
def confFit (l2:List Int) (l3:List S95) (z:ByteArray) (l6:List S93):Prop:=l2.length≤140737488351232∧l3.length≤5864062014805∧z.size≤140737488351232∧l6.length≤140737488351232∧∀ x∈l6,x.f0.size≤140737488351232∧x.f4.size≤140737488351232
instance (l2:List Int) (l3:List S95) (z:ByteArray) (l6:List S93):Decidable (confFit l2 l3 z l6):=by unfold confFit;infer_instance

/-! lease0.inc -/
/-- may a lease's state be so. -/
def stateB (st:Int) (cl nm:ByteArray) (won:Bool):Bool :=
 if st=0∨st=3 then decide (nm.toList=[]) && !won else if st=1 then decide (cl.toList≠[]) && decide (nm.toList=[]) && !won else if st=2 then decide (cl.toList≠[]) && (decide (nm.toList≠[]) || !won) else false
/-- may a lease be. -/
def leaseB (h st:Int) (cl:ByteArray) (un:Int) (nm:ByteArray) (won:Bool):Bool :=
 decide (2≤h∧h≤254) && stateB st cl nm won && decide (cl.size≤16) && decide (0≤un∧un≤1099511627776) && nameB (bytesOf nm)
/-- does a lease hold. -/
def liveB (h st:Int) (cl:ByteArray) (un:Int) (nm:ByteArray) (won:Bool) (now:Int):Bool:=leaseB h st cl un nm won && decide (st≠0) && decide (un > now)
def holdsB (h st:Int) (cl:ByteArray) (un:Int) (nm:ByteArray) (won:Bool) (c:ByteArray) (now:Int):Bool:=liveB h st cl un nm won now && (decide (st≠3) && decide (cl.toList=c.toList))
def boundB (h st:Int) (cl:ByteArray) (un:Int) (nm:ByteArray) (won:Bool) (c:ByteArray) (now:Int):Bool:=holdsB h st cl un nm won c now && decide (st=2)

/-! table0.inc -/
/-- does the host come behind the one ahead. -/
def above (p:Option Int) (h:Int):Bool:=match p with
 | none=>true
 | some q=>decide (q < h)
def leaseOk (x:S44):Bool:=leaseB x.f0 x.f1 x.f2 x.f3 x.f4 x.f5
def goTab:Option Int→List S44→Bool
 | _,[]=>true
 | p,x :: r=>leaseOk x && (above p x.f0 && goTab (some x.f0) r)
/-- may leases be. -/
def tableB (l:List S44):Bool:=goTab none l && decide (l.length≤8)
def tabFit (l:List S44):Prop:=l.length≤140737488351232∧∀ x∈l,x.f4.size≤140737488351232
instance (l:List S44):Decidable (tabFit l):=by unfold tabFit;infer_instance
theorem dropLease (l0:List S44) (i:Int) (h0:0≤i) (h1:i < l0.length):l0.drop i.toNat=rd_T44 l0 i :: l0.drop (i.toNat+1)∧rd_T44 l0 i∈l0:=by
 have h:i.toNat < l0.length:=by omega
 have e:rd_T44 l0 i=l0[i.toNat]:=by
  unfold rd_T44
  rw [List.getD_eq_getElem?_getD,List.getElem?_eq_getElem h]
  rfl
 rw [e,List.drop_eq_getElem_cons h]
 exact ⟨rfl,List.getElem_mem h⟩

/-! leasel.inc -/
def liveX (now:Int) (x:S44):Bool:=liveB x.f0 x.f1 x.f2 x.f3 x.f4 x.f5 now
def holdsX (c:ByteArray) (now:Int) (x:S44):Bool:=holdsB x.f0 x.f1 x.f2 x.f3 x.f4 x.f5 c now
def boundX (c:ByteArray) (now:Int) (x:S44):Bool:=boundB x.f0 x.f1 x.f2 x.f3 x.f4 x.f5 c now
/-- a host's lease. -/
def findL (l:List S44) (h:Int):Option S44:=l.find? fun x=>x.f0 == h
/-- what is told where none is. -/
def gotL (o:Option S44):S44:=o.getD z44
def tabFitR (l:List S44):Prop:=l.length≤140737488351232∧∀ x∈l,x.f4.size≤8796093022000
instance (l:List S44):Decidable (tabFitR l):=by unfold tabFitR;infer_instance

/-! pickmay0.inc -/
def pickFit (l2:List Int) (l3:List S95) (z:ByteArray) (l6:List S93) (ls:List S44):Prop:=confFit l2 l3 z l6∧tabFit ls
instance (l2:List Int) (l3:List S95) (z:ByteArray) (l6:List S93) (ls:List S44):Decidable (pickFit l2 l3 z l6 ls):=by unfold pickFit;infer_instance
/-- may it be asked for a client. -/
def pickMayB (a0_0:Int) (a0_1:Int) (l0_2:List Int) (l0_3:List S95) (a0_4:Int) (a0_5:ByteArray) (l0_6:List S93) (l1:List S44) (a2:Int) (a3:ByteArray):Bool:=confB a0_0 a0_1 l0_2 l0_3 a0_4 a0_5 l0_6 && (tableB l1 && (decide (0≤a2∧a2≤1099511627776) && clientB a3))

/-! confr.inc -/
/-- how long the parts of a configuration may be, that the document's own answer reaches. -/
def confFitR (l2:List Int) (l3:List S95) (z:ByteArray) (l6:List S93):Prop:=l2.length≤140737488351232∧l3.length≤5864062014805∧z.size≤8796093022000∧l6.length≤140737488351232∧∀ x∈l6,x.f0.size≤8796093022000∧x.f4.size≤8796093022000
instance (l2:List Int) (l3:List S95) (z:ByteArray) (l6:List S93):Decidable (confFitR l2 l3 z l6):=by unfold confFitR;infer_instance
theorem rd_take_succ (l:List Int) (i:Nat) (h:i < l.length):l.take (i+1)=l.take i ++ [rd l (i:Int)]:=by
 rw [List.take_succ_eq_append_getElem h]
 unfold rd
 rw [Int.toNat_natCast,List.getD_eq_getElem?_getD,List.getElem?_eq_getElem h]
 rfl
theorem mem_take_rd (l:List Int) (i:Nat) (x:Int) (hx:x∈l.take i):∃ j:Nat,j < i∧j < l.length∧rd l (j:Int)=x:=by
 obtain ⟨j,hj,e⟩:=List.getElem_of_mem hx
 rw [List.length_take] at hj
 rw [List.getElem_take] at e
 refine ⟨j,by omega,by omega,?_⟩
 unfold rd
 rw [Int.toNat_natCast,List.getD_eq_getElem?_getD,List.getElem?_eq_getElem (by omega)]
 exact e
theorem nodup_snoc {α:Type} (l:List α) (x:α) (h:l.Nodup) (hx:x∉l):(l ++ [x]).Nodup:=by
 unfold List.Nodup at h ⊢
 rw [List.pairwise_append]
 refine ⟨h,List.pairwise_singleton _ _,fun a ha b hb=>?_⟩
 rw [List.mem_singleton] at hb
 subst hb
 exact fun e=>hx (e ▸ ha)
theorem not_nodup {α:Type} (l:List α) (i j:Nat) (h:j < i) (hi:i < l.length) (e:l[j]=l[i]):¬ l.Nodup:=fun hn=>by
 unfold List.Nodup at hn
 rw [List.pairwise_iff_getElem] at hn
 exact hn j i (by omega) hi h e

/-! find.inc -/
/-- the first of a row that is so, if it may be asked. -/
def findS (p:S95→Bool) (b:Bool) (l:List S95):Option S95:=if b=true then l.find? p else none
def foundN:Option S95→ByteArray
 | some x=>x.f0
 | none=>⟨#[]⟩
def foundH:Option S95→Int
 | some x=>x.f1
 | none=>0
def foundIs:Option S95→Bool
 | some _=>true
 | none=>false

/-! owner.inc -/
def ownerR (a0 a1:Int) (l2:List Int) (l3:List S95) (a4:Int) (z:ByteArray) (l6:List S93) (host:Int):Option S95:=findS (fun x=>x.f1 == host) (confB a0 a1 l2 l3 a4 z l6) l3
def reservR (a0 a1:Int) (l2:List Int) (l3:List S95) (a4:Int) (z:ByteArray) (l6:List S93) (client:ByteArray):Option S95:=findS (fun x=>x.f0.toList == client.toList) (confB a0 a1 l2 l3 a4 z l6) l3
def usableB (a0 a1:Int) (l2:List Int) (l3:List S95) (a4:Int) (z:ByteArray) (l6:List S93) (host:Int):Bool:=decide (host∉l2) && (confB a0 a1 l2 l3 a4 z l6 && decide (a0≤host∧host≤a1))

/-! ofl.inc -/
/-- the first Live one that is offered or bound to a client. -/
def ofL (ls:List S44) (client:ByteArray) (now:Int):Option S44:=if tableB ls=true then ls.find? (holdsX client now) else none

/-! lent0.inc -/
/-- may a host be lent out to a client. -/
def lentB (a0 a1:Int) (l2:List Int) (l3:List S95) (a4:Int) (z:ByteArray) (l6:List S93) (host:Int) (client:ByteArray):Bool:=usableB a0 a1 l2 l3 a4 z l6 host && (!foundIs (ownerR a0 a1 l2 l3 a4 z l6 host) || decide ((foundN (ownerR a0 a1 l2 l3 a4 z l6 host)).toList=client.toList))
/-- does nobody else hold it. -/
def freeX (client:ByteArray) (now:Int):Option S44→Bool
 | none=>true
 | some x=>!liveX now x || holdsX client now x
/-- may a host be had. -/
def openB (a0 a1:Int) (l2:List Int) (l3:List S95) (a4:Int) (z:ByteArray) (l6:List S93) (ls:List S44) (now:Int) (client:ByteArray) (host:Int):Bool:=lentB a0 a1 l2 l3 a4 z l6 host client && freeX client now (findL ls host)

/-! pick0.inc -/
def hostsL (a b:Int):List Int:=(List.range (b+1 - a).toNat).map fun (i:Nat)=>a+(i:Int)
/-- the first host that is so; 0: none is. -/
def firstH (q:Option S44→Bool) (ls:List S44) (hs:List Int):Int:=(hs.find? fun h=>q (findL ls h)).getD 0
def eldGo (ls:List S44):Int→Int→List Int→Int
 | best,_,[]=>best
 | best,til,h :: r=>if best=0∨(gotL (findL ls h)).f3 < til then eldGo ls h (gotL (findL ls h)).f3 r else eldGo ls best til r
def hadQ (client:ByteArray) (now:Int):Option S44→Bool
 | none=>false
 | some x=>decide (x.f2.toList=client.toList) && !liveX now x
/-- which host a client should have. -/
def pickV (a0 a1:Int) (l2:List Int) (l3:List S95) (a4:Int) (z:ByteArray) (l6:List S93) (ls:List S44) (now:Int) (client:ByteArray) (wanted:Int):Int×Int :=
 match [(gotL (ofL ls client now)).f0,foundH (reservR a0 a1 l2 l3 a4 z l6 client),wanted].find? (openB a0 a1 l2 l3 a4 z l6 ls now client) with
 | some h=>(h,0)
 | none=>match [firstH (hadQ client now) ls ((hostsL a0 a1).filter (openB a0 a1 l2 l3 a4 z l6 ls now client)),firstH Option.isNone ls ((hostsL a0 a1).filter (openB a0 a1 l2 l3 a4 z l6 ls now client)),eldGo ls 0 0 ((hostsL a0 a1).filter (openB a0 a1 l2 l3 a4 z l6 ls now client))].find? (fun h=>decide (h > 0)) with
  | some h=>(h,0)
  | none=>(0,1401)

/-! put0.inc -/
/-- a lease in its place. -/
def putGo (x:S44):Bool→List S44→List S44
 | d,[]=>if d=true then [] else [x]
 | d,y :: r=>(if d=false∧y.f0 ≥ x.f0 then [x] else []) ++ ((if y.f0=x.f0 then [] else [y]) ++ putGo x (d || decide (y.f0 ≥ x.f0)) r)
def putL (l:List S44) (x:S44):List S44:=putGo x false l

/-! offer0.inc -/
/-- a lease that is free, of which the host, the client, the time stay. -/
def freedX (x:S44):S44:=⟨x.f0,0,x.f2,x.f3,⟨#[]⟩,false⟩
/-- those that hold for a client, and are so, are free, but a host's. -/
def dropX (p:S44→Bool) (c:ByteArray) (now but:Int) (x:S44):Bool:=decide (x.f0≠but) && (holdsX c now x && p x)
def dropL (p:S44→Bool) (c:ByteArray) (now but:Int) (ls:List S44):List S44:=ls.map fun x=>if dropX p c now but x=true then freedX x else x
def offeredX (x:S44):Bool:=decide (x.f1=1)
/-- an offer of a host that is picked. -/
def offerGo (c:ByteArray) (now h:Int) (ls:List S44):List S44×Int×Int :=
 if boundX c now (gotL (findL ls h))=true then (dropL offeredX c now h ls,h,0)
 else if (putL (dropL offeredX c now h ls) ⟨h,1,c,now+8,⟨#[]⟩,false⟩).length≤8 then (putL (dropL offeredX c now h ls) ⟨h,1,c,now+8,⟨#[]⟩,false⟩,h,0) else ([],0,1500)
def offerV (a0 a1:Int) (l2:List Int) (l3:List S95) (a4:Int) (z:ByteArray) (l6:List S93) (ls:List S44) (now:Int) (c:ByteArray) (wanted:Int):List S44×Int×Int :=
 if (pickMayB a0 a1 l2 l3 a4 z l6 ls now c && decide (0≤now∧now≤1099510579200))=true then (if (pickV a0 a1 l2 l3 a4 z l6 ls now c wanted).2=0 then offerGo c now (pickV a0 a1 l2 l3 a4 z l6 ls now c wanted).1 ls else ([],0,(pickV a0 a1 l2 l3 a4 z l6 ls now c wanted).2)) else ([],0,1500)

/-! claim0.inc -/
/-- which host is claimed. -/
def claimHost (q0:Bool) (q2 q3:Int):Int:=if q0=true∨q3=0 then q2 else q3
/-- may it be asked so. -/
def reqB (q0:Bool) (q1 q2 q3:Int) (q4:ByteArray):Bool:=nameB (bytesOf q4) && (decide (0≤q1) && (decide (0≤q2) && (decide (0≤q3) && (q0 || decide (q1=0)))))
/-- how a claim is answered. -/
def kindV (q0:Bool) (q1 hh:Int) (lent:Bool) (x:S44) (c:ByteArray) (now:Int):Int :=
 if q0=true then (if q1=167772161 then (if (lent && holdsX c now x)=true then 1 else 2) else 0)
 else if hh=0 then 0 else if lent=false then 2 else if liveX now x=true then (if boundX c now x=true then 1 else 2) else if x.f2.toList=c.toList then 1 else 0
/-- the name behind a claim. -/
def keptN (q4:ByteArray) (x:S44) (c:ByteArray):ByteArray:=if q4.toList=[]∧x.f1=2∧x.f2.toList=c.toList then x.f4 else q4
def boundL (fr:ByteArray→Bool) (hh til:Int) (c nm:ByteArray):S44:=⟨hh,2,c,til,nm,fr nm && decide (nm.toList≠[])⟩
def claimGo (fr:ByteArray→Bool) (a4:Int) (ls:List S44) (now:Int) (c:ByteArray) (hh k:Int) (q0:Bool) (q4:ByteArray):List S44×Int×Int×Int :=
 if k=1 then (putL (dropL (fun _=>true) c now hh ls) (boundL fr hh (now+a4) c (keptN q4 (gotL (findL ls hh)) c)),1,hh,0)
 else if k=0∧q0=true then (dropL offeredX c now 0 ls,0,0,0) else (ls,k,0,0)
def claimV (fr:ByteArray→Bool) (a0 a1:Int) (l2:List Int) (l3:List S95) (a4:Int) (z:ByteArray) (l6:List S93) (ls:List S44) (now:Int) (c:ByteArray) (q0:Bool) (q1 q2 q3:Int) (q4:ByteArray):List S44×Int×Int×Int :=
 if (pickMayB a0 a1 l2 l3 a4 z l6 ls now c && (decide (0≤now∧now≤1099510579200) && reqB q0 q1 q2 q3 q4))=true then
  claimGo fr a4 ls now c (claimHost q0 q2 q3) (kindV q0 q1 (claimHost q0 q2 q3) (lentB a0 a1 l2 l3 a4 z l6 (claimHost q0 q2 q3) c) (gotL (findL ls (claimHost q0 q2 q3))) c now) q0 q4
 else ([],0,0,1700)

/-! regiono.inc -/
/-! a region that draws its order, walked in an order of one's own: what reads or reckons first, then what calls or writes -/
section
variable {P:Program} {ops:Array Oper} {Q:Exit→Act→World→Prop} {S:World→Prop} {T:Bool×List (List Nat×List Nat)} {B:List Nat}
theorem ordS {id:Nat} {a:Act} {w:World} (n:Nat) (hm:P.follows .mixedOrders=true) (hn:ops.size=n) (hl:Array.replicate n false=(List.replicate n false).toArray) (hS:S w.drew)
  (h:S w.drew→wpAnyLast P .any ops Q S [] n (List.replicate n false).toArray a w.drew):(Code.region id ops true).wp P Q a w:=start_ (List.replicate n false).toArray hm hn hl hS h
theorem ordP (HT:Aside0 (rtab .any ops=T)) {fuel:Nat} {l:Array Bool} {m:Tmp} {oi:Oper} {v:Value} {a:Act} {w:World} (i:Nat) (hi:ops[i]?=some oi) (hN:oi.dst=some m) (hc:anyT T l.toList (l.setIfInBounds i true).toList i=true)
  (hQ:∀ c a w,Q (.panic c) (a.put oi.dst v) w→Q (.panic c) a w) (hy:Yields P ops oi v a) {a':Act} (ha:a.put (some m) v=a') (h:wpAnyLast P .any ops Q S [] fuel (l.setIfInBounds i true) a' w) :
  wpAnyLast P .any ops Q S [] (fuel+1) l a w:=pure_ (l.setIfInBounds i true) hi hN (any_of HT.out hc) hQ hy ha h
theorem ordL (HT:Aside0 (rtab .any ops=T)) (HW:Aside0 (waitsOk T.2 B=true)) {fuel:Nat} {l:Array Bool} {m:Tmp} {oi:Oper} {v:Value} {a:Act} {w:World} (i:Nat) (hi:ops[i]?=some oi) (hN:oi.dst=some m) (hc:takeW T B [] l.toList (l.setIfInBounds i true).toList i=true)
  (hQ:∀ c a w,Q (.panic c) (a.put oi.dst v) w→Q (.panic c) a w) (hy:YieldsIf P ops S oi v a) (hS:S w) {a':Act} (ha:a.put (some m) v=a') (h:wpAnyLast P .any ops Q S [] fuel (l.setIfInBounds i true) a' w) :
  wpAnyLast P .any ops Q S [] (fuel+1) l a w:=take_ (l.setIfInBounds i true) hi hN (take_ofW HT.out HW.out hc) hQ hy hS ha h
theorem ordC (HT:Aside0 (rtab .any ops=T)) {fuel:Nat} {l:Array Bool} {N:Option Tmp} {oi:Oper} {a:Act} {w:World} (i:Nat) (hi:ops[i]?=some oi) (hN:oi.dst=N) (hc:(readyT T.2 l.toList == [i] && l.toList.set i true == (l.setIfInBounds i true).toList)=true)
  (h:∀ K:Act→World→Prop,Shut (∀a' w',S w'→(S w'→wpAnyLast P .any ops Q S [] fuel (l.setIfInBounds i true) a' w')→K a' w')→if Region.wanted oi (yielded ops a.tmps)=true then Oper.wp P oi a w K Q else K (a.put N undef) w) :
  wpAnyLast P .any ops Q S [] (fuel+1) l a w:=one_ (l.setIfInBounds i true) hi hN (one_of HT.out hc) (by simp) h
theorem ordG (HT:Aside0 (rtab .any ops=T)) {fuel:Nat} {l:Array Bool} {m:Tmp} {oi:Oper} {a:Act} {w:World} {f:FuncId} {fn:Func} {as_:Array Operand} {ts:Array TypeId} (i:Nat) (hi:ops[i]?=some oi) (hN:oi.dst=some m) (hc:(readyT T.2 l.toList == [i] && l.toList.set i true == (l.setIfInBounds i true).toList)=true)
  (hop:oi.op=.call { callee:=.value (.func f),args:=as_,argTypes:=ts }) (hf:P.funcs[f]?=some fn) (hname:(fn.name == "runtime.NumGoroutine")=false) (hb:fn.body.isSome=true) (args:Array Value) (hw:Region.wanted oi (yielded ops a.tmps)=true) (hargs:as_.map a.eval=args)
  (h:Calls P f args w fun e w'=>∃ v,e=.returned v∧S w'∧(S w'→∃ a',a.put (some m) v=a'∧wpAnyLast P .any ops Q S [] fuel (l.setIfInBounds i true) a' w')) :
  wpAnyLast P .any ops Q S [] (fuel+1) l a w:=by
 refine ordC HT i hi hN hc (fun K hK=>goes_ hf hname hb args hw hN hop hargs (h.mono ?_))
 rintro e w' ⟨v,he,hS,hk⟩
 refine ⟨v,he,hK.out _ _ hS (fun hS2=>?_)⟩
 obtain ⟨a',rfl,h2⟩:=hk hS2
 exact h2
theorem ordE (HT:Aside0 (rtab .any ops=T)) {l:Array Bool} {a:Act} {w:World} (hr:(readyT T.2 l.toList == [])=true) (h:Q .normal a w):wpAnyLast P .any ops Q S [] 0 l a w:=done_ (done_of HT.out hr) h
end

/-! regionq.inc -/
/-! runs of steps of a drawing region: the order lies in the goal -/
section
variable {P:Program} {ops:Array Oper} {Q:Exit→Act→World→Prop} {S:World→Prop} {T:Bool×List (List Nat×List Nat)} {B:List Nat}
def Ord (_:List Nat) (p:Prop):Prop:=p
theorem ordI (is:List Nat) {p:Prop} (h:Ord is p):p:=h
theorem ordN {p:Prop} (h:p):Ord [] p:=h
theorem ordP' (HT:Aside0 (rtab .any ops=T)) {fuel:Nat} {l:Array Bool} {m:Tmp} {oi:Oper} {v:Value} {a:Act} {w:World} {i:Nat} {is:List Nat} (hi:ops[i]?=some oi) (hN:oi.dst=some m) (hc:anyT T l.toList (l.setIfInBounds i true).toList i=true)
  (hQ:∀ c a w,Q (.panic c) (a.put oi.dst v) w→Q (.panic c) a w) (hy:Yields P ops oi v a) {a':Act} (ha:a.put (some m) v=a') (h:Ord is (wpAnyLast P .any ops Q S [] fuel (l.setIfInBounds i true) a' w)) :
  Ord (i :: is) (wpAnyLast P .any ops Q S [] (fuel+1) l a w):=ordP HT i hi hN hc hQ hy ha h
theorem ordL' (HT:Aside0 (rtab .any ops=T)) (HW:Aside0 (waitsOk T.2 B=true)) {fuel:Nat} {l:Array Bool} {m:Tmp} {oi:Oper} {v:Value} {a:Act} {w:World} {i:Nat} {is:List Nat} (hi:ops[i]?=some oi) (hN:oi.dst=some m) (hc:takeW T B [] l.toList (l.setIfInBounds i true).toList i=true)
  (hQ:∀ c a w,Q (.panic c) (a.put oi.dst v) w→Q (.panic c) a w) (hy:YieldsIf P ops S oi v a) (hS:S w) {a':Act} (ha:a.put (some m) v=a') (h:Ord is (wpAnyLast P .any ops Q S [] fuel (l.setIfInBounds i true) a' w)) :
  Ord (i :: is) (wpAnyLast P .any ops Q S [] (fuel+1) l a w):=ordL HT HW i hi hN hc hQ hy hS ha h
end

/-! full0.inc -/
/-- a host's whole name. -/
def fullB (a0 a1:Int) (l2:List Int) (l3:List S95) (a4:Int) (z:ByteArray) (l6:List S93) (h:ByteArray):ByteArray :=
 if (labelsS h).length=1 then (if nameB (bytesOf (h ++ (⟨#[46]⟩:ByteArray) ++ z)) && confB a0 a1 l2 l3 a4 z l6 then h ++ (⟨#[46]⟩:ByteArray) ++ z else ⟨#[]⟩)
 else if h.toList=z.toList∨underB (bytesOf h) (bytesOf z)=false then ⟨#[]⟩ else if nameB (bytesOf h) && confB a0 a1 l2 l3 a4 z l6 then h else ⟨#[]⟩
def fullFit (l2:List Int) (l3:List S95) (z:ByteArray) (l6:List S93) (h:ByteArray):Prop:=confFit l2 l3 z l6∧h.size≤140737488351232
instance (l2:List Int) (l3:List S95) (z:ByteArray) (l6:List S93) (h:ByteArray):Decidable (fullFit l2 l3 z l6 h):=by unfold fullFit;infer_instance

/-! free0.inc -/
/-- does another client hold this name, bound. -/
def heldBy (client:ByteArray) (now:Int) (x:S44):Bool:=x.f5 && (decide (x.f2.toList≠client.toList) && boundB x.f0 x.f1 x.f2 x.f3 x.f4 x.f5 x.f2 now)
def takenS (l6:List S93):List (List UInt8):=l6.map fun x=>x.f0.data.toList
def takenL (F:ByteArray→ByteArray) (client:ByteArray) (now:Int) (ls:List S44):List (List UInt8):=(ls.filter (heldBy client now)).map fun x=>(F x.f4).data.toList
def mayFree (a0 a1:Int) (l2:List Int) (l3:List S95) (a4:Int) (z:ByteArray) (l6:List S93) (ls:List S44) (called:ByteArray):Bool:=confB a0 a1 l2 l3 a4 z l6 && (tableB ls && nameB (bytesOf called))
/-- may a client have a name. -/
def freeB (a0 a1:Int) (l2:List Int) (l3:List S95) (a4:Int) (z:ByteArray) (l6:List S93) (ls:List S44) (now:Int) (client called:ByteArray):Bool :=
 mayFree a0 a1 l2 l3 a4 z l6 ls called && decide ((fullB a0 a1 l2 l3 a4 z l6 called).data.toList∉[] :: takenS l6 ++ takenL (fullB a0 a1 l2 l3 a4 z l6) client now ls)
def freeFit (l2:List Int) (l3:List S95) (z:ByteArray) (l6:List S93) (ls:List S44) (called:ByteArray):Prop:=fullFit l2 l3 z l6 called∧tabFit ls
instance (l2:List Int) (l3:List S95) (z:ByteArray) (l6:List S93) (ls:List S44) (called:ByteArray):Decidable (freeFit l2 l3 z l6 ls called):=by unfold freeFit;infer_instance
theorem fullB_size {a0 a1:Int} {l2:List Int} {l3:List S95} {a4:Int} {z:ByteArray} {l6:List S93} {h:ByteArray} (hf:h.size≤140737488351232) (hz:z.size≤140737488351232):(fullB a0 a1 l2 l3 a4 z l6 h).size≤maxLen:=by
 have s1:(h ++ (⟨#[46]⟩:ByteArray) ++ z).size=h.size+1+z.size:=by rw [ByteArray.size_append,ByteArray.size_append];rfl
 have s0:(⟨#[]⟩:ByteArray).size=0:=rfl
 unfold fullB maxLen
 repeat' split
 all_goals omega
theorem table_len {l:List S44} (h:tableB l=true):l.length≤8:=by
 unfold tableB at h
 rw [Bool.and_eq_true,decide_eq_true_eq] at h
 exact h.2
theorem conf_len6 {a0 a1:Int} {l2:List Int} {l3:List S95} {a4:Int} {z:ByteArray} {l6:List S93} (h:confB a0 a1 l2 l3 a4 z l6=true):l6.length≤8:=by
 unfold confB staticsB at h
 simp only [Bool.and_eq_true,decide_eq_true_eq] at h
 omega

/-! ret4.inc -/
theorem results_tmp4 {fn:Func} {t u v x:Tmp} (h:fn.results=#[.tmp t,.tmp u,.tmp v,.tmp x]) (tmps:Array Value) (P:Program) (w:World) :
  (results fn tmps).run P w=.ok (.tuple #[tmps.getD t undef,tmps.getD u undef,tmps.getD v undef,tmps.getD x undef]) w:=by
 simp [results,h]

/-! confbounds.inc -/
theorem conf_bounds {a0 a1:Int} {l2:List Int} {l3:List S95} {a4:Int} {z:ByteArray} {l6:List S93} (h:confB a0 a1 l2 l3 a4 z l6=true):2≤a0∧a0≤a1∧a1≤254∧a1 - a0 < 8:=by
 unfold confB at h
 simp only [Bool.and_eq_true,decide_eq_true_eq] at h
 exact h.1.1

/-! pickfacts.inc -/
section
variable {a0 a1:Int} {l2:List Int} {l3:List S95} {a4:Int} {z:ByteArray} {l6:List S93} {ls:List S44} {now:Int} {c:ByteArray}
theorem open_in {h:Int} (e:openB a0 a1 l2 l3 a4 z l6 ls now c h=true):a0≤h∧h≤a1∧confB a0 a1 l2 l3 a4 z l6=true:=by
 unfold openB lentB usableB at e
 simp only [Bool.and_eq_true,decide_eq_true_eq] at e
 exact ⟨e.1.1.2.2.1,e.1.1.2.2.2,e.1.1.2.1⟩
theorem mem_hosts (a b h:Int):h∈hostsL a b ↔ a≤h∧h≤b:=by
 unfold hostsL
 rw [List.mem_map]
 constructor
 ·rintro ⟨i,hi,rfl⟩
  rw [List.mem_range] at hi
  omega
 ·rintro ⟨h1,h2⟩
  exact ⟨(h - a).toNat,List.mem_range.2 (by omega),by omega⟩
theorem mem_open {h:Int}:h∈(hostsL a0 a1).filter (openB a0 a1 l2 l3 a4 z l6 ls now c) ↔ openB a0 a1 l2 l3 a4 z l6 ls now c h=true:=by
 rw [List.mem_filter]
 constructor
 ·exact fun e=>e.2
 ·intro e
  have:=open_in e
  exact ⟨(mem_hosts a0 a1 h).2 ⟨this.1,this.2.1⟩,e⟩
theorem eld_mem (ls:List S44):∀ (L:List Int) (best til:Int),eldGo ls best til L=best∨eldGo ls best til L∈L
 | [],best,til=>.inl rfl
 | h :: r,best,til=>by
  unfold eldGo
  split
  ·rcases eld_mem ls r h (gotL (findL ls h)).f3 with e|e
   ·rw [e]
    exact .inr List.mem_cons_self
   ·exact .inr (List.mem_cons_of_mem _ e)
  ·rcases eld_mem ls r best til with e|e
   ·exact .inl e
   ·exact .inr (List.mem_cons_of_mem _ e)
theorem eld_some (ls:List S44) (L:List Int) (til:Int) (hl:L≠[]):eldGo ls 0 til L∈L:=by
 cases L with
 | nil=>exact absurd rfl hl
 | cons h r =>
  unfold eldGo
  rw [if_pos (.inl rfl)]
  rcases eld_mem ls r h (gotL (findL ls h)).f3 with e|e
  ·rw [e]
   exact List.mem_cons_self
  ·exact List.mem_cons_of_mem _ e
theorem first_mem (q:Option S44→Bool) (ls:List S44) (L:List Int):firstH q ls L=0∨firstH q ls L∈L:=by
 unfold firstH
 cases e:L.find? (fun h=>q (findL ls h)) with
 | none=>exact .inl rfl
 | some h=>exact .inr (List.mem_of_find?_eq_some e)
/-- what is picked where one has nothing, and what is wanted is not open. -/
def restV (a0 a1:Int) (l2:List Int) (l3:List S95) (a4:Int) (z:ByteArray) (l6:List S93) (ls:List S44) (now:Int) (client:ByteArray):Int×Int:=match [firstH (hadQ client now) ls ((hostsL a0 a1).filter (openB a0 a1 l2 l3 a4 z l6 ls now client)),firstH Option.isNone ls ((hostsL a0 a1).filter (openB a0 a1 l2 l3 a4 z l6 ls now client)),eldGo ls 0 0 ((hostsL a0 a1).filter (openB a0 a1 l2 l3 a4 z l6 ls now client))].find? (fun h=>decide (h > 0)) with
  | some h=>(h,0)
  | none=>(0,1401)
theorem rest_ok (hc:2≤a0):(∃h,restV a0 a1 l2 l3 a4 z l6 ls now c=(h,0)∧openB a0 a1 l2 l3 a4 z l6 ls now c h=true)∨(restV a0 a1 l2 l3 a4 z l6 ls now c=(0,1401)∧∀ h,openB a0 a1 l2 l3 a4 z l6 ls now c h=false):=by
 have hmo:=fun h=>@mem_open a0 a1 l2 l3 a4 z l6 ls now c h
 have hin:=fun h (e:openB a0 a1 l2 l3 a4 z l6 ls now c h=true)=>open_in e
 unfold restV
 generalize (hostsL a0 a1).filter (openB a0 a1 l2 l3 a4 z l6 ls now c)=O at hmo
 by_cases hO:O=[]
 ·right
  subst hO
  refine ⟨rfl,fun h=>?_⟩
  cases e:openB a0 a1 l2 l3 a4 z l6 ls now c h with
  | false=>rfl
  | true=>exact absurd ((hmo h).2 e) (by simp)
 ·left
  have he:=eld_some ls O 0 hO
  have hf1:=first_mem (hadQ c now) ls O
  have hf2:=first_mem Option.isNone ls O
  have hpos:∀ h∈O,h > 0:=fun h hh=>by have:=hin h ((hmo h).1 hh);omega
  generalize firstH (hadQ c now) ls O=x at hf1
  generalize firstH Option.isNone ls O=y at hf2
  generalize eldGo ls 0 0 O=w at he
  cases hfd:[x,y,w].find? (fun h=>decide (h > 0)) with
  | none =>
   have:=List.find?_eq_none.1 hfd w (by simp)
   exact absurd (hpos w he) (by simpa using this)
  | some h =>
   have hp:h > 0:=by simpa using List.find?_some hfd
   have hm:=List.mem_of_find?_eq_some hfd
   simp only [List.mem_cons,List.not_mem_nil,or_false] at hm
   refine ⟨h,rfl,(hmo h).1 ?_⟩
   rcases hm with e|e|e
   ·subst e
    rcases hf1 with e|e
    ·omega
    ·exact e
   ·subst e
    rcases hf2 with e|e
    ·omega
    ·exact e
   ·subst e
    exact he
theorem pick_parts (wanted:Int):pickV a0 a1 l2 l3 a4 z l6 ls now c wanted=if openB a0 a1 l2 l3 a4 z l6 ls now c (gotL (ofL ls c now)).f0=true then ((gotL (ofL ls c now)).f0,0) else if openB a0 a1 l2 l3 a4 z l6 ls now c (foundH (reservR a0 a1 l2 l3 a4 z l6 c))=true then (foundH (reservR a0 a1 l2 l3 a4 z l6 c),0) else if openB a0 a1 l2 l3 a4 z l6 ls now c wanted=true then (wanted,0) else restV a0 a1 l2 l3 a4 z l6 ls now c:=by
 unfold pickV restV
 generalize (gotL (ofL ls c now)).f0=x
 generalize foundH (reservR a0 a1 l2 l3 a4 z l6 c)=y
 rw [List.find?_cons]
 cases openB a0 a1 l2 l3 a4 z l6 ls now c x with
 | true=>rfl
 | false =>
  rw [if_neg (by decide),List.find?_cons]
  cases openB a0 a1 l2 l3 a4 z l6 ls now c y with
  | true=>rfl
  | false =>
   rw [if_neg (by decide),List.find?_cons]
   cases openB a0 a1 l2 l3 a4 z l6 ls now c wanted with
   | true=>rfl
   | false=>rfl
theorem may_parts (h:pickMayB a0 a1 l2 l3 a4 z l6 ls now c=true):2≤a0∧a1≤254∧confB a0 a1 l2 l3 a4 z l6=true∧tableB ls=true∧(0≤now∧now≤1099511627776)∧clientB c=true:=by
 unfold pickMayB at h
 simp only [Bool.and_eq_true,decide_eq_true_eq] at h
 have hb:=conf_bounds h.1
 exact ⟨hb.1,hb.2.2.1,h.1,h.2.1,h.2.2.1,h.2.2.2⟩
end
/-- what is picked is open; nothing is picked just if nothing is open. -/
theorem pick_told {a0 a1:Int} {l2:List Int} {l3:List S95} {a4:Int} {z:ByteArray} {l6:List S93} (ls:List S44) (now:Int) (c:ByteArray) (wanted h e:Int) (hM:pickMayB a0 a1 l2 l3 a4 z l6 ls now c=true) (hv:pickV a0 a1 l2 l3 a4 z l6 ls now c wanted=(h,e)) :
  (e=0∧openB a0 a1 l2 l3 a4 z l6 ls now c h=true∧a0≤h∧h≤a1)∨(e=1401∧h=0∧∀ x,openB a0 a1 l2 l3 a4 z l6 ls now c x=false):=by
 have hb:=(may_parts hM).1
 have yes:∀ x,openB a0 a1 l2 l3 a4 z l6 ls now c x=true→(x,(0:Int))=(h,e)→(e=0∧openB a0 a1 l2 l3 a4 z l6 ls now c h=true∧a0≤h∧h≤a1):=by
  intro x hx hxe
  obtain ⟨rfl,rfl⟩:=Prod.mk.inj hxe
  have:=open_in hx
  exact ⟨rfl,hx,this.1,this.2.1⟩
 rw [pick_parts] at hv
 by_cases q1:openB a0 a1 l2 l3 a4 z l6 ls now c (gotL (ofL ls c now)).f0=true
 ·rw [if_pos q1] at hv
  exact .inl (yes _ q1 hv)
 rw [if_neg q1] at hv
 by_cases q2:openB a0 a1 l2 l3 a4 z l6 ls now c (foundH (reservR a0 a1 l2 l3 a4 z l6 c))=true
 ·rw [if_pos q2] at hv
  exact .inl (yes _ q2 hv)
 rw [if_neg q2] at hv
 by_cases q3:openB a0 a1 l2 l3 a4 z l6 ls now c wanted=true
 ·rw [if_pos q3] at hv
  exact .inl (yes _ q3 hv)
 rw [if_neg q3] at hv
 rcases rest_ok (a0:=a0) (a1:=a1) (l2:=l2) (l3:=l3) (a4:=a4) (z:=z) (l6:=l6) (ls:=ls) (now:=now) (c:=c) hb with ⟨x,hx,hx2⟩|⟨hx,hx2⟩
 ·exact .inl (yes x hx2 (hx.symm.trans hv))
 ·obtain ⟨rfl,rfl⟩:=Prod.mk.inj (hx.symm.trans hv)
  exact .inr ⟨rfl,rfl,hx2⟩

/-! drop0.inc -/
/-- what a host's lease becomes. -/
def thenL (p:S44→Bool) (ls:List S44) (host:Int) (t:S44):S44:=match findL ls host with
 | some x=>if p x=true then ⟨host,t.f1,t.f2,t.f3,t.f4,t.f5⟩ else x
 | none=>z44
def swapL (ls:List S44) (host:Int) (y:S44):List S44:=ls.map fun x=>if x.f0=host then y else x

/-! tabsort.inc -/
theorem goTab_sorted:∀ (l:List S44) (p:Option Int),goTab p l=true→(∀x∈l,leaseOk x=true)∧l.Pairwise (fun a b=>a.f0 < b.f0)∧∀ q,p=some q→∀ x∈l,q < x.f0
 | [],p,_=>⟨fun _ h=>by simp at h,List.Pairwise.nil,fun _ _ _ h=>by simp at h⟩
 | x :: r,p,h=>by
  unfold goTab at h
  rw [Bool.and_eq_true,Bool.and_eq_true] at h
  obtain ⟨h1,h2,h3⟩:=h
  obtain ⟨i1,i2,i3⟩:=goTab_sorted r (some x.f0) h3
  have i4:=i3 x.f0 rfl
  refine ⟨fun y hy=>?_,List.pairwise_cons.2 ⟨i4,i2⟩,fun q hq y hy=>?_⟩
  ·rcases List.mem_cons.1 hy with e|hy
   ·rw [e]
    exact h1
   ·exact i1 y hy
  ·subst hq
   have hx:q < x.f0:=of_decide_eq_true h2
   rcases List.mem_cons.1 hy with e|hy
   ·rw [e]
    exact hx
   ·have:=i4 y hy
    omega
theorem table_sorted {l:List S44} (h:tableB l=true):(∀x∈l,leaseOk x=true)∧l.Pairwise (fun a b=>a.f0 < b.f0)∧l.length≤8:=by
 unfold tableB at h
 rw [Bool.and_eq_true,decide_eq_true_eq] at h
 exact ⟨(goTab_sorted l none h.1).1,(goTab_sorted l none h.1).2.1,h.2⟩
/-- hosts stand once. -/
theorem host_once:∀ {l:List S44},l.Pairwise (fun a b=>a.f0 < b.f0)→∀ x∈l,∀y∈l,x.f0=y.f0→x=y
 | [],_,x,hx,_,_,_=>by simp at hx
 | a :: r,h,x,hx,y,hy,e=>by
  obtain ⟨h1,h2⟩:=List.pairwise_cons.1 h
  rcases List.mem_cons.1 hx with hx1|hx1
  ·rcases List.mem_cons.1 hy with hy1|hy1
   ·rw [hx1,hy1]
   ·have:=h1 y hy1
    rw [hx1] at e
    omega
  ·rcases List.mem_cons.1 hy with hy1|hy1
   ·have:=h1 x hx1
    rw [hy1] at e
    omega
   ·exact host_once h2 x hx1 y hy1 e
theorem put_done:∀ (l:List S44) (y:S44),(∀x∈l,x.f0≠y.f0)→putGo y true l=l
 | [],y,_=>rfl
 | x :: r,y,h=>by
  unfold putGo
  rw [if_neg (by simp),if_neg (h x List.mem_cons_self),Bool.true_or,put_done r y (fun z hz=>h z (List.mem_cons_of_mem _ hz))]
  rfl
/-- a lease in the place of another one of the same host. -/
theorem put_swap:∀ (l:List S44) (y:S44),l.Pairwise (fun a b=>a.f0 < b.f0)→(∃x∈l,x.f0=y.f0)→putGo y false l=swapL l y.f0 y
 | [],y,_,⟨x,hx,_⟩=>by simp at hx
 | x :: r,y,h,⟨x',hx',e'⟩=>by
  obtain ⟨h1,h2⟩:=List.pairwise_cons.1 h
  unfold putGo swapL
  rw [List.map_cons]
  by_cases q:x.f0=y.f0
  ·rw [if_pos ⟨rfl,by omega⟩,if_pos q,if_pos q,decide_eq_true (by omega),Bool.or_true]
   have hr:∀ z∈r,z.f0≠y.f0:=fun z hz=>by have:=h1 z hz;omega
   rw [put_done r y hr]
   have hm:r.map (fun x=>if x.f0=y.f0 then y else x)=r:=(List.map_congr_left (g:=id) (fun z hz=>if_neg (hr z hz)):r.map (fun x=>if x.f0=y.f0 then y else x)=r.map id).trans (List.map_id r)
   rw [hm]
   rfl
  ·have hr:x'∈r:=by
    rcases List.mem_cons.1 hx' with e|e
    ·rw [e] at e'
     exact absurd e' q
    ·exact e
   have hlt:=h1 x' hr
   rw [if_neg (by omega),if_neg q,if_neg q,decide_eq_false (by omega),Bool.or_false,put_swap r y h2 ⟨x',hr,e'⟩]
   rfl
theorem swap_id (l:List S44) (host:Int) (y:S44) (h:∀ x∈l,x.f0=host→x=y):swapL l host y=l:=by
 have hm:l.map (fun x=>if x.f0=host then y else x)=l.map id:=List.map_congr_left (fun z hz=>by
  by_cases e:z.f0=host
  ·rw [if_pos e,h z hz e]
   rfl
  ·rw [if_neg e]
   rfl)
 exact hm.trans (List.map_id l)
theorem find_some {l:List S44} {h:Int} {x:S44} (e:findL l h=some x):x∈l∧x.f0=h:=by
 unfold findL at e
 refine ⟨List.mem_of_find?_eq_some e,?_⟩
 have:=List.find?_some e
 simpa using this
theorem find_none {l:List S44} {h:Int} (e:findL l h=none):∀ x∈l,x.f0≠h:=fun x hx=>by
 unfold findL at e
 have:=List.find?_eq_none.1 e x hx
 simpa using this

end Go.Proofs.YtibalpbkmgegnaaGreatDoor.PL
