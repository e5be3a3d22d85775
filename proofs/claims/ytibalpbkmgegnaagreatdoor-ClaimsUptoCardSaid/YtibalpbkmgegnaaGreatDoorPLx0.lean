-- Made by wip/pr.py out of the translation (a turned copy of the kit's print; contracts by hand where said).
import Derived.Test.YtibalpbkmgegnaaGreatDoorProg
import Derived.Below
import Derived.Deep.Draws
import Derived.Deep.AppendLies
import Derived.Maps.AppendAt
import Derived.OwnWalk
import Derived.Laws.BytesArg
import Derived.Laws.MakeOwn
import Derived.Laws.OwnMore
import Derived.Deep.OwnRows
import Derived.Tactics
import Derived.Lib.ConvBytes
import Derived.Laws.Slices
import Derived.WalkKit
import Derived.KernelRfl
import Derived.RowKit3
import Derived.Deep.LoopGhost
import Derived.Deep.QuietTactic
import Derived.BigQuiet
import Derived.WideLaws
import Derived.Deep.DeepCutAuto
import Derived.Deep.CutBlock
import Derived.Deep.RegionHeld3
import Derived.Laws.Rows
import Derived.Lib.AppendStr
import Derived.ArgAppend
import Derived.Laws.IdiomCopy
import Derived.OrdersHeld
import Derived.Laws.BitsLemmas
import Derived.RowKit
import Derived.Lib.Bytealg
import Derived.Maps.OwnSet
import Derived.BigRegion
import Derived.Lib.Split
import Derived.Shelf.Abstract
import Derived.Shelf.SlSortCmp.InsertionK
import Derived.Test.YtibalpbkmgegnaaGreatDoorVL
namespace Go.Proofs.YtibalpbkmgegnaaGreatDoor.PL
open Go.RowKit Go.Proofs.YtibalpbkmgegnaaGreatDoorW.PrintWords Go.Proofs.YtibalpbkmgegnaaGreatDoorW.PrintLast Go.Proofs.YtibalpbkmgegnaaGreatDoorW.PrintMore
-- shrunk
attribute [local go_sem] max2_int min2_int max_two min_two max_three min_three max_four min_four   -- for this text's walks alone
set_option linter.unusedVariables false
set_option linter.unusedSimpArgs false



def errW:Option Int→Value
 | none=>.nilIface
 | some c=>.iface 0 (.int .i64 c)
theorem errW_none:errW none=.nilIface:=rfl
theorem errW_some (c:Int):errW (some c)=.iface 0 (.int .i64 c):=rfl

theorem info3:(Tryz.prog.info? 3).map (fun i=>(i.zero,i.size,i.bytes))=some (some (.int .i64 0),1,8):=by kernel_rfl
theorem info9:(Tryz.prog.info? 9).map (fun i=>(i.zero,i.size,i.bytes))=some (some (.string ⟨#[]⟩),1,16):=by kernel_rfl
theorem info44:(Tryz.prog.info? 44).map (fun i=>(i.zero,i.size,i.bytes))=some (some (.agg #[(.int .i64 0),(.int .i64 0),(.string ⟨#[]⟩),(.int .i64 0),(.string ⟨#[]⟩),(.bool false)]),6,64):=by kernel_rfl
theorem info93:(Tryz.prog.info? 93).map (fun i=>(i.zero,i.size,i.bytes))=some (some (.agg #[(.string ⟨#[]⟩),(.int .i64 0),(.int .i64 0),(.int .i64 0),(.string ⟨#[]⟩),(.string ⟨#[]⟩),(.int .i64 0)]),7,80):=by kernel_rfl
theorem info95:(Tryz.prog.info? 95).map (fun i=>(i.zero,i.size,i.bytes))=some (some (.agg #[(.string ⟨#[]⟩),(.int .i64 0)]),2,24):=by kernel_rfl
-- the values' own types
/-! #### struct type 95 -/
structure S95 where
 f0:ByteArray
 f1:Int
def z95:S95:=⟨(⟨#[]⟩:ByteArray),(0:Int)⟩
def k95:Kd S95:=Kd.iso (Kd.pair Kd.string (Kd.int .i64)) (fun x:S95=>(x.f0,x.f1))
theorem k95_open {w:World} {x:S95} {cs:List Value} (h:k95.K w x cs):cs=[.string x.f0,.int .i64 x.f1]:=by
 obtain ⟨_,_,rfl,rfl,rfl⟩:=h
 exact rfl
theorem k95_openM {w:World} {base:Nat} {ok:Nat→Prop} {x:S95} {cs:List Value} (h:k95.M w base ok x cs):cs=[.string x.f0,.int .i64 x.f1]:=by
 obtain ⟨_,_,rfl,rfl,rfl⟩:=h
 exact rfl
theorem k95_mk (w:World) (x:S95)  : k95.K w x [.string x.f0,.int .i64 x.f1]:=⟨[.string x.f0],[.int .i64 x.f1],rfl,rfl,rfl⟩
theorem k95_mkM (w:World) (base:Nat) (ok:Nat→Prop) (x:S95)  : k95.M w base ok x [.string x.f0,.int .i64 x.f1]:=⟨[.string x.f0],[.int .i64 x.f1],rfl,rfl,rfl⟩
def rd_T95 (xs:List S95) (i:Int):S95:=xs.getD i.toNat z95
theorem at_T95 {w:World} {A:Option Addr} {n:Nat} {xs:List S95} (h:Kd.C k95 w A n xs) (i:Int) (h0:0≤i) (h1:i < n):∃ ad ,A=some ad∧w.cell? (ad.add (i.toNat * 2))=some (.string (rd_T95 xs i).f0)∧w.cell? ⟨(ad.add (i.toNat * 2)).block,(ad.add (i.toNat * 2)).off+1,none⟩=some (.int .i64 (rd_T95 xs i).f1):=by
 obtain ⟨ad,c,e,_,hK,hc0⟩:=Kd.C_get h z95 i h0 h1
 have hc:∀ j u,c[j]?=some u→w.cell? (ad.add (i.toNat * 2+j))=some u:=hc0
 obtain rfl:=k95_open hK
 exact ⟨ad,e,hc 0 _ rfl,by rw [←add_field _ _ 1 (by omega)];exact hc 1 _ rfl⟩

/-! #### struct type 93 -/
structure S93 where
 f0:ByteArray
 f1:Int
 f2:Int
 f3:Int
 f4:ByteArray
 f5:ByteArray
 f6:Int
def z93:S93:=⟨(⟨#[]⟩:ByteArray),(0:Int),(0:Int),(0:Int),(⟨#[]⟩:ByteArray),(⟨#[]⟩:ByteArray),(0:Int)⟩
def k93:Kd S93:=Kd.iso (Kd.pair Kd.string (Kd.pair (Kd.int .i64) (Kd.pair (Kd.int .i64) (Kd.pair (Kd.int .i64) (Kd.pair Kd.string (Kd.pair Kd.string (Kd.int .i64))))))) (fun x:S93=>(x.f0,x.f1,x.f2,x.f3,x.f4,x.f5,x.f6))
theorem k93_open {w:World} {x:S93} {cs:List Value} (h:k93.K w x cs):cs=[.string x.f0,.int .i64 x.f1,.int .i64 x.f2,.int .i64 x.f3,.string x.f4,.string x.f5,.int .i64 x.f6]:=by
 obtain ⟨_,_,rfl,rfl,⟨_,_,rfl,rfl,⟨_,_,rfl,rfl,⟨_,_,rfl,rfl,⟨_,_,rfl,rfl,⟨_,_,rfl,rfl,rfl⟩⟩⟩⟩⟩⟩:=h
 exact rfl
theorem k93_openM {w:World} {base:Nat} {ok:Nat→Prop} {x:S93} {cs:List Value} (h:k93.M w base ok x cs):cs=[.string x.f0,.int .i64 x.f1,.int .i64 x.f2,.int .i64 x.f3,.string x.f4,.string x.f5,.int .i64 x.f6]:=by
 obtain ⟨_,_,rfl,rfl,⟨_,_,rfl,rfl,⟨_,_,rfl,rfl,⟨_,_,rfl,rfl,⟨_,_,rfl,rfl,⟨_,_,rfl,rfl,rfl⟩⟩⟩⟩⟩⟩:=h
 exact rfl
theorem k93_mk (w:World) (x:S93)  : k93.K w x [.string x.f0,.int .i64 x.f1,.int .i64 x.f2,.int .i64 x.f3,.string x.f4,.string x.f5,.int .i64 x.f6]:=⟨[.string x.f0],[.int .i64 x.f1,.int .i64 x.f2,.int .i64 x.f3,.string x.f4,.string x.f5,.int .i64 x.f6],rfl,rfl,⟨[.int .i64 x.f1],[.int .i64 x.f2,.int .i64 x.f3,.string x.f4,.string x.f5,.int .i64 x.f6],rfl,rfl,⟨[.int .i64 x.f2],[.int .i64 x.f3,.string x.f4,.string x.f5,.int .i64 x.f6],rfl,rfl,⟨[.int .i64 x.f3],[.string x.f4,.string x.f5,.int .i64 x.f6],rfl,rfl,⟨[.string x.f4],[.string x.f5,.int .i64 x.f6],rfl,rfl,⟨[.string x.f5],[.int .i64 x.f6],rfl,rfl,rfl⟩⟩⟩⟩⟩⟩
theorem k93_mkM (w:World) (base:Nat) (ok:Nat→Prop) (x:S93)  : k93.M w base ok x [.string x.f0,.int .i64 x.f1,.int .i64 x.f2,.int .i64 x.f3,.string x.f4,.string x.f5,.int .i64 x.f6]:=⟨[.string x.f0],[.int .i64 x.f1,.int .i64 x.f2,.int .i64 x.f3,.string x.f4,.string x.f5,.int .i64 x.f6],rfl,rfl,⟨[.int .i64 x.f1],[.int .i64 x.f2,.int .i64 x.f3,.string x.f4,.string x.f5,.int .i64 x.f6],rfl,rfl,⟨[.int .i64 x.f2],[.int .i64 x.f3,.string x.f4,.string x.f5,.int .i64 x.f6],rfl,rfl,⟨[.int .i64 x.f3],[.string x.f4,.string x.f5,.int .i64 x.f6],rfl,rfl,⟨[.string x.f4],[.string x.f5,.int .i64 x.f6],rfl,rfl,⟨[.string x.f5],[.int .i64 x.f6],rfl,rfl,rfl⟩⟩⟩⟩⟩⟩
def rd_T93 (xs:List S93) (i:Int):S93:=xs.getD i.toNat z93
theorem at_T93 {w:World} {A:Option Addr} {n:Nat} {xs:List S93} (h:Kd.C k93 w A n xs) (i:Int) (h0:0≤i) (h1:i < n):∃ ad ,A=some ad∧w.cell? (ad.add (i.toNat * 7))=some (.string (rd_T93 xs i).f0)∧w.cell? ⟨(ad.add (i.toNat * 7)).block,(ad.add (i.toNat * 7)).off+1,none⟩=some (.int .i64 (rd_T93 xs i).f1)∧w.cell? ⟨(ad.add (i.toNat * 7)).block,(ad.add (i.toNat * 7)).off+2,none⟩=some (.int .i64 (rd_T93 xs i).f2)∧w.cell? ⟨(ad.add (i.toNat * 7)).block,(ad.add (i.toNat * 7)).off+3,none⟩=some (.int .i64 (rd_T93 xs i).f3)∧w.cell? ⟨(ad.add (i.toNat * 7)).block,(ad.add (i.toNat * 7)).off+4,none⟩=some (.string (rd_T93 xs i).f4)∧w.cell? ⟨(ad.add (i.toNat * 7)).block,(ad.add (i.toNat * 7)).off+5,none⟩=some (.string (rd_T93 xs i).f5)∧w.cell? ⟨(ad.add (i.toNat * 7)).block,(ad.add (i.toNat * 7)).off+6,none⟩=some (.int .i64 (rd_T93 xs i).f6):=by
 obtain ⟨ad,c,e,_,hK,hc0⟩:=Kd.C_get h z93 i h0 h1
 have hc:∀ j u,c[j]?=some u→w.cell? (ad.add (i.toNat * 7+j))=some u:=hc0
 obtain rfl:=k93_open hK
 exact ⟨ad,e,hc 0 _ rfl,by rw [←add_field _ _ 1 (by omega)];exact hc 1 _ rfl,by rw [←add_field _ _ 2 (by omega)];exact hc 2 _ rfl,by rw [←add_field _ _ 3 (by omega)];exact hc 3 _ rfl,by rw [←add_field _ _ 4 (by omega)];exact hc 4 _ rfl,by rw [←add_field _ _ 5 (by omega)];exact hc 5 _ rfl,by rw [←add_field _ _ 6 (by omega)];exact hc 6 _ rfl⟩

/-! #### struct type 44 -/
structure S44 where
 f0:Int
 f1:Int
 f2:ByteArray
 f3:Int
 f4:ByteArray
 f5:Bool
def z44:S44:=⟨(0:Int),(0:Int),(⟨#[]⟩:ByteArray),(0:Int),(⟨#[]⟩:ByteArray),false⟩
def k44:Kd S44:=Kd.iso (Kd.pair (Kd.int .i64) (Kd.pair (Kd.int .i64) (Kd.pair Kd.string (Kd.pair (Kd.int .i64) (Kd.pair Kd.string Kd.bool))))) (fun x:S44=>(x.f0,x.f1,x.f2,x.f3,x.f4,x.f5))
theorem k44_open {w:World} {x:S44} {cs:List Value} (h:k44.K w x cs):cs=[.int .i64 x.f0,.int .i64 x.f1,.string x.f2,.int .i64 x.f3,.string x.f4,.bool x.f5]:=by
 obtain ⟨_,_,rfl,rfl,⟨_,_,rfl,rfl,⟨_,_,rfl,rfl,⟨_,_,rfl,rfl,⟨_,_,rfl,rfl,rfl⟩⟩⟩⟩⟩:=h
 exact rfl
theorem k44_openM {w:World} {base:Nat} {ok:Nat→Prop} {x:S44} {cs:List Value} (h:k44.M w base ok x cs):cs=[.int .i64 x.f0,.int .i64 x.f1,.string x.f2,.int .i64 x.f3,.string x.f4,.bool x.f5]:=by
 obtain ⟨_,_,rfl,rfl,⟨_,_,rfl,rfl,⟨_,_,rfl,rfl,⟨_,_,rfl,rfl,⟨_,_,rfl,rfl,rfl⟩⟩⟩⟩⟩:=h
 exact rfl
theorem k44_mk (w:World) (x:S44)  : k44.K w x [.int .i64 x.f0,.int .i64 x.f1,.string x.f2,.int .i64 x.f3,.string x.f4,.bool x.f5]:=⟨[.int .i64 x.f0],[.int .i64 x.f1,.string x.f2,.int .i64 x.f3,.string x.f4,.bool x.f5],rfl,rfl,⟨[.int .i64 x.f1],[.string x.f2,.int .i64 x.f3,.string x.f4,.bool x.f5],rfl,rfl,⟨[.string x.f2],[.int .i64 x.f3,.string x.f4,.bool x.f5],rfl,rfl,⟨[.int .i64 x.f3],[.string x.f4,.bool x.f5],rfl,rfl,⟨[.string x.f4],[.bool x.f5],rfl,rfl,rfl⟩⟩⟩⟩⟩
theorem k44_mkM (w:World) (base:Nat) (ok:Nat→Prop) (x:S44)  : k44.M w base ok x [.int .i64 x.f0,.int .i64 x.f1,.string x.f2,.int .i64 x.f3,.string x.f4,.bool x.f5]:=⟨[.int .i64 x.f0],[.int .i64 x.f1,.string x.f2,.int .i64 x.f3,.string x.f4,.bool x.f5],rfl,rfl,⟨[.int .i64 x.f1],[.string x.f2,.int .i64 x.f3,.string x.f4,.bool x.f5],rfl,rfl,⟨[.string x.f2],[.int .i64 x.f3,.string x.f4,.bool x.f5],rfl,rfl,⟨[.int .i64 x.f3],[.string x.f4,.bool x.f5],rfl,rfl,⟨[.string x.f4],[.bool x.f5],rfl,rfl,rfl⟩⟩⟩⟩⟩
def rd_T44 (xs:List S44) (i:Int):S44:=xs.getD i.toNat z44
theorem at_T44 {w:World} {A:Option Addr} {n:Nat} {xs:List S44} (h:Kd.C k44 w A n xs) (i:Int) (h0:0≤i) (h1:i < n):∃ ad ,A=some ad∧w.cell? (ad.add (i.toNat * 6))=some (.int .i64 (rd_T44 xs i).f0)∧w.cell? ⟨(ad.add (i.toNat * 6)).block,(ad.add (i.toNat * 6)).off+1,none⟩=some (.int .i64 (rd_T44 xs i).f1)∧w.cell? ⟨(ad.add (i.toNat * 6)).block,(ad.add (i.toNat * 6)).off+2,none⟩=some (.string (rd_T44 xs i).f2)∧w.cell? ⟨(ad.add (i.toNat * 6)).block,(ad.add (i.toNat * 6)).off+3,none⟩=some (.int .i64 (rd_T44 xs i).f3)∧w.cell? ⟨(ad.add (i.toNat * 6)).block,(ad.add (i.toNat * 6)).off+4,none⟩=some (.string (rd_T44 xs i).f4)∧w.cell? ⟨(ad.add (i.toNat * 6)).block,(ad.add (i.toNat * 6)).off+5,none⟩=some (.bool (rd_T44 xs i).f5):=by
 obtain ⟨ad,c,e,_,hK,hc0⟩:=Kd.C_get h z44 i h0 h1
 have hc:∀ j u,c[j]?=some u→w.cell? (ad.add (i.toNat * 6+j))=some u:=hc0
 obtain rfl:=k44_open hK
 exact ⟨ad,e,hc 0 _ rfl,by rw [←add_field _ _ 1 (by omega)];exact hc 1 _ rfl,by rw [←add_field _ _ 2 (by omega)];exact hc 2 _ rfl,by rw [←add_field _ _ 3 (by omega)];exact hc 3 _ rfl,by rw [←add_field _ _ 4 (by omega)];exact hc 4 _ rfl,by rw [←add_field _ _ 5 (by omega)];exact hc 5 _ rfl⟩

def rd_L6 (xs:List (List Int)) (i:Int):(List Int):=xs.getD i.toNat ([]:List Int)
theorem at_L6 {w:World} {A:Option Addr} {n:Nat} {xs:List (List Int)} (h:Kd.C (Kd.slice 3 (Kd.int .i64)) w A n xs) (i:Int) (h0:0≤i) (h1:i < n):∃ ad A0 c0,A=some ad∧w.cell? (ad.add i.toNat)=some (.slice A0 (rd_L6 xs i).length c0)∧(rd_L6 xs i).length≤c0∧(Kd.int .i64).C w A0 (rd_L6 xs i).length (rd_L6 xs i):=by
 obtain ⟨ad,c,e,_,hK,hc0⟩:=Kd.C_get h ([]:List Int) i h0 h1
 have hc:∀ j u,c[j]?=some u→w.cell? (ad.add (i.toNat * 1+j))=some u:=hc0
 obtain ⟨A0,c0,rfl,l0,g0⟩:=hK
 exact ⟨ad,A0,c0,e,by have hq:=hc 0 _ rfl;rwa [Nat.mul_one,Nat.add_zero] at hq,l0,g0⟩

def rd_L7 (xs:List (List S95)) (i:Int):(List S95):=xs.getD i.toNat ([]:List S95)
theorem at_L7 {w:World} {A:Option Addr} {n:Nat} {xs:List (List S95)} (h:Kd.C (Kd.slice 95 k95) w A n xs) (i:Int) (h0:0≤i) (h1:i < n):∃ ad A0 c0,A=some ad∧w.cell? (ad.add i.toNat)=some (.slice A0 (rd_L7 xs i).length c0)∧(rd_L7 xs i).length≤c0∧k95.C w A0 (rd_L7 xs i).length (rd_L7 xs i):=by
 obtain ⟨ad,c,e,_,hK,hc0⟩:=Kd.C_get h ([]:List S95) i h0 h1
 have hc:∀ j u,c[j]?=some u→w.cell? (ad.add (i.toNat * 1+j))=some u:=hc0
 obtain ⟨A0,c0,rfl,l0,g0⟩:=hK
 exact ⟨ad,A0,c0,e,by have hq:=hc 0 _ rfl;rwa [Nat.mul_one,Nat.add_zero] at hq,l0,g0⟩

def rd_L8 (xs:List (List S93)) (i:Int):(List S93):=xs.getD i.toNat ([]:List S93)
theorem at_L8 {w:World} {A:Option Addr} {n:Nat} {xs:List (List S93)} (h:Kd.C (Kd.slice 93 k93) w A n xs) (i:Int) (h0:0≤i) (h1:i < n):∃ ad A0 c0,A=some ad∧w.cell? (ad.add i.toNat)=some (.slice A0 (rd_L8 xs i).length c0)∧(rd_L8 xs i).length≤c0∧k93.C w A0 (rd_L8 xs i).length (rd_L8 xs i):=by
 obtain ⟨ad,c,e,_,hK,hc0⟩:=Kd.C_get h ([]:List S93) i h0 h1
 have hc:∀ j u,c[j]?=some u→w.cell? (ad.add (i.toNat * 1+j))=some u:=hc0
 obtain ⟨A0,c0,rfl,l0,g0⟩:=hK
 exact ⟨ad,A0,c0,e,by have hq:=hc 0 _ rfl;rwa [Nat.mul_one,Nat.add_zero] at hq,l0,g0⟩

/-! #### struct type 26 -/
structure S26 where
 f0:Int
 f1:Int
 f2:(List Int)
 f3:(List S95)
 f4:Int
 f5:ByteArray
 f6:(List S93)
def z26:S26:=⟨(0:Int),(0:Int),([]:List Int),([]:List S95),(0:Int),(⟨#[]⟩:ByteArray),([]:List S93)⟩
def k26:Kd S26:=Kd.iso (Kd.pair (Kd.int .i64) (Kd.pair (Kd.int .i64) (Kd.pair (Kd.slice 3 (Kd.int .i64)) (Kd.pair (Kd.slice 95 k95) (Kd.pair (Kd.int .i64) (Kd.pair Kd.string (Kd.slice 93 k93))))))) (fun x:S26=>(x.f0,x.f1,x.f2,x.f3,x.f4,x.f5,x.f6))
theorem k26_open {w:World} {x:S26} {cs:List Value} (h:k26.K w x cs):∃ A2 c2 A3 c3 A6 c6,cs=[.int .i64 x.f0,.int .i64 x.f1,.slice A2 x.f2.length c2,.slice A3 x.f3.length c3,.int .i64 x.f4,.string x.f5,.slice A6 x.f6.length c6]∧x.f2.length≤c2∧(Kd.int .i64).C w A2 x.f2.length x.f2∧x.f3.length≤c3∧k95.C w A3 x.f3.length x.f3∧x.f6.length≤c6∧k93.C w A6 x.f6.length x.f6:=by
 obtain ⟨_,_,rfl,rfl,⟨_,_,rfl,rfl,⟨_,_,rfl,⟨A2,c2,rfl,l2,g2⟩,⟨_,_,rfl,⟨A3,c3,rfl,l3,g3⟩,⟨_,_,rfl,rfl,⟨_,_,rfl,rfl,⟨A6,c6,rfl,l6,g6⟩⟩⟩⟩⟩⟩⟩:=h
 exact ⟨A2,c2,A3,c3,A6,c6,rfl,l2,g2,l3,g3,l6,g6⟩
theorem k26_openM {w:World} {base:Nat} {ok:Nat→Prop} {x:S26} {cs:List Value} (h:k26.M w base ok x cs):∃ v2 v3 v6,cs=[.int .i64 x.f0,.int .i64 x.f1,v2,v3,.int .i64 x.f4,.string x.f5,v6]∧(Kd.int .i64).R 3 w base ok v2 x.f2∧k95.R 95 w base ok v3 x.f3∧k93.R 93 w base ok v6 x.f6:=by
 obtain ⟨_,_,rfl,rfl,⟨_,_,rfl,rfl,⟨_,_,rfl,⟨v2,rfl,g2⟩,⟨_,_,rfl,⟨v3,rfl,g3⟩,⟨_,_,rfl,rfl,⟨_,_,rfl,rfl,⟨v6,rfl,g6⟩⟩⟩⟩⟩⟩⟩:=h
 exact ⟨v2,v3,v6,rfl,g2,g3,g6⟩
theorem k26_mk (w:World) (x:S26) {A2:Option Addr} {c2:Nat} (l2:x.f2.length≤c2) (g2:(Kd.int .i64).C w A2 x.f2.length x.f2) {A3:Option Addr} {c3:Nat} (l3:x.f3.length≤c3) (g3:k95.C w A3 x.f3.length x.f3) {A6:Option Addr} {c6:Nat} (l6:x.f6.length≤c6) (g6:k93.C w A6 x.f6.length x.f6):k26.K w x [.int .i64 x.f0,.int .i64 x.f1,.slice A2 x.f2.length c2,.slice A3 x.f3.length c3,.int .i64 x.f4,.string x.f5,.slice A6 x.f6.length c6]:=⟨[.int .i64 x.f0],[.int .i64 x.f1,.slice A2 x.f2.length c2,.slice A3 x.f3.length c3,.int .i64 x.f4,.string x.f5,.slice A6 x.f6.length c6],rfl,rfl,⟨[.int .i64 x.f1],[.slice A2 x.f2.length c2,.slice A3 x.f3.length c3,.int .i64 x.f4,.string x.f5,.slice A6 x.f6.length c6],rfl,rfl,⟨[.slice A2 x.f2.length c2],[.slice A3 x.f3.length c3,.int .i64 x.f4,.string x.f5,.slice A6 x.f6.length c6],rfl,⟨A2,c2,rfl,l2,g2⟩,⟨[.slice A3 x.f3.length c3],[.int .i64 x.f4,.string x.f5,.slice A6 x.f6.length c6],rfl,⟨A3,c3,rfl,l3,g3⟩,⟨[.int .i64 x.f4],[.string x.f5,.slice A6 x.f6.length c6],rfl,rfl,⟨[.string x.f5],[.slice A6 x.f6.length c6],rfl,rfl,⟨A6,c6,rfl,l6,g6⟩⟩⟩⟩⟩⟩⟩
theorem k26_mkM (w:World) (base:Nat) (ok:Nat→Prop) (x:S26) {v2:Value} (g2:(Kd.int .i64).R 3 w base ok v2 x.f2) {v3:Value} (g3:k95.R 95 w base ok v3 x.f3) {v6:Value} (g6:k93.R 93 w base ok v6 x.f6):k26.M w base ok x [.int .i64 x.f0,.int .i64 x.f1,v2,v3,.int .i64 x.f4,.string x.f5,v6]:=⟨[.int .i64 x.f0],[.int .i64 x.f1,v2,v3,.int .i64 x.f4,.string x.f5,v6],rfl,rfl,⟨[.int .i64 x.f1],[v2,v3,.int .i64 x.f4,.string x.f5,v6],rfl,rfl,⟨[v2],[v3,.int .i64 x.f4,.string x.f5,v6],rfl,⟨v2,rfl,g2⟩,⟨[v3],[.int .i64 x.f4,.string x.f5,v6],rfl,⟨v3,rfl,g3⟩,⟨[.int .i64 x.f4],[.string x.f5,v6],rfl,rfl,⟨[.string x.f5],[v6],rfl,rfl,⟨v6,rfl,g6⟩⟩⟩⟩⟩⟩⟩
def rd_T26 (xs:List S26) (i:Int):S26:=xs.getD i.toNat z26
theorem at_T26 {w:World} {A:Option Addr} {n:Nat} {xs:List S26} (h:Kd.C k26 w A n xs) (i:Int) (h0:0≤i) (h1:i < n):∃ ad A2 c2 A3 c3 A6 c6,A=some ad∧w.cell? (ad.add (i.toNat * 7))=some (.int .i64 (rd_T26 xs i).f0)∧w.cell? ⟨(ad.add (i.toNat * 7)).block,(ad.add (i.toNat * 7)).off+1,none⟩=some (.int .i64 (rd_T26 xs i).f1)∧w.cell? ⟨(ad.add (i.toNat * 7)).block,(ad.add (i.toNat * 7)).off+2,none⟩=some (.slice A2 (rd_T26 xs i).f2.length c2)∧w.cell? ⟨(ad.add (i.toNat * 7)).block,(ad.add (i.toNat * 7)).off+3,none⟩=some (.slice A3 (rd_T26 xs i).f3.length c3)∧w.cell? ⟨(ad.add (i.toNat * 7)).block,(ad.add (i.toNat * 7)).off+4,none⟩=some (.int .i64 (rd_T26 xs i).f4)∧w.cell? ⟨(ad.add (i.toNat * 7)).block,(ad.add (i.toNat * 7)).off+5,none⟩=some (.string (rd_T26 xs i).f5)∧w.cell? ⟨(ad.add (i.toNat * 7)).block,(ad.add (i.toNat * 7)).off+6,none⟩=some (.slice A6 (rd_T26 xs i).f6.length c6)∧(rd_T26 xs i).f2.length≤c2∧(Kd.int .i64).C w A2 (rd_T26 xs i).f2.length (rd_T26 xs i).f2∧(rd_T26 xs i).f3.length≤c3∧k95.C w A3 (rd_T26 xs i).f3.length (rd_T26 xs i).f3∧(rd_T26 xs i).f6.length≤c6∧k93.C w A6 (rd_T26 xs i).f6.length (rd_T26 xs i).f6:=by
 obtain ⟨ad,c,e,_,hK,hc0⟩:=Kd.C_get h z26 i h0 h1
 have hc:∀ j u,c[j]?=some u→w.cell? (ad.add (i.toNat * 7+j))=some u:=hc0
 obtain ⟨A2,c2,A3,c3,A6,c6,rfl,l2,g2,l3,g3,l6,g6⟩:=k26_open hK
 exact ⟨ad,A2,c2,A3,c3,A6,c6,e,hc 0 _ rfl,by rw [←add_field _ _ 1 (by omega)];exact hc 1 _ rfl,by rw [←add_field _ _ 2 (by omega)];exact hc 2 _ rfl,by rw [←add_field _ _ 3 (by omega)];exact hc 3 _ rfl,by rw [←add_field _ _ 4 (by omega)];exact hc 4 _ rfl,by rw [←add_field _ _ 5 (by omega)];exact hc 5 _ rfl,by rw [←add_field _ _ 6 (by omega)];exact hc 6 _ rfl,l2,g2,l3,g3,l6,g6⟩

/-! #### struct type 29 -/
structure S29 where
 f0:Bool
 f1:Int
 f2:Int
 f3:Int
 f4:ByteArray
def z29:S29:=⟨false,(0:Int),(0:Int),(0:Int),(⟨#[]⟩:ByteArray)⟩
def k29:Kd S29:=Kd.iso (Kd.pair Kd.bool (Kd.pair (Kd.int .i64) (Kd.pair (Kd.int .i64) (Kd.pair (Kd.int .i64) Kd.string)))) (fun x:S29=>(x.f0,x.f1,x.f2,x.f3,x.f4))
theorem k29_open {w:World} {x:S29} {cs:List Value} (h:k29.K w x cs):cs=[.bool x.f0,.int .i64 x.f1,.int .i64 x.f2,.int .i64 x.f3,.string x.f4]:=by
 obtain ⟨_,_,rfl,rfl,⟨_,_,rfl,rfl,⟨_,_,rfl,rfl,⟨_,_,rfl,rfl,rfl⟩⟩⟩⟩:=h
 exact rfl
theorem k29_openM {w:World} {base:Nat} {ok:Nat→Prop} {x:S29} {cs:List Value} (h:k29.M w base ok x cs):cs=[.bool x.f0,.int .i64 x.f1,.int .i64 x.f2,.int .i64 x.f3,.string x.f4]:=by
 obtain ⟨_,_,rfl,rfl,⟨_,_,rfl,rfl,⟨_,_,rfl,rfl,⟨_,_,rfl,rfl,rfl⟩⟩⟩⟩:=h
 exact rfl
theorem k29_mk (w:World) (x:S29)  : k29.K w x [.bool x.f0,.int .i64 x.f1,.int .i64 x.f2,.int .i64 x.f3,.string x.f4]:=⟨[.bool x.f0],[.int .i64 x.f1,.int .i64 x.f2,.int .i64 x.f3,.string x.f4],rfl,rfl,⟨[.int .i64 x.f1],[.int .i64 x.f2,.int .i64 x.f3,.string x.f4],rfl,rfl,⟨[.int .i64 x.f2],[.int .i64 x.f3,.string x.f4],rfl,rfl,⟨[.int .i64 x.f3],[.string x.f4],rfl,rfl,rfl⟩⟩⟩⟩
theorem k29_mkM (w:World) (base:Nat) (ok:Nat→Prop) (x:S29)  : k29.M w base ok x [.bool x.f0,.int .i64 x.f1,.int .i64 x.f2,.int .i64 x.f3,.string x.f4]:=⟨[.bool x.f0],[.int .i64 x.f1,.int .i64 x.f2,.int .i64 x.f3,.string x.f4],rfl,rfl,⟨[.int .i64 x.f1],[.int .i64 x.f2,.int .i64 x.f3,.string x.f4],rfl,rfl,⟨[.int .i64 x.f2],[.int .i64 x.f3,.string x.f4],rfl,rfl,⟨[.int .i64 x.f3],[.string x.f4],rfl,rfl,rfl⟩⟩⟩⟩
def rd_T29 (xs:List S29) (i:Int):S29:=xs.getD i.toNat z29
theorem at_T29 {w:World} {A:Option Addr} {n:Nat} {xs:List S29} (h:Kd.C k29 w A n xs) (i:Int) (h0:0≤i) (h1:i < n):∃ ad ,A=some ad∧w.cell? (ad.add (i.toNat * 5))=some (.bool (rd_T29 xs i).f0)∧w.cell? ⟨(ad.add (i.toNat * 5)).block,(ad.add (i.toNat * 5)).off+1,none⟩=some (.int .i64 (rd_T29 xs i).f1)∧w.cell? ⟨(ad.add (i.toNat * 5)).block,(ad.add (i.toNat * 5)).off+2,none⟩=some (.int .i64 (rd_T29 xs i).f2)∧w.cell? ⟨(ad.add (i.toNat * 5)).block,(ad.add (i.toNat * 5)).off+3,none⟩=some (.int .i64 (rd_T29 xs i).f3)∧w.cell? ⟨(ad.add (i.toNat * 5)).block,(ad.add (i.toNat * 5)).off+4,none⟩=some (.string (rd_T29 xs i).f4):=by
 obtain ⟨ad,c,e,_,hK,hc0⟩:=Kd.C_get h z29 i h0 h1
 have hc:∀ j u,c[j]?=some u→w.cell? (ad.add (i.toNat * 5+j))=some u:=hc0
 obtain rfl:=k29_open hK
 exact ⟨ad,e,hc 0 _ rfl,by rw [←add_field _ _ 1 (by omega)];exact hc 1 _ rfl,by rw [←add_field _ _ 2 (by omega)];exact hc 2 _ rfl,by rw [←add_field _ _ 3 (by omega)];exact hc 3 _ rfl,by rw [←add_field _ _ 4 (by omega)];exact hc 4 _ rfl⟩

def rd_L11 (xs:List (List S44)) (i:Int):(List S44):=xs.getD i.toNat ([]:List S44)
theorem at_L11 {w:World} {A:Option Addr} {n:Nat} {xs:List (List S44)} (h:Kd.C (Kd.slice 44 k44) w A n xs) (i:Int) (h0:0≤i) (h1:i < n):∃ ad A0 c0,A=some ad∧w.cell? (ad.add i.toNat)=some (.slice A0 (rd_L11 xs i).length c0)∧(rd_L11 xs i).length≤c0∧k44.C w A0 (rd_L11 xs i).length (rd_L11 xs i):=by
 obtain ⟨ad,c,e,_,hK,hc0⟩:=Kd.C_get h ([]:List S44) i h0 h1
 have hc:∀ j u,c[j]?=some u→w.cell? (ad.add (i.toNat * 1+j))=some u:=hc0
 obtain ⟨A0,c0,rfl,l0,g0⟩:=hK
 exact ⟨ad,A0,c0,e,by have hq:=hc 0 _ rfl;rwa [Nat.mul_one,Nat.add_zero] at hq,l0,g0⟩

theorem str_ne_ (l:List UInt8):(!l.isEmpty)=(l != []):=by cases l<;>rfl
theorem str_eq_ (l:List UInt8):l.isEmpty=(l == []):=by cases l<;>rfl
end Go.Proofs.YtibalpbkmgegnaaGreatDoor.PL
