-- Made by wip/pr.py out of the translation (a turned copy of the kit's print; contracts by hand where said).
import Derived.Test.YtpfanafggmkejaaProg
import Derived.Below
import Derived.Deep.Draws
import Derived.Deep.AppendLies
import Derived.Maps.AppendAt
import Derived.OwnWalk
import Derived.Laws.BytesArg
import Derived.Laws.MakeOwn
import Derived.Laws.OwnMore
import Derived.Deep.OwnRows
import Derived.Tactics
import Derived.Lib.ConvBytes
import Derived.Laws.Slices
import Derived.WalkKit
import Derived.KernelRfl
import Derived.RowKit3
import Derived.Deep.LoopGhost
import Derived.Deep.QuietTactic
import Derived.BigQuiet
import Derived.WideLaws
import Derived.Deep.DeepCutAuto
import Derived.Deep.CutBlock
import Derived.Deep.RegionHeld3
import Derived.Laws.Rows
import Derived.Lib.AppendStr
import Derived.ArgAppend
import Derived.Laws.IdiomCopy
import Derived.OrdersHeld
import Derived.Laws.BitsLemmas
import Derived.RowKit
import Derived.Lib.Bytealg
import Derived.Test.YtpfanafggmkejaaWWords
import Derived.Test.YtpfanafggmkejaaWLast
import Derived.Test.YtpfanafggmkejaaWTab
import Derived.Test.YtpfanafggmkejaaWFour
import Derived.Test.YtpfanafggmkejaaWQPut
import Derived.Test.YtpfanafggmkejaaWApart
import Derived.Test.YtpfanafggmkejaaWArr
import Derived.Test.YtpfanafggmkejaaWZeros
import Derived.Test.YtpfanafggmkejaaWFoot
import Derived.Test.YtpfanafggmkejaaWKept
import Derived.Test.YtpfanafggmkejaaWShare
import Derived.Test.YtpfanafggmkejaaWN
import Derived.Test.YtpfanafggmkejaaWFootNe
import Derived.Test.YtpfanafggmkejaaWAt
import Derived.Test.YtpfanafggmkejaaWEqStruct
import Derived.Test.YtpfanafggmkejaaWRepsOne
import Derived.Test.YtpfanafggmkejaaWInv
import Derived.Test.YtpfanafggmkejaaWInvWords
import Derived.Test.YtpfanafggmkejaaWGuard
import Derived.Test.YtpfanafggmkejaaWNEv
import Derived.Test.YtpfanafggmkejaaWMore
namespace Go.Proofs.Ytpfanafggmkejaa.PLeaseForms
open Go.RowKit Go.Proofs.YtpfanafggmkejaaW.PrintWords Go.Proofs.YtpfanafggmkejaaW.PrintLast Go.Proofs.YtpfanafggmkejaaW.PrintMore
attribute [local go_sem] max2_int min2_int max_two min_two max_three min_three max_four min_four   -- for this text's walks alone
set_option linter.unusedVariables false
set_option linter.unusedSimpArgs false



def errW : Option Int → Value
  | none => .nilIface
  | some c => .iface 0 (.int .i64 c)
theorem errW_none : errW none = .nilIface := rfl
theorem errW_some (c : Int) : errW (some c) = .iface 0 (.int .i64 c) := rfl

theorem info5 : (Try.prog.info? 5).map (fun i => (i.zero, i.size, i.bytes)) = some (some (.int .u8 0), 1, 1) := by kernel_rfl
-- the values' own types

/-- The world, as far as a block. -/
def low_ (w : World) (g : Nat) : World := { w with heap := w.heap.extract 0 g }
theorem low_size {w : World} {g : Nat} {o : Obj} (h : w.heap[g]? = some o) : (low_ w g).heap.size = g := by
  have := (Array.getElem?_eq_some_iff.1 h).1
  show (w.heap.extract 0 g).size = g
  rw [Array.size_extract]
  omega
theorem low_below {w : World} {g : Nat} {o : Obj} (h : w.heap[g]? = some o) : Below (low_ w g).heap.size (low_ w g) w := by
  have hg := (Array.getElem?_eq_some_iff.1 h).1
  have hz := low_size h
  refine ⟨rfl, rfl, rfl, by omega, fun k hk => ?_⟩
  have hk' : k < g := by omega
  show w.heap[k]? = (w.heap.extract 0 g)[k]?
  rw [Array.getElem?_extract, if_pos (by omega), Nat.zero_add]
theorem low_back {w w' : World} {g : Nat} {o : Obj} (h : w.heap[g]? = some o) (h' : w'.heap[g]? = some o) (hb : Below (low_ w g).heap.size (low_ w g) w') (hk : KeepBut w w' g none) : Below w.heap.size w w' := by
  refine ⟨hb.os, hb.tape, hb.output, hk.1, fun k hlt => ?_⟩
  by_cases e : k = g
  · subst e
    rw [h, h']
  · exact hk.2 k hlt e (by simp)

theorem str_ne_ (l : List UInt8) : (!l.isEmpty) = (l != []) := by cases l <;> rfl
theorem str_eq_ (l : List UInt8) : l.isEmpty = (l == []) := by cases l <;> rfl
end Go.Proofs.Ytpfanafggmkejaa.PLeaseForms
