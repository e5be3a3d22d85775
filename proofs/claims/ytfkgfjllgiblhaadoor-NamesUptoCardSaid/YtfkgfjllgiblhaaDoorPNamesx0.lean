-- Made by wip/pr.py out of the translation (a turned copy of the kit's print; contracts by hand where said).
import Derived.Test.YtfkgfjllgiblhaaDoorProg
import Derived.Below
import Derived.Deep.Draws
import Derived.Deep.AppendLies
import Derived.Maps.AppendAt
import Derived.OwnWalk
import Derived.Laws.BytesArg
import Derived.Laws.MakeOwn
import Derived.Laws.OwnMore
import Derived.Deep.OwnRows
import Derived.Tactics
import Derived.Lib.ConvBytes
import Derived.Laws.Slices
import Derived.WalkKit
import Derived.KernelRfl
import Derived.RowKit3
import Derived.Deep.LoopGhost
import Derived.Deep.QuietTactic
import Derived.BigQuiet
import Derived.WideLaws
import Derived.Deep.DeepCutAuto
import Derived.Deep.CutBlock
import Derived.Deep.RegionHeld3
import Derived.Laws.Rows
import Derived.Lib.AppendStr
import Derived.ArgAppend
import Derived.Laws.IdiomCopy
import Derived.OrdersHeld
import Derived.Laws.BitsLemmas
import Derived.RowKit
import Derived.Lib.Bytealg
import Derived.Lib.Split
import Derived.Test.YtfkgfjllgiblhaaDoorWWords
import Derived.Test.YtfkgfjllgiblhaaDoorWLast
import Derived.Test.YtfkgfjllgiblhaaDoorWTab
import Derived.Test.YtfkgfjllgiblhaaDoorWFour
import Derived.Test.YtfkgfjllgiblhaaDoorWQPut
import Derived.Test.YtfkgfjllgiblhaaDoorWApart
import Derived.Test.YtfkgfjllgiblhaaDoorWArr
import Derived.Test.YtfkgfjllgiblhaaDoorWZeros
import Derived.Test.YtfkgfjllgiblhaaDoorWFoot
import Derived.Test.YtfkgfjllgiblhaaDoorWKept
import Derived.Test.YtfkgfjllgiblhaaDoorWShare
import Derived.Test.YtfkgfjllgiblhaaDoorWN
import Derived.Test.YtfkgfjllgiblhaaDoorWFootNe
import Derived.Test.YtfkgfjllgiblhaaDoorWAt
import Derived.Test.YtfkgfjllgiblhaaDoorWEqStruct
import Derived.Test.YtfkgfjllgiblhaaDoorWRepsOne
import Derived.Test.YtfkgfjllgiblhaaDoorWInv
import Derived.Test.YtfkgfjllgiblhaaDoorWInvWords
import Derived.Test.YtfkgfjllgiblhaaDoorWGuard
import Derived.Test.YtfkgfjllgiblhaaDoorWNEv
import Derived.Test.YtfkgfjllgiblhaaDoorWMore
namespace Go.Proofs.YtfkgfjllgiblhaaDoor.PNames
open Go.RowKit Go.Proofs.YtfkgfjllgiblhaaDoorW.PrintWords Go.Proofs.YtfkgfjllgiblhaaDoorW.PrintLast Go.Proofs.YtfkgfjllgiblhaaDoorW.PrintMore
attribute [local go_sem] max2_int min2_int max_two min_two max_three min_three max_four min_four   -- for this text's walks alone
set_option linter.unusedVariables false
set_option linter.unusedSimpArgs false



def errW : Option Int → Value
  | none => .nilIface
  | some c => .iface 0 (.int .i64 c)
theorem errW_none : errW none = .nilIface := rfl
theorem errW_some (c : Int) : errW (some c) = .iface 0 (.int .i64 c) := rfl

theorem info9 : (Tryd.prog.info? 9).map (fun i => (i.zero, i.size, i.bytes)) = some (some (.string ⟨#[]⟩), 1, 16) := by kernel_rfl
-- the values' own types

theorem str_ne_ (l : List UInt8) : (!l.isEmpty) = (l != []) := by cases l <;> rfl
theorem str_eq_ (l : List UInt8) : l.isEmpty = (l == []) := by cases l <;> rfl
end Go.Proofs.YtfkgfjllgiblhaaDoor.PNames
