/-
  No cell of these rows narrows 'for every input' (looked for: loops, veiled, ifaces, maps, wideKeys, modest, calm, conditions, laid).
  DERIVED. THE GIVEN ROWS OF THIS SEAT. 10 by the template 'for every input the law returns true; each argument reads behind the call as it read before'; 0 by the template 'total and deterministic' (their statements: YtibmakpghbinbaaTotals.lean).
  GIVEN WITH THE SEED: the statements are not yours to turn. If you find one false, say at which input.
  Laid BY PROGRAM, IN A SANDBOX (cutbox-rows.mjs): the forced cells as the released guide's own fill.sh prints them over the translation 58412299a46da3e1… (all of the seat's roots in one cut). By AI agents, Wed Nov 11 2026. No macro, syntax, notation, axiom, sorry.
-/
import Derived.Test.YtibmakpghbinbaaChecked
import GoSem.Claim
import GoSem.ClaimJoined
import GoSem.ClaimMapViews
import Derived.JoinedTies
import Derived.KernelRfl
namespace Go.Proofs.Ytibmakpghbinbaa
/- THE CELL 'sum', in the pinned program and in every row, IS THE sha256 OF THE DUMP (.gsa) THAT YtibmakpghbinbaaProg.lean LOADS. Nothing in Lean hashes anything: it is a label: what it is worth is what the hold of that sum in a sandbox is worth. -/
noncomputable def Try.pinned : Pinned := { name := "ytibmakpghbinbaa", sum := "58412299a46da3e1cfa072d317cb1dccdf5450d7b56068a1c5d5b197ce12c157", checked := Try.checked }
namespace Rows
def none {H : Type} : Left H := { results := [], args := [] }

/-- 'pinfoldlaw19.SweepPick': WHATEVER THE INPUT: true; the input reads as it did. -/
def sweepPickSpec : ChangeSpec := { name := "sweepPick", fn := fun _ => fun
  | [d1, d2, d3, d4, d5] => { results := [.lit (.bool true)], args := [d1, d2, d3, d4, d5] }
  | _ => none }
def sweepPickRow : OpenClaim := { program := "ytibmakpghbinbaa", sum := "58412299a46da3e1cfa072d317cb1dccdf5450d7b56068a1c5d5b197ce12c157", func := "pinfold/pinfoldlaw19.SweepPick", spec := "sweepPick", inPlace := ["internal/bytealg.IndexByteString", "internal/bytealg.IndexString"], named := ["internal/bytealg.MaxLen"], apart := false }
def SweepPickSaid : Prop := sweepPickRow.holds Try.pinned (OpenSpec.ofChange sweepPickSpec)

/-- ITS FALSE NEIGHBOUR: 'it returns false'. Refute it at one input. -/
def sweepPickWrong : ChangeSpec := { name := "sweepPick", fn := fun _ => fun
  | [d1, d2, d3, d4, d5] => { results := [.lit (.bool false)], args := [d1, d2, d3, d4, d5] }
  | _ => none }
def SweepPickWrongFalsely : Prop := sweepPickRow.holds Try.pinned (OpenSpec.ofChange sweepPickWrong)

/-- 'pinfoldlaw13.Tables': WHATEVER THE INPUT: true; the input reads as it did. -/
def tablesSpec : ChangeSpec := { name := "tables", fn := fun _ => fun
  | [d1, d2, d3, d4, d5] => { results := [.lit (.bool true)], args := [d1, d2, d3, d4, d5] }
  | _ => none }
def tablesRow : OpenClaim := { program := "ytibmakpghbinbaa", sum := "58412299a46da3e1cfa072d317cb1dccdf5450d7b56068a1c5d5b197ce12c157", func := "pinfold/pinfoldlaw13.Tables", spec := "tables", inPlace := ["internal/bytealg.IndexByteString", "internal/bytealg.IndexString"], unfollowed := true, recurses := true, named := ["internal/bytealg.MaxLen"], apart := false }
def TablesSaid : Prop := tablesRow.holds Try.pinned (OpenSpec.ofChange tablesSpec)

/-- ITS FALSE NEIGHBOUR: 'it returns false'. Refute it at one input. -/
def tablesWrong : ChangeSpec := { name := "tables", fn := fun _ => fun
  | [d1, d2, d3, d4, d5] => { results := [.lit (.bool false)], args := [d1, d2, d3, d4, d5] }
  | _ => none }
def TablesWrongFalsely : Prop := tablesRow.holds Try.pinned (OpenSpec.ofChange tablesWrong)

/-- 'pinfoldlaw13.TableMap': WHATEVER THE INPUT: true; the input reads as it did. -/
def tableMapSpec : ChangeSpec := { name := "tableMap", fn := fun _ => fun
  | [d1, d2] => { results := [.lit (.bool true)], args := [d1, d2] }
  | _ => none }
def tableMapRow : OpenClaim := { program := "ytibmakpghbinbaa", sum := "58412299a46da3e1cfa072d317cb1dccdf5450d7b56068a1c5d5b197ce12c157", func := "pinfold/pinfoldlaw13.TableMap", spec := "tableMap", inPlace := ["internal/bytealg.IndexByteString", "internal/bytealg.IndexString"], unfollowed := true, recurses := true, named := ["internal/bytealg.MaxLen"], apart := false }
def TableMapSaid : Prop := tableMapRow.holds Try.pinned (OpenSpec.ofChange tableMapSpec)

/-- ITS FALSE NEIGHBOUR: 'it returns false'. Refute it at one input. -/
def tableMapWrong : ChangeSpec := { name := "tableMap", fn := fun _ => fun
  | [d1, d2] => { results := [.lit (.bool false)], args := [d1, d2] }
  | _ => none }
def TableMapWrongFalsely : Prop := tableMapRow.holds Try.pinned (OpenSpec.ofChange tableMapWrong)

/-- 'pinfoldlaw13.TableForms': WHATEVER THE INPUT: true; the input reads as it did. -/
def tableFormsSpec : ChangeSpec := { name := "tableForms", fn := fun _ => fun
  | [d1, d2] => { results := [.lit (.bool true)], args := [d1, d2] }
  | _ => none }
def tableFormsRow : OpenClaim := { program := "ytibmakpghbinbaa", sum := "58412299a46da3e1cfa072d317cb1dccdf5450d7b56068a1c5d5b197ce12c157", func := "pinfold/pinfoldlaw13.TableForms", spec := "tableForms", inPlace := ["internal/bytealg.IndexByteString", "internal/bytealg.IndexString"], unfollowed := true, recurses := true, named := ["internal/bytealg.MaxLen"], apart := false }
def TableFormsSaid : Prop := tableFormsRow.holds Try.pinned (OpenSpec.ofChange tableFormsSpec)

/-- ITS FALSE NEIGHBOUR: 'it returns false'. Refute it at one input. -/
def tableFormsWrong : ChangeSpec := { name := "tableForms", fn := fun _ => fun
  | [d1, d2] => { results := [.lit (.bool false)], args := [d1, d2] }
  | _ => none }
def TableFormsWrongFalsely : Prop := tableFormsRow.holds Try.pinned (OpenSpec.ofChange tableFormsWrong)

/-- 'pinfoldlaw13.TableWith': WHATEVER THE INPUT: true; the input reads as it did. -/
def tableWithSpec : ChangeSpec := { name := "tableWith", fn := fun _ => fun
  | [d1, d2, d3] => { results := [.lit (.bool true)], args := [d1, d2, d3] }
  | _ => none }
def tableWithRow : OpenClaim := { program := "ytibmakpghbinbaa", sum := "58412299a46da3e1cfa072d317cb1dccdf5450d7b56068a1c5d5b197ce12c157", func := "pinfold/pinfoldlaw13.TableWith", spec := "tableWith", inPlace := ["internal/bytealg.IndexByteString", "internal/bytealg.IndexString"], unfollowed := true, recurses := true, named := ["internal/bytealg.MaxLen"], apart := false }
def TableWithSaid : Prop := tableWithRow.holds Try.pinned (OpenSpec.ofChange tableWithSpec)

/-- ITS FALSE NEIGHBOUR: 'it returns false'. Refute it at one input. -/
def tableWithWrong : ChangeSpec := { name := "tableWith", fn := fun _ => fun
  | [d1, d2, d3] => { results := [.lit (.bool false)], args := [d1, d2, d3] }
  | _ => none }
def TableWithWrongFalsely : Prop := tableWithRow.holds Try.pinned (OpenSpec.ofChange tableWithWrong)

/-- 'pinfoldlaw23.Logs': WHATEVER THE INPUT: true; the input reads as it did. -/
def logsSpec : ChangeSpec := { name := "logs", fn := fun _ => fun
  | [d1, d2] => { results := [.lit (.bool true)], args := [d1, d2] }
  | _ => none }
def logsRow : OpenClaim := { program := "ytibmakpghbinbaa", sum := "58412299a46da3e1cfa072d317cb1dccdf5450d7b56068a1c5d5b197ce12c157", func := "pinfold/pinfoldlaw23.Logs", spec := "logs", inPlace := ["internal/bytealg.IndexByteString", "internal/bytealg.IndexString", "internal/abi.NoEscape"], unfollowed := true, recurses := true, named := ["internal/bytealg.MaxLen"], apart := false }
def LogsSaid : Prop := logsRow.holds Try.pinned (OpenSpec.ofChange logsSpec)

/-- ITS FALSE NEIGHBOUR: 'it returns false'. Refute it at one input. -/
def logsWrong : ChangeSpec := { name := "logs", fn := fun _ => fun
  | [d1, d2] => { results := [.lit (.bool false)], args := [d1, d2] }
  | _ => none }
def LogsWrongFalsely : Prop := logsRow.holds Try.pinned (OpenSpec.ofChange logsWrong)

/-- 'pinfoldlaw23.LogCut': WHATEVER THE INPUT: true; the input reads as it did. -/
def logCutSpec : ChangeSpec := { name := "logCut", fn := fun _ => fun
  | [d1, d2] => { results := [.lit (.bool true)], args := [d1, d2] }
  | _ => none }
def logCutRow : OpenClaim := { program := "ytibmakpghbinbaa", sum := "58412299a46da3e1cfa072d317cb1dccdf5450d7b56068a1c5d5b197ce12c157", func := "pinfold/pinfoldlaw23.LogCut", spec := "logCut", inPlace := ["internal/bytealg.IndexByteString", "internal/bytealg.IndexString", "internal/abi.NoEscape"], unfollowed := true, recurses := true, named := ["internal/bytealg.MaxLen"], apart := false }
def LogCutSaid : Prop := logCutRow.holds Try.pinned (OpenSpec.ofChange logCutSpec)

/-- ITS FALSE NEIGHBOUR: 'it returns false'. Refute it at one input. -/
def logCutWrong : ChangeSpec := { name := "logCut", fn := fun _ => fun
  | [d1, d2] => { results := [.lit (.bool false)], args := [d1, d2] }
  | _ => none }
def LogCutWrongFalsely : Prop := logCutRow.holds Try.pinned (OpenSpec.ofChange logCutWrong)

/-- 'pinfoldlaw23.LogForms': WHATEVER THE INPUT: true; the input reads as it did. -/
def logFormsSpec : ChangeSpec := { name := "logForms", fn := fun _ => fun
  | [d1, d2] => { results := [.lit (.bool true)], args := [d1, d2] }
  | _ => none }
def logFormsRow : OpenClaim := { program := "ytibmakpghbinbaa", sum := "58412299a46da3e1cfa072d317cb1dccdf5450d7b56068a1c5d5b197ce12c157", func := "pinfold/pinfoldlaw23.LogForms", spec := "logForms", inPlace := ["internal/bytealg.IndexByteString", "internal/bytealg.IndexString", "internal/abi.NoEscape"], unfollowed := true, recurses := true, named := ["internal/bytealg.MaxLen"], apart := false }
def LogFormsSaid : Prop := logFormsRow.holds Try.pinned (OpenSpec.ofChange logFormsSpec)

/-- ITS FALSE NEIGHBOUR: 'it returns false'. Refute it at one input. -/
def logFormsWrong : ChangeSpec := { name := "logForms", fn := fun _ => fun
  | [d1, d2] => { results := [.lit (.bool false)], args := [d1, d2] }
  | _ => none }
def LogFormsWrongFalsely : Prop := logFormsRow.holds Try.pinned (OpenSpec.ofChange logFormsWrong)

/-- 'pinfoldlaw23.LogReplays': WHATEVER THE INPUT: true; the input reads as it did. -/
def logReplaysSpec : ChangeSpec := { name := "logReplays", fn := fun _ => fun
  | [d] => { results := [.lit (.bool true)], args := [d] }
  | _ => none }
def logReplaysRow : OpenClaim := { program := "ytibmakpghbinbaa", sum := "58412299a46da3e1cfa072d317cb1dccdf5450d7b56068a1c5d5b197ce12c157", func := "pinfold/pinfoldlaw23.LogReplays", spec := "logReplays", inPlace := ["internal/bytealg.IndexByteString", "internal/bytealg.IndexString", "internal/abi.NoEscape"], unfollowed := true, recurses := true, named := ["internal/bytealg.MaxLen"], apart := false }
def LogReplaysSaid : Prop := logReplaysRow.holds Try.pinned (OpenSpec.ofChange logReplaysSpec)

/-- ITS FALSE NEIGHBOUR: 'it returns false'. Refute it at one input. -/
def logReplaysWrong : ChangeSpec := { name := "logReplays", fn := fun _ => fun
  | [d] => { results := [.lit (.bool false)], args := [d] }
  | _ => none }
def LogReplaysWrongFalsely : Prop := logReplaysRow.holds Try.pinned (OpenSpec.ofChange logReplaysWrong)

/-- 'pinfoldlaw23.LogBack': WHATEVER THE INPUT: true; the input reads as it did. -/
def logBackSpec : ChangeSpec := { name := "logBack", fn := fun _ => fun
  | [d1, d2] => { results := [.lit (.bool true)], args := [d1, d2] }
  | _ => none }
def logBackRow : OpenClaim := { program := "ytibmakpghbinbaa", sum := "58412299a46da3e1cfa072d317cb1dccdf5450d7b56068a1c5d5b197ce12c157", func := "pinfold/pinfoldlaw23.LogBack", spec := "logBack", inPlace := ["internal/bytealg.IndexByteString", "internal/bytealg.IndexString", "internal/abi.NoEscape"], unfollowed := true, recurses := true, named := ["internal/bytealg.MaxLen"], apart := false }
def LogBackSaid : Prop := logBackRow.holds Try.pinned (OpenSpec.ofChange logBackSpec)

/-- ITS FALSE NEIGHBOUR: 'it returns false'. Refute it at one input. -/
def logBackWrong : ChangeSpec := { name := "logBack", fn := fun _ => fun
  | [d1, d2] => { results := [.lit (.bool false)], args := [d1, d2] }
  | _ => none }
def LogBackWrongFalsely : Prop := logBackRow.holds Try.pinned (OpenSpec.ofChange logBackWrong)

/- THE SECOND FORM. 'bulk': how many values and letters a reading holds, each counted each time it is reached (what is shared counts as often as it is met; a slice's spare places count too). A statement '..UptoSaid' is the law's where the arguments, and the package variables that the reading takes, are together of bulk at most 1048576: NARROWER than '..Said'. Prove '..Said' where nothing that the law and all that it calls make is longer than what came in: it says more and counts as full. Else prove '..UptoSaid'. A law counts once. -/
mutual
def uptoBulk {H : Type} : DataW H → Nat
  | .lit (.string bytes) => bytes.length + 1
  | .lit _ => 1
  | .nil => 1
  | .ptr d => uptoBulk d + 1
  | .slice elems spare => uptoBulkAll elems + uptoBulkAll spare + 1
  | .agg parts => uptoBulkAll parts + 1
  | .iface _ d => uptoBulk d + 1
  | .map entries => uptoBulkEntries entries + 1
  | .held _ => 1
def uptoBulkAll {H : Type} : List (DataW H) → Nat
  | [] => 0
  | d :: r => uptoBulk d + uptoBulkAll r
def uptoBulkEntries {H : Type} : List (Lit × DataW H) → Nat
  | [] => 0
  | x :: r => uptoBulkEntry x + uptoBulkEntries r
def uptoBulkEntry {H : Type} : Lit × DataW H → Nat
  | (.string bytes, d) => bytes.length + uptoBulk d + 1
  | (_, d) => uptoBulk d + 1
 end
def uptoSmall : (H : Type) → List (DataW H) → Bool := fun _ ds => decide (uptoBulkAll ds ≤ 1048576)
def OpenSpec.upto (s : _root_.Go.ChangeSpec) : _root_.Go.OpenSpec := { _root_.Go.OpenSpec.ofChange s with cond := some uptoSmall }

/-- 'pinfoldlaw19.SweepPick', WHERE WHAT IT READS IS OF BULK AT MOST 1048576: true; the input reads as it did. -/
def sweepPickUptoRow : OpenClaim := { program := "ytibmakpghbinbaa", sum := "58412299a46da3e1cfa072d317cb1dccdf5450d7b56068a1c5d5b197ce12c157", func := "pinfold/pinfoldlaw19.SweepPick", spec := "sweepPick", inPlace := ["internal/bytealg.IndexByteString", "internal/bytealg.IndexString"], named := ["internal/bytealg.MaxLen"], apart := false, narrowed := true }
def SweepPickUptoSaid : Prop := sweepPickUptoRow.holds Try.pinned (OpenSpec.upto sweepPickSpec)

/-- 'pinfoldlaw13.Tables', WHERE WHAT IT READS IS OF BULK AT MOST 1048576: true; the input reads as it did. -/
def tablesUptoRow : OpenClaim := { program := "ytibmakpghbinbaa", sum := "58412299a46da3e1cfa072d317cb1dccdf5450d7b56068a1c5d5b197ce12c157", func := "pinfold/pinfoldlaw13.Tables", spec := "tables", inPlace := ["internal/bytealg.IndexByteString", "internal/bytealg.IndexString"], unfollowed := true, recurses := true, named := ["internal/bytealg.MaxLen"], apart := false, narrowed := true }
def TablesUptoSaid : Prop := tablesUptoRow.holds Try.pinned (OpenSpec.upto tablesSpec)

/-- 'pinfoldlaw13.TableMap', WHERE WHAT IT READS IS OF BULK AT MOST 1048576: true; the input reads as it did. -/
def tableMapUptoRow : OpenClaim := { program := "ytibmakpghbinbaa", sum := "58412299a46da3e1cfa072d317cb1dccdf5450d7b56068a1c5d5b197ce12c157", func := "pinfold/pinfoldlaw13.TableMap", spec := "tableMap", inPlace := ["internal/bytealg.IndexByteString", "internal/bytealg.IndexString"], unfollowed := true, recurses := true, named := ["internal/bytealg.MaxLen"], apart := false, narrowed := true }
def TableMapUptoSaid : Prop := tableMapUptoRow.holds Try.pinned (OpenSpec.upto tableMapSpec)

/-- 'pinfoldlaw13.TableForms', WHERE WHAT IT READS IS OF BULK AT MOST 1048576: true; the input reads as it did. -/
def tableFormsUptoRow : OpenClaim := { program := "ytibmakpghbinbaa", sum := "58412299a46da3e1cfa072d317cb1dccdf5450d7b56068a1c5d5b197ce12c157", func := "pinfold/pinfoldlaw13.TableForms", spec := "tableForms", inPlace := ["internal/bytealg.IndexByteString", "internal/bytealg.IndexString"], unfollowed := true, recurses := true, named := ["internal/bytealg.MaxLen"], apart := false, narrowed := true }
def TableFormsUptoSaid : Prop := tableFormsUptoRow.holds Try.pinned (OpenSpec.upto tableFormsSpec)

/-- 'pinfoldlaw13.TableWith', WHERE WHAT IT READS IS OF BULK AT MOST 1048576: true; the input reads as it did. -/
def tableWithUptoRow : OpenClaim := { program := "ytibmakpghbinbaa", sum := "58412299a46da3e1cfa072d317cb1dccdf5450d7b56068a1c5d5b197ce12c157", func := "pinfold/pinfoldlaw13.TableWith", spec := "tableWith", inPlace := ["internal/bytealg.IndexByteString", "internal/bytealg.IndexString"], unfollowed := true, recurses := true, named := ["internal/bytealg.MaxLen"], apart := false, narrowed := true }
def TableWithUptoSaid : Prop := tableWithUptoRow.holds Try.pinned (OpenSpec.upto tableWithSpec)

/-- 'pinfoldlaw23.Logs', WHERE WHAT IT READS IS OF BULK AT MOST 1048576: true; the input reads as it did. -/
def logsUptoRow : OpenClaim := { program := "ytibmakpghbinbaa", sum := "58412299a46da3e1cfa072d317cb1dccdf5450d7b56068a1c5d5b197ce12c157", func := "pinfold/pinfoldlaw23.Logs", spec := "logs", inPlace := ["internal/bytealg.IndexByteString", "internal/bytealg.IndexString", "internal/abi.NoEscape"], unfollowed := true, recurses := true, named := ["internal/bytealg.MaxLen"], apart := false, narrowed := true }
def LogsUptoSaid : Prop := logsUptoRow.holds Try.pinned (OpenSpec.upto logsSpec)

/-- 'pinfoldlaw23.LogCut', WHERE WHAT IT READS IS OF BULK AT MOST 1048576: true; the input reads as it did. -/
def logCutUptoRow : OpenClaim := { program := "ytibmakpghbinbaa", sum := "58412299a46da3e1cfa072d317cb1dccdf5450d7b56068a1c5d5b197ce12c157", func := "pinfold/pinfoldlaw23.LogCut", spec := "logCut", inPlace := ["internal/bytealg.IndexByteString", "internal/bytealg.IndexString", "internal/abi.NoEscape"], unfollowed := true, recurses := true, named := ["internal/bytealg.MaxLen"], apart := false, narrowed := true }
def LogCutUptoSaid : Prop := logCutUptoRow.holds Try.pinned (OpenSpec.upto logCutSpec)

/-- 'pinfoldlaw23.LogForms', WHERE WHAT IT READS IS OF BULK AT MOST 1048576: true; the input reads as it did. -/
def logFormsUptoRow : OpenClaim := { program := "ytibmakpghbinbaa", sum := "58412299a46da3e1cfa072d317cb1dccdf5450d7b56068a1c5d5b197ce12c157", func := "pinfold/pinfoldlaw23.LogForms", spec := "logForms", inPlace := ["internal/bytealg.IndexByteString", "internal/bytealg.IndexString", "internal/abi.NoEscape"], unfollowed := true, recurses := true, named := ["internal/bytealg.MaxLen"], apart := false, narrowed := true }
def LogFormsUptoSaid : Prop := logFormsUptoRow.holds Try.pinned (OpenSpec.upto logFormsSpec)

/-- 'pinfoldlaw23.LogReplays', WHERE WHAT IT READS IS OF BULK AT MOST 1048576: true; the input reads as it did. -/
def logReplaysUptoRow : OpenClaim := { program := "ytibmakpghbinbaa", sum := "58412299a46da3e1cfa072d317cb1dccdf5450d7b56068a1c5d5b197ce12c157", func := "pinfold/pinfoldlaw23.LogReplays", spec := "logReplays", inPlace := ["internal/bytealg.IndexByteString", "internal/bytealg.IndexString", "internal/abi.NoEscape"], unfollowed := true, recurses := true, named := ["internal/bytealg.MaxLen"], apart := false, narrowed := true }
def LogReplaysUptoSaid : Prop := logReplaysUptoRow.holds Try.pinned (OpenSpec.upto logReplaysSpec)

/-- 'pinfoldlaw23.LogBack', WHERE WHAT IT READS IS OF BULK AT MOST 1048576: true; the input reads as it did. -/
def logBackUptoRow : OpenClaim := { program := "ytibmakpghbinbaa", sum := "58412299a46da3e1cfa072d317cb1dccdf5450d7b56068a1c5d5b197ce12c157", func := "pinfold/pinfoldlaw23.LogBack", spec := "logBack", inPlace := ["internal/bytealg.IndexByteString", "internal/bytealg.IndexString", "internal/abi.NoEscape"], unfollowed := true, recurses := true, named := ["internal/bytealg.MaxLen"], apart := false, narrowed := true }
def LogBackUptoSaid : Prop := logBackUptoRow.holds Try.pinned (OpenSpec.upto logBackSpec)

end Rows
end Go.Proofs.Ytibmakpghbinbaa
