/-
  No cell of these rows narrows 'for every input' (looked for: loops, veiled, ifaces, maps, wideKeys, modest, calm, conditions, laid).
  DERIVED. THE GIVEN ROWS OF THIS SEAT. 11 by the template 'for every input the law returns true; each argument reads behind the call as it read before'; 0 by the template 'total and deterministic' (their statements: YtfjbcdalbmealaaTotals.lean).
  GIVEN WITH THE SEED: the statements are not yours to turn. If you find one false, say at which input.
  Laid BY PROGRAM, IN A SANDBOX (cutbox-rows.mjs): the forced cells as the released guide's own fill.sh prints them over the translation 34fa36c017a810ec… (all of the seat's roots in one cut). By AI agents, Wed Nov 11 2026. No macro, syntax, notation, axiom, sorry.
-/
import Derived.Test.YtfjbcdalbmealaaChecked
import GoSem.Claim
import GoSem.ClaimJoined
import GoSem.ClaimMapViews
import Derived.JoinedTies
import Derived.KernelRfl
namespace Go.Proofs.Ytfjbcdalbmealaa
/- THE CELL 'sum', in the pinned program and in every row, IS THE sha256 OF THE DUMP (.gsa) THAT YtfjbcdalbmealaaProg.lean LOADS. Nothing in Lean hashes anything: it is a label: what it is worth is what the hold of that sum in a sandbox is worth. -/
noncomputable def Try.pinned : Pinned := { name := "ytfjbcdalbmealaa", sum := "34fa36c017a810ecaa615c3d152a2495b8f31df1f72cacc78bbc56dad5a1c5c6", checked := Try.checked }
namespace Rows
def none {H : Type} : Left H := { results := [], args := [] }

/-- 'pinfoldlaw0.PinfoldNames': WHATEVER THE INPUT: true; the input reads as it did. -/
def pinfoldNamesSpec : ChangeSpec := { name := "pinfoldNames", fn := fun _ => fun
  | [] => { results := [.lit (.bool true)], args := [] }
  | _ => none }
def pinfoldNamesRow : OpenClaim := { program := "ytfjbcdalbmealaa", sum := "34fa36c017a810ecaa615c3d152a2495b8f31df1f72cacc78bbc56dad5a1c5c6", func := "pinfold/pinfoldlaw0.PinfoldNames", spec := "pinfoldNames", apart := false }
def PinfoldNamesSaid : Prop := pinfoldNamesRow.holds Try.pinned (OpenSpec.ofChange pinfoldNamesSpec)

/-- ITS FALSE NEIGHBOUR: 'it returns false'. Refute it at one input. -/
def pinfoldNamesWrong : ChangeSpec := { name := "pinfoldNames", fn := fun _ => fun
  | [] => { results := [.lit (.bool false)], args := [] }
  | _ => none }
def PinfoldNamesWrongFalsely : Prop := pinfoldNamesRow.holds Try.pinned (OpenSpec.ofChange pinfoldNamesWrong)

/-- 'pinfoldlaw10.Serials': WHATEVER THE INPUT: true; the input reads as it did. -/
def serialsSpec : ChangeSpec := { name := "serials", fn := fun _ => fun
  | [d1, d2] => { results := [.lit (.bool true)], args := [d1, d2] }
  | _ => none }
def serialsRow : OpenClaim := { program := "ytfjbcdalbmealaa", sum := "34fa36c017a810ecaa615c3d152a2495b8f31df1f72cacc78bbc56dad5a1c5c6", func := "pinfold/pinfoldlaw10.Serials", spec := "serials", apart := false }
def SerialsSaid : Prop := serialsRow.holds Try.pinned (OpenSpec.ofChange serialsSpec)

/-- ITS FALSE NEIGHBOUR: 'it returns false'. Refute it at one input. -/
def serialsWrong : ChangeSpec := { name := "serials", fn := fun _ => fun
  | [d1, d2] => { results := [.lit (.bool false)], args := [d1, d2] }
  | _ => none }
def SerialsWrongFalsely : Prop := serialsRow.holds Try.pinned (OpenSpec.ofChange serialsWrong)

/-- 'pinfoldlaw10.SerialTurns': WHATEVER THE INPUT: true; the input reads as it did. -/
def serialTurnsSpec : ChangeSpec := { name := "serialTurns", fn := fun _ => fun
  | [d1, d2] => { results := [.lit (.bool true)], args := [d1, d2] }
  | _ => none }
def serialTurnsRow : OpenClaim := { program := "ytfjbcdalbmealaa", sum := "34fa36c017a810ecaa615c3d152a2495b8f31df1f72cacc78bbc56dad5a1c5c6", func := "pinfold/pinfoldlaw10.SerialTurns", spec := "serialTurns", apart := false }
def SerialTurnsSaid : Prop := serialTurnsRow.holds Try.pinned (OpenSpec.ofChange serialTurnsSpec)

/-- ITS FALSE NEIGHBOUR: 'it returns false'. Refute it at one input. -/
def serialTurnsWrong : ChangeSpec := { name := "serialTurns", fn := fun _ => fun
  | [d1, d2] => { results := [.lit (.bool false)], args := [d1, d2] }
  | _ => none }
def SerialTurnsWrongFalsely : Prop := serialTurnsRow.holds Try.pinned (OpenSpec.ofChange serialTurnsWrong)

/-- 'pinfoldlaw10.SerialForms': WHATEVER THE INPUT: true; the input reads as it did. -/
def serialFormsSpec : ChangeSpec := { name := "serialForms", fn := fun _ => fun
  | [d] => { results := [.lit (.bool true)], args := [d] }
  | _ => none }
def serialFormsRow : OpenClaim := { program := "ytfjbcdalbmealaa", sum := "34fa36c017a810ecaa615c3d152a2495b8f31df1f72cacc78bbc56dad5a1c5c6", func := "pinfold/pinfoldlaw10.SerialForms", spec := "serialForms", apart := false }
def SerialFormsSaid : Prop := serialFormsRow.holds Try.pinned (OpenSpec.ofChange serialFormsSpec)

/-- ITS FALSE NEIGHBOUR: 'it returns false'. Refute it at one input. -/
def serialFormsWrong : ChangeSpec := { name := "serialForms", fn := fun _ => fun
  | [d] => { results := [.lit (.bool false)], args := [d] }
  | _ => none }
def SerialFormsWrongFalsely : Prop := serialFormsRow.holds Try.pinned (OpenSpec.ofChange serialFormsWrong)

/-- 'pinfoldlaw10.SerialRow': WHATEVER THE INPUT: true; the input reads as it did. -/
def serialRowSpec : ChangeSpec := { name := "serialRow", fn := fun _ => fun
  | [d1, d2] => { results := [.lit (.bool true)], args := [d1, d2] }
  | _ => none }
def serialRowRow : OpenClaim := { program := "ytfjbcdalbmealaa", sum := "34fa36c017a810ecaa615c3d152a2495b8f31df1f72cacc78bbc56dad5a1c5c6", func := "pinfold/pinfoldlaw10.SerialRow", spec := "serialRow", apart := false }
def SerialRowSaid : Prop := serialRowRow.holds Try.pinned (OpenSpec.ofChange serialRowSpec)

/-- ITS FALSE NEIGHBOUR: 'it returns false'. Refute it at one input. -/
def serialRowWrong : ChangeSpec := { name := "serialRow", fn := fun _ => fun
  | [d1, d2] => { results := [.lit (.bool false)], args := [d1, d2] }
  | _ => none }
def SerialRowWrongFalsely : Prop := serialRowRow.holds Try.pinned (OpenSpec.ofChange serialRowWrong)

/-- 'pinfoldlaw10.SerialMoves': WHATEVER THE INPUT: true; the input reads as it did. -/
def serialMovesSpec : ChangeSpec := { name := "serialMoves", fn := fun _ => fun
  | [d1, d2, d3] => { results := [.lit (.bool true)], args := [d1, d2, d3] }
  | _ => none }
def serialMovesRow : OpenClaim := { program := "ytfjbcdalbmealaa", sum := "34fa36c017a810ecaa615c3d152a2495b8f31df1f72cacc78bbc56dad5a1c5c6", func := "pinfold/pinfoldlaw10.SerialMoves", spec := "serialMoves", apart := false }
def SerialMovesSaid : Prop := serialMovesRow.holds Try.pinned (OpenSpec.ofChange serialMovesSpec)

/-- ITS FALSE NEIGHBOUR: 'it returns false'. Refute it at one input. -/
def serialMovesWrong : ChangeSpec := { name := "serialMoves", fn := fun _ => fun
  | [d1, d2, d3] => { results := [.lit (.bool false)], args := [d1, d2, d3] }
  | _ => none }
def SerialMovesWrongFalsely : Prop := serialMovesRow.holds Try.pinned (OpenSpec.ofChange serialMovesWrong)

/-- 'pinfoldlaw1.Bes': WHATEVER THE INPUT: true; the input reads as it did. -/
def besSpec : ChangeSpec := { name := "bes", fn := fun _ => fun
  | [d1, d2, d3, d4] => { results := [.lit (.bool true)], args := [d1, d2, d3, d4] }
  | _ => none }
def besRow : OpenClaim := { program := "ytfjbcdalbmealaa", sum := "34fa36c017a810ecaa615c3d152a2495b8f31df1f72cacc78bbc56dad5a1c5c6", func := "pinfold/pinfoldlaw1.Bes", spec := "bes", apart := false }
def BesSaid : Prop := besRow.holds Try.pinned (OpenSpec.ofChange besSpec)

/-- ITS FALSE NEIGHBOUR: 'it returns false'. Refute it at one input. -/
def besWrong : ChangeSpec := { name := "bes", fn := fun _ => fun
  | [d1, d2, d3, d4] => { results := [.lit (.bool false)], args := [d1, d2, d3, d4] }
  | _ => none }
def BesWrongFalsely : Prop := besRow.holds Try.pinned (OpenSpec.ofChange besWrong)

/-- 'pinfoldlaw1.BeBack': WHATEVER THE INPUT: true; the input reads as it did. -/
def beBackSpec : ChangeSpec := { name := "beBack", fn := fun _ => fun
  | [d1, d2, d3, d4] => { results := [.lit (.bool true)], args := [d1, d2, d3, d4] }
  | _ => none }
def beBackRow : OpenClaim := { program := "ytfjbcdalbmealaa", sum := "34fa36c017a810ecaa615c3d152a2495b8f31df1f72cacc78bbc56dad5a1c5c6", func := "pinfold/pinfoldlaw1.BeBack", spec := "beBack", apart := false }
def BeBackSaid : Prop := beBackRow.holds Try.pinned (OpenSpec.ofChange beBackSpec)

/-- ITS FALSE NEIGHBOUR: 'it returns false'. Refute it at one input. -/
def beBackWrong : ChangeSpec := { name := "beBack", fn := fun _ => fun
  | [d1, d2, d3, d4] => { results := [.lit (.bool false)], args := [d1, d2, d3, d4] }
  | _ => none }
def BeBackWrongFalsely : Prop := beBackRow.holds Try.pinned (OpenSpec.ofChange beBackWrong)

/-- 'pinfoldlaw1.BeForms': WHATEVER THE INPUT: true; the input reads as it did. -/
def beFormsSpec : ChangeSpec := { name := "beForms", fn := fun _ => fun
  | [d1, d2] => { results := [.lit (.bool true)], args := [d1, d2] }
  | _ => none }
def beFormsRow : OpenClaim := { program := "ytfjbcdalbmealaa", sum := "34fa36c017a810ecaa615c3d152a2495b8f31df1f72cacc78bbc56dad5a1c5c6", func := "pinfold/pinfoldlaw1.BeForms", spec := "beForms", apart := false }
def BeFormsSaid : Prop := beFormsRow.holds Try.pinned (OpenSpec.ofChange beFormsSpec)

/-- ITS FALSE NEIGHBOUR: 'it returns false'. Refute it at one input. -/
def beFormsWrong : ChangeSpec := { name := "beForms", fn := fun _ => fun
  | [d1, d2] => { results := [.lit (.bool false)], args := [d1, d2] }
  | _ => none }
def BeFormsWrongFalsely : Prop := beFormsRow.holds Try.pinned (OpenSpec.ofChange beFormsWrong)

/-- 'pinfoldlaw1.BeParts': WHATEVER THE INPUT: true; the input reads as it did. -/
def bePartsSpec : ChangeSpec := { name := "beParts", fn := fun _ => fun
  | [d1, d2] => { results := [.lit (.bool true)], args := [d1, d2] }
  | _ => none }
def bePartsRow : OpenClaim := { program := "ytfjbcdalbmealaa", sum := "34fa36c017a810ecaa615c3d152a2495b8f31df1f72cacc78bbc56dad5a1c5c6", func := "pinfold/pinfoldlaw1.BeParts", spec := "beParts", apart := false }
def BePartsSaid : Prop := bePartsRow.holds Try.pinned (OpenSpec.ofChange bePartsSpec)

/-- ITS FALSE NEIGHBOUR: 'it returns false'. Refute it at one input. -/
def bePartsWrong : ChangeSpec := { name := "beParts", fn := fun _ => fun
  | [d1, d2] => { results := [.lit (.bool false)], args := [d1, d2] }
  | _ => none }
def BePartsWrongFalsely : Prop := bePartsRow.holds Try.pinned (OpenSpec.ofChange bePartsWrong)

/-- 'pinfoldlaw1.BeMany': WHATEVER THE INPUT: true; the input reads as it did. -/
def beManySpec : ChangeSpec := { name := "beMany", fn := fun _ => fun
  | [d] => { results := [.lit (.bool true)], args := [d] }
  | _ => none }
def beManyRow : OpenClaim := { program := "ytfjbcdalbmealaa", sum := "34fa36c017a810ecaa615c3d152a2495b8f31df1f72cacc78bbc56dad5a1c5c6", func := "pinfold/pinfoldlaw1.BeMany", spec := "beMany", apart := false }
def BeManySaid : Prop := beManyRow.holds Try.pinned (OpenSpec.ofChange beManySpec)

/-- ITS FALSE NEIGHBOUR: 'it returns false'. Refute it at one input. -/
def beManyWrong : ChangeSpec := { name := "beMany", fn := fun _ => fun
  | [d] => { results := [.lit (.bool false)], args := [d] }
  | _ => none }
def BeManyWrongFalsely : Prop := beManyRow.holds Try.pinned (OpenSpec.ofChange beManyWrong)

/- THE SECOND FORM. 'bulk': how many values and letters a reading holds, each counted each time it is reached (what is shared counts as often as it is met; a slice's spare places count too). A statement '..UptoSaid' is the law's where the arguments, and the package variables that the reading takes, are together of bulk at most 1048576: NARROWER than '..Said'. Prove '..Said' where nothing that the law and all that it calls make is longer than what came in: it says more and counts as full. Else prove '..UptoSaid'. A law counts once. -/
mutual
def uptoBulk {H : Type} : DataW H → Nat
  | .lit (.string bytes) => bytes.length + 1
  | .lit _ => 1
  | .nil => 1
  | .ptr d => uptoBulk d + 1
  | .slice elems spare => uptoBulkAll elems + uptoBulkAll spare + 1
  | .agg parts => uptoBulkAll parts + 1
  | .iface _ d => uptoBulk d + 1
  | .map entries => uptoBulkEntries entries + 1
  | .held _ => 1
def uptoBulkAll {H : Type} : List (DataW H) → Nat
  | [] => 0
  | d :: r => uptoBulk d + uptoBulkAll r
def uptoBulkEntries {H : Type} : List (Lit × DataW H) → Nat
  | [] => 0
  | x :: r => uptoBulkEntry x + uptoBulkEntries r
def uptoBulkEntry {H : Type} : Lit × DataW H → Nat
  | (.string bytes, d) => bytes.length + uptoBulk d + 1
  | (_, d) => uptoBulk d + 1
 end
def uptoSmall : (H : Type) → List (DataW H) → Bool := fun _ ds => decide (uptoBulkAll ds ≤ 1048576)
def OpenSpec.upto (s : _root_.Go.ChangeSpec) : _root_.Go.OpenSpec := { _root_.Go.OpenSpec.ofChange s with cond := some uptoSmall }

/-- 'pinfoldlaw0.PinfoldNames', WHERE WHAT IT READS IS OF BULK AT MOST 1048576: true; the input reads as it did. -/
def pinfoldNamesUptoRow : OpenClaim := { program := "ytfjbcdalbmealaa", sum := "34fa36c017a810ecaa615c3d152a2495b8f31df1f72cacc78bbc56dad5a1c5c6", func := "pinfold/pinfoldlaw0.PinfoldNames", spec := "pinfoldNames", apart := false, narrowed := true }
def PinfoldNamesUptoSaid : Prop := pinfoldNamesUptoRow.holds Try.pinned (OpenSpec.upto pinfoldNamesSpec)

/-- 'pinfoldlaw10.Serials', WHERE WHAT IT READS IS OF BULK AT MOST 1048576: true; the input reads as it did. -/
def serialsUptoRow : OpenClaim := { program := "ytfjbcdalbmealaa", sum := "34fa36c017a810ecaa615c3d152a2495b8f31df1f72cacc78bbc56dad5a1c5c6", func := "pinfold/pinfoldlaw10.Serials", spec := "serials", apart := false, narrowed := true }
def SerialsUptoSaid : Prop := serialsUptoRow.holds Try.pinned (OpenSpec.upto serialsSpec)

/-- 'pinfoldlaw10.SerialTurns', WHERE WHAT IT READS IS OF BULK AT MOST 1048576: true; the input reads as it did. -/
def serialTurnsUptoRow : OpenClaim := { program := "ytfjbcdalbmealaa", sum := "34fa36c017a810ecaa615c3d152a2495b8f31df1f72cacc78bbc56dad5a1c5c6", func := "pinfold/pinfoldlaw10.SerialTurns", spec := "serialTurns", apart := false, narrowed := true }
def SerialTurnsUptoSaid : Prop := serialTurnsUptoRow.holds Try.pinned (OpenSpec.upto serialTurnsSpec)

/-- 'pinfoldlaw10.SerialForms', WHERE WHAT IT READS IS OF BULK AT MOST 1048576: true; the input reads as it did. -/
def serialFormsUptoRow : OpenClaim := { program := "ytfjbcdalbmealaa", sum := "34fa36c017a810ecaa615c3d152a2495b8f31df1f72cacc78bbc56dad5a1c5c6", func := "pinfold/pinfoldlaw10.SerialForms", spec := "serialForms", apart := false, narrowed := true }
def SerialFormsUptoSaid : Prop := serialFormsUptoRow.holds Try.pinned (OpenSpec.upto serialFormsSpec)

/-- 'pinfoldlaw10.SerialRow', WHERE WHAT IT READS IS OF BULK AT MOST 1048576: true; the input reads as it did. -/
def serialRowUptoRow : OpenClaim := { program := "ytfjbcdalbmealaa", sum := "34fa36c017a810ecaa615c3d152a2495b8f31df1f72cacc78bbc56dad5a1c5c6", func := "pinfold/pinfoldlaw10.SerialRow", spec := "serialRow", apart := false, narrowed := true }
def SerialRowUptoSaid : Prop := serialRowUptoRow.holds Try.pinned (OpenSpec.upto serialRowSpec)

/-- 'pinfoldlaw10.SerialMoves', WHERE WHAT IT READS IS OF BULK AT MOST 1048576: true; the input reads as it did. -/
def serialMovesUptoRow : OpenClaim := { program := "ytfjbcdalbmealaa", sum := "34fa36c017a810ecaa615c3d152a2495b8f31df1f72cacc78bbc56dad5a1c5c6", func := "pinfold/pinfoldlaw10.SerialMoves", spec := "serialMoves", apart := false, narrowed := true }
def SerialMovesUptoSaid : Prop := serialMovesUptoRow.holds Try.pinned (OpenSpec.upto serialMovesSpec)

/-- 'pinfoldlaw1.Bes', WHERE WHAT IT READS IS OF BULK AT MOST 1048576: true; the input reads as it did. -/
def besUptoRow : OpenClaim := { program := "ytfjbcdalbmealaa", sum := "34fa36c017a810ecaa615c3d152a2495b8f31df1f72cacc78bbc56dad5a1c5c6", func := "pinfold/pinfoldlaw1.Bes", spec := "bes", apart := false, narrowed := true }
def BesUptoSaid : Prop := besUptoRow.holds Try.pinned (OpenSpec.upto besSpec)

/-- 'pinfoldlaw1.BeBack', WHERE WHAT IT READS IS OF BULK AT MOST 1048576: true; the input reads as it did. -/
def beBackUptoRow : OpenClaim := { program := "ytfjbcdalbmealaa", sum := "34fa36c017a810ecaa615c3d152a2495b8f31df1f72cacc78bbc56dad5a1c5c6", func := "pinfold/pinfoldlaw1.BeBack", spec := "beBack", apart := false, narrowed := true }
def BeBackUptoSaid : Prop := beBackUptoRow.holds Try.pinned (OpenSpec.upto beBackSpec)

/-- 'pinfoldlaw1.BeForms', WHERE WHAT IT READS IS OF BULK AT MOST 1048576: true; the input reads as it did. -/
def beFormsUptoRow : OpenClaim := { program := "ytfjbcdalbmealaa", sum := "34fa36c017a810ecaa615c3d152a2495b8f31df1f72cacc78bbc56dad5a1c5c6", func := "pinfold/pinfoldlaw1.BeForms", spec := "beForms", apart := false, narrowed := true }
def BeFormsUptoSaid : Prop := beFormsUptoRow.holds Try.pinned (OpenSpec.upto beFormsSpec)

/-- 'pinfoldlaw1.BeParts', WHERE WHAT IT READS IS OF BULK AT MOST 1048576: true; the input reads as it did. -/
def bePartsUptoRow : OpenClaim := { program := "ytfjbcdalbmealaa", sum := "34fa36c017a810ecaa615c3d152a2495b8f31df1f72cacc78bbc56dad5a1c5c6", func := "pinfold/pinfoldlaw1.BeParts", spec := "beParts", apart := false, narrowed := true }
def BePartsUptoSaid : Prop := bePartsUptoRow.holds Try.pinned (OpenSpec.upto bePartsSpec)

/-- 'pinfoldlaw1.BeMany', WHERE WHAT IT READS IS OF BULK AT MOST 1048576: true; the input reads as it did. -/
def beManyUptoRow : OpenClaim := { program := "ytfjbcdalbmealaa", sum := "34fa36c017a810ecaa615c3d152a2495b8f31df1f72cacc78bbc56dad5a1c5c6", func := "pinfold/pinfoldlaw1.BeMany", spec := "beMany", apart := false, narrowed := true }
def BeManyUptoSaid : Prop := beManyUptoRow.holds Try.pinned (OpenSpec.upto beManySpec)

end Rows
end Go.Proofs.Ytfjbcdalbmealaa
