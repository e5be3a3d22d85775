/-
  NARROWER THAN 'FOR EVERY INPUT', by the rows' own cells (each row's printed sentence says how): Drops: laid · DropOwn: laid · DropForms: laid · DropThen: laid · DropTwice: laid · Picks: laid · PickOpen: laid · PickForms: laid · PickRow: laid · PickSame: laid.
  DERIVED. THE GIVEN ROWS OF THIS SEAT. 10 by the template 'for every input the law returns true; each argument reads behind the call as it read before'; 0 by the template 'total and deterministic' (their statements: YtmoobaehoccihaaDoorTotals.lean).
  GIVEN WITH THE SEED: the statements are not yours to turn. If you find one false, say at which input.
  Laid BY PROGRAM, IN A SANDBOX (cutbox-rows.mjs): the forced cells as the released guide's own fill.sh prints them over the translation 01f869df0df9f535… (all of the seat's roots in one cut). By AI agents, Wed Nov 11 2026. No macro, syntax, notation, axiom, sorry.
-/
import Derived.Test.YtmoobaehoccihaaDoorChecked
import GoSem.PinnedTables
import GoSem.Claim
import GoSem.ClaimJoined
import GoSem.ClaimMapViews
import Derived.JoinedTies
import Derived.KernelRfl
namespace Go.Proofs.YtmoobaehoccihaaDoor
/- THE CELL 'sum', in the pinned program and in every row, IS THE sha256 OF THE DUMP (.gsa) THAT YtmoobaehoccihaaDoorProg.lean LOADS. Nothing in Lean hashes anything: it is a label: what it is worth is what the hold of that sum in a sandbox is worth. -/
noncomputable def Tryd.pinned : Pinned := { name := "ytmoobaehoccihaadoor", sum := "01f869df0df9f535e625e53643a5a36deffdad5e686dfdecfae7ef50e4a3796c", checked := Tryd.checked }
namespace Rows
def none {H : Type} : Left H := { results := [], args := [] }

/- WHAT THE LISTED PACKAGE-LEVEL VARIABLES READ AS WHEN THE CALL BEGINS. Each datum BY PROGRAM (the guide's laid-datum.mjs) off the statement by which the dump's own 'gosem.cut.vars' lays the variable. In a bare row this is a premise. The card (YtmoobaehoccihaaDoorCards.lean) ties it to the program's text. -/
def laid_unicode_utf8_acceptRanges {H : Type} : DataW H := .agg [.agg [.lit (.int .u8 128), .lit (.int .u8 191)], .agg [.lit (.int .u8 160), .lit (.int .u8 191)], .agg [.lit (.int .u8 128), .lit (.int .u8 159)], .agg [.lit (.int .u8 144), .lit (.int .u8 191)], .agg [.lit (.int .u8 128), .lit (.int .u8 143)], .agg [.lit (.int .u8 0), .lit (.int .u8 0)], .agg [.lit (.int .u8 0), .lit (.int .u8 0)], .agg [.lit (.int .u8 0), .lit (.int .u8 0)], .agg [.lit (.int .u8 0), .lit (.int .u8 0)], .agg [.lit (.int .u8 0), .lit (.int .u8 0)], .agg [.lit (.int .u8 0), .lit (.int .u8 0)], .agg [.lit (.int .u8 0), .lit (.int .u8 0)], .agg [.lit (.int .u8 0), .lit (.int .u8 0)], .agg [.lit (.int .u8 0), .lit (.int .u8 0)], .agg [.lit (.int .u8 0), .lit (.int .u8 0)], .agg [.lit (.int .u8 0), .lit (.int .u8 0)]]
/-- One of Go's own tables, pinned by name: the form's constant. -/
def laid_unicode_utf8_first : DataW Unit := Go.Pinned.utf8First

/-- 'pinfoldlaw18.Drops': WHATEVER THE INPUT: true; the input reads as it did. -/
def dropsSpec : ChangeSpec := { name := "drops", fn := fun _ => fun
  | [d1, d2, d3, d4, d5] => { results := [.lit (.bool true)], args := [d1, d2, d3, d4, d5] }
  | _ => none }
def dropsRow : OpenClaim := { program := "ytmoobaehoccihaadoor", sum := "01f869df0df9f535e625e53643a5a36deffdad5e686dfdecfae7ef50e4a3796c", func := "pinfold/pinfoldlaw18.Drops", spec := "drops", inPlace := ["internal/bytealg.IndexByteString", "internal/bytealg.IndexString", "internal/bytealg.CountString"], unfollowed := true, recurses := true, named := ["internal/bytealg.MaxLen", "unicode/utf8.first", "unicode/utf8.acceptRanges"], apart := false, laid := [("unicode/utf8.acceptRanges", laid_unicode_utf8_acceptRanges), ("unicode/utf8.first", laid_unicode_utf8_first)] }
def DropsSaid : Prop := dropsRow.holds Tryd.pinned (OpenSpec.ofChange dropsSpec)

/-- ITS FALSE NEIGHBOUR: 'it returns false'. Refute it at one input. -/
def dropsWrong : ChangeSpec := { name := "drops", fn := fun _ => fun
  | [d1, d2, d3, d4, d5] => { results := [.lit (.bool false)], args := [d1, d2, d3, d4, d5] }
  | _ => none }
def DropsWrongFalsely : Prop := dropsRow.holds Tryd.pinned (OpenSpec.ofChange dropsWrong)

/-- 'pinfoldlaw18.DropOwn': WHATEVER THE INPUT: true; the input reads as it did. -/
def dropOwnSpec : ChangeSpec := { name := "dropOwn", fn := fun _ => fun
  | [d1, d2, d3, d4, d5] => { results := [.lit (.bool true)], args := [d1, d2, d3, d4, d5] }
  | _ => none }
def dropOwnRow : OpenClaim := { program := "ytmoobaehoccihaadoor", sum := "01f869df0df9f535e625e53643a5a36deffdad5e686dfdecfae7ef50e4a3796c", func := "pinfold/pinfoldlaw18.DropOwn", spec := "dropOwn", inPlace := ["internal/bytealg.IndexByteString", "internal/bytealg.IndexString", "internal/bytealg.CountString"], unfollowed := true, recurses := true, named := ["internal/bytealg.MaxLen", "unicode/utf8.first", "unicode/utf8.acceptRanges"], apart := false, laid := [("unicode/utf8.acceptRanges", laid_unicode_utf8_acceptRanges), ("unicode/utf8.first", laid_unicode_utf8_first)] }
def DropOwnSaid : Prop := dropOwnRow.holds Tryd.pinned (OpenSpec.ofChange dropOwnSpec)

/-- ITS FALSE NEIGHBOUR: 'it returns false'. Refute it at one input. -/
def dropOwnWrong : ChangeSpec := { name := "dropOwn", fn := fun _ => fun
  | [d1, d2, d3, d4, d5] => { results := [.lit (.bool false)], args := [d1, d2, d3, d4, d5] }
  | _ => none }
def DropOwnWrongFalsely : Prop := dropOwnRow.holds Tryd.pinned (OpenSpec.ofChange dropOwnWrong)

/-- 'pinfoldlaw18.DropForms': WHATEVER THE INPUT: true; the input reads as it did. -/
def dropFormsSpec : ChangeSpec := { name := "dropForms", fn := fun _ => fun
  | [d1, d2] => { results := [.lit (.bool true)], args := [d1, d2] }
  | _ => none }
def dropFormsRow : OpenClaim := { program := "ytmoobaehoccihaadoor", sum := "01f869df0df9f535e625e53643a5a36deffdad5e686dfdecfae7ef50e4a3796c", func := "pinfold/pinfoldlaw18.DropForms", spec := "dropForms", inPlace := ["internal/bytealg.IndexByteString", "internal/bytealg.IndexString", "internal/bytealg.CountString"], unfollowed := true, recurses := true, named := ["internal/bytealg.MaxLen", "unicode/utf8.first", "unicode/utf8.acceptRanges"], apart := false, laid := [("unicode/utf8.acceptRanges", laid_unicode_utf8_acceptRanges), ("unicode/utf8.first", laid_unicode_utf8_first)] }
def DropFormsSaid : Prop := dropFormsRow.holds Tryd.pinned (OpenSpec.ofChange dropFormsSpec)

/-- ITS FALSE NEIGHBOUR: 'it returns false'. Refute it at one input. -/
def dropFormsWrong : ChangeSpec := { name := "dropForms", fn := fun _ => fun
  | [d1, d2] => { results := [.lit (.bool false)], args := [d1, d2] }
  | _ => none }
def DropFormsWrongFalsely : Prop := dropFormsRow.holds Tryd.pinned (OpenSpec.ofChange dropFormsWrong)

/-- 'pinfoldlaw18.DropThen': WHATEVER THE INPUT: true; the input reads as it did. -/
def dropThenSpec : ChangeSpec := { name := "dropThen", fn := fun _ => fun
  | [d1, d2] => { results := [.lit (.bool true)], args := [d1, d2] }
  | _ => none }
def dropThenRow : OpenClaim := { program := "ytmoobaehoccihaadoor", sum := "01f869df0df9f535e625e53643a5a36deffdad5e686dfdecfae7ef50e4a3796c", func := "pinfold/pinfoldlaw18.DropThen", spec := "dropThen", inPlace := ["internal/bytealg.IndexByteString", "internal/bytealg.IndexString", "internal/bytealg.CountString"], unfollowed := true, recurses := true, named := ["internal/bytealg.MaxLen", "unicode/utf8.first", "unicode/utf8.acceptRanges"], apart := false, laid := [("unicode/utf8.acceptRanges", laid_unicode_utf8_acceptRanges), ("unicode/utf8.first", laid_unicode_utf8_first)] }
def DropThenSaid : Prop := dropThenRow.holds Tryd.pinned (OpenSpec.ofChange dropThenSpec)

/-- ITS FALSE NEIGHBOUR: 'it returns false'. Refute it at one input. -/
def dropThenWrong : ChangeSpec := { name := "dropThen", fn := fun _ => fun
  | [d1, d2] => { results := [.lit (.bool false)], args := [d1, d2] }
  | _ => none }
def DropThenWrongFalsely : Prop := dropThenRow.holds Tryd.pinned (OpenSpec.ofChange dropThenWrong)

/-- 'pinfoldlaw18.DropTwice': WHATEVER THE INPUT: true; the input reads as it did. -/
def dropTwiceSpec : ChangeSpec := { name := "dropTwice", fn := fun _ => fun
  | [d1, d2, d3, d4, d5] => { results := [.lit (.bool true)], args := [d1, d2, d3, d4, d5] }
  | _ => none }
def dropTwiceRow : OpenClaim := { program := "ytmoobaehoccihaadoor", sum := "01f869df0df9f535e625e53643a5a36deffdad5e686dfdecfae7ef50e4a3796c", func := "pinfold/pinfoldlaw18.DropTwice", spec := "dropTwice", inPlace := ["internal/bytealg.IndexByteString", "internal/bytealg.IndexString", "internal/bytealg.CountString"], unfollowed := true, recurses := true, named := ["internal/bytealg.MaxLen", "unicode/utf8.first", "unicode/utf8.acceptRanges"], apart := false, laid := [("unicode/utf8.acceptRanges", laid_unicode_utf8_acceptRanges), ("unicode/utf8.first", laid_unicode_utf8_first)] }
def DropTwiceSaid : Prop := dropTwiceRow.holds Tryd.pinned (OpenSpec.ofChange dropTwiceSpec)

/-- ITS FALSE NEIGHBOUR: 'it returns false'. Refute it at one input. -/
def dropTwiceWrong : ChangeSpec := { name := "dropTwice", fn := fun _ => fun
  | [d1, d2, d3, d4, d5] => { results := [.lit (.bool false)], args := [d1, d2, d3, d4, d5] }
  | _ => none }
def DropTwiceWrongFalsely : Prop := dropTwiceRow.holds Tryd.pinned (OpenSpec.ofChange dropTwiceWrong)

/-- 'pinfoldlaw14.Picks': WHATEVER THE INPUT: true; the input reads as it did. -/
def picksSpec : ChangeSpec := { name := "picks", fn := fun _ => fun
  | [d1, d2, d3, d4, d5] => { results := [.lit (.bool true)], args := [d1, d2, d3, d4, d5] }
  | _ => none }
def picksRow : OpenClaim := { program := "ytmoobaehoccihaadoor", sum := "01f869df0df9f535e625e53643a5a36deffdad5e686dfdecfae7ef50e4a3796c", func := "pinfold/pinfoldlaw14.Picks", spec := "picks", inPlace := ["internal/bytealg.IndexByteString", "internal/bytealg.IndexString", "internal/bytealg.CountString"], unfollowed := true, recurses := true, named := ["internal/bytealg.MaxLen", "unicode/utf8.first", "unicode/utf8.acceptRanges"], apart := false, laid := [("unicode/utf8.acceptRanges", laid_unicode_utf8_acceptRanges), ("unicode/utf8.first", laid_unicode_utf8_first)] }
def PicksSaid : Prop := picksRow.holds Tryd.pinned (OpenSpec.ofChange picksSpec)

/-- ITS FALSE NEIGHBOUR: 'it returns false'. Refute it at one input. -/
def picksWrong : ChangeSpec := { name := "picks", fn := fun _ => fun
  | [d1, d2, d3, d4, d5] => { results := [.lit (.bool false)], args := [d1, d2, d3, d4, d5] }
  | _ => none }
def PicksWrongFalsely : Prop := picksRow.holds Tryd.pinned (OpenSpec.ofChange picksWrong)

/-- 'pinfoldlaw14.PickOpen': WHATEVER THE INPUT: true; the input reads as it did. -/
def pickOpenSpec : ChangeSpec := { name := "pickOpen", fn := fun _ => fun
  | [d1, d2, d3, d4, d5] => { results := [.lit (.bool true)], args := [d1, d2, d3, d4, d5] }
  | _ => none }
def pickOpenRow : OpenClaim := { program := "ytmoobaehoccihaadoor", sum := "01f869df0df9f535e625e53643a5a36deffdad5e686dfdecfae7ef50e4a3796c", func := "pinfold/pinfoldlaw14.PickOpen", spec := "pickOpen", inPlace := ["internal/bytealg.IndexByteString", "internal/bytealg.IndexString", "internal/bytealg.CountString"], unfollowed := true, recurses := true, named := ["internal/bytealg.MaxLen", "unicode/utf8.first", "unicode/utf8.acceptRanges"], apart := false, laid := [("unicode/utf8.acceptRanges", laid_unicode_utf8_acceptRanges), ("unicode/utf8.first", laid_unicode_utf8_first)] }
def PickOpenSaid : Prop := pickOpenRow.holds Tryd.pinned (OpenSpec.ofChange pickOpenSpec)

/-- ITS FALSE NEIGHBOUR: 'it returns false'. Refute it at one input. -/
def pickOpenWrong : ChangeSpec := { name := "pickOpen", fn := fun _ => fun
  | [d1, d2, d3, d4, d5] => { results := [.lit (.bool false)], args := [d1, d2, d3, d4, d5] }
  | _ => none }
def PickOpenWrongFalsely : Prop := pickOpenRow.holds Tryd.pinned (OpenSpec.ofChange pickOpenWrong)

/-- 'pinfoldlaw14.PickForms': WHATEVER THE INPUT: true; the input reads as it did. -/
def pickFormsSpec : ChangeSpec := { name := "pickForms", fn := fun _ => fun
  | [d1, d2] => { results := [.lit (.bool true)], args := [d1, d2] }
  | _ => none }
def pickFormsRow : OpenClaim := { program := "ytmoobaehoccihaadoor", sum := "01f869df0df9f535e625e53643a5a36deffdad5e686dfdecfae7ef50e4a3796c", func := "pinfold/pinfoldlaw14.PickForms", spec := "pickForms", inPlace := ["internal/bytealg.IndexByteString", "internal/bytealg.IndexString", "internal/bytealg.CountString"], unfollowed := true, recurses := true, named := ["internal/bytealg.MaxLen", "unicode/utf8.first", "unicode/utf8.acceptRanges"], apart := false, laid := [("unicode/utf8.acceptRanges", laid_unicode_utf8_acceptRanges), ("unicode/utf8.first", laid_unicode_utf8_first)] }
def PickFormsSaid : Prop := pickFormsRow.holds Tryd.pinned (OpenSpec.ofChange pickFormsSpec)

/-- ITS FALSE NEIGHBOUR: 'it returns false'. Refute it at one input. -/
def pickFormsWrong : ChangeSpec := { name := "pickForms", fn := fun _ => fun
  | [d1, d2] => { results := [.lit (.bool false)], args := [d1, d2] }
  | _ => none }
def PickFormsWrongFalsely : Prop := pickFormsRow.holds Tryd.pinned (OpenSpec.ofChange pickFormsWrong)

/-- 'pinfoldlaw14.PickRow': WHATEVER THE INPUT: true; the input reads as it did. -/
def pickRowSpec : ChangeSpec := { name := "pickRow", fn := fun _ => fun
  | [d] => { results := [.lit (.bool true)], args := [d] }
  | _ => none }
def pickRowRow : OpenClaim := { program := "ytmoobaehoccihaadoor", sum := "01f869df0df9f535e625e53643a5a36deffdad5e686dfdecfae7ef50e4a3796c", func := "pinfold/pinfoldlaw14.PickRow", spec := "pickRow", inPlace := ["internal/bytealg.IndexByteString", "internal/bytealg.IndexString", "internal/bytealg.CountString"], unfollowed := true, recurses := true, named := ["internal/bytealg.MaxLen", "unicode/utf8.first", "unicode/utf8.acceptRanges"], apart := false, laid := [("unicode/utf8.acceptRanges", laid_unicode_utf8_acceptRanges), ("unicode/utf8.first", laid_unicode_utf8_first)] }
def PickRowSaid : Prop := pickRowRow.holds Tryd.pinned (OpenSpec.ofChange pickRowSpec)

/-- ITS FALSE NEIGHBOUR: 'it returns false'. Refute it at one input. -/
def pickRowWrong : ChangeSpec := { name := "pickRow", fn := fun _ => fun
  | [d] => { results := [.lit (.bool false)], args := [d] }
  | _ => none }
def PickRowWrongFalsely : Prop := pickRowRow.holds Tryd.pinned (OpenSpec.ofChange pickRowWrong)

/-- 'pinfoldlaw14.PickSame': WHATEVER THE INPUT: true; the input reads as it did. -/
def pickSameSpec : ChangeSpec := { name := "pickSame", fn := fun _ => fun
  | [d1, d2, d3, d4, d5, d6] => { results := [.lit (.bool true)], args := [d1, d2, d3, d4, d5, d6] }
  | _ => none }
def pickSameRow : OpenClaim := { program := "ytmoobaehoccihaadoor", sum := "01f869df0df9f535e625e53643a5a36deffdad5e686dfdecfae7ef50e4a3796c", func := "pinfold/pinfoldlaw14.PickSame", spec := "pickSame", inPlace := ["internal/bytealg.IndexByteString", "internal/bytealg.IndexString", "internal/bytealg.CountString"], unfollowed := true, recurses := true, named := ["internal/bytealg.MaxLen", "unicode/utf8.first", "unicode/utf8.acceptRanges"], apart := false, laid := [("unicode/utf8.acceptRanges", laid_unicode_utf8_acceptRanges), ("unicode/utf8.first", laid_unicode_utf8_first)] }
def PickSameSaid : Prop := pickSameRow.holds Tryd.pinned (OpenSpec.ofChange pickSameSpec)

/-- ITS FALSE NEIGHBOUR: 'it returns false'. Refute it at one input. -/
def pickSameWrong : ChangeSpec := { name := "pickSame", fn := fun _ => fun
  | [d1, d2, d3, d4, d5, d6] => { results := [.lit (.bool false)], args := [d1, d2, d3, d4, d5, d6] }
  | _ => none }
def PickSameWrongFalsely : Prop := pickSameRow.holds Tryd.pinned (OpenSpec.ofChange pickSameWrong)

/- THE SECOND FORM. 'bulk': how many values and letters a reading holds, each counted each time it is reached (what is shared counts as often as it is met; a slice's spare places count too). A statement '..UptoSaid' is the law's where the arguments, and the package variables that the reading takes, are together of bulk at most 1048576: NARROWER than '..Said'. Prove '..Said' where nothing that the law and all that it calls make is longer than what came in: it says more and counts as full. Else prove '..UptoSaid'. A law counts once. -/
mutual
def uptoBulk {H : Type} : DataW H → Nat
  | .lit (.string bytes) => bytes.length + 1
  | .lit _ => 1
  | .nil => 1
  | .ptr d => uptoBulk d + 1
  | .slice elems spare => uptoBulkAll elems + uptoBulkAll spare + 1
  | .agg parts => uptoBulkAll parts + 1
  | .iface _ d => uptoBulk d + 1
  | .map entries => uptoBulkEntries entries + 1
  | .held _ => 1
def uptoBulkAll {H : Type} : List (DataW H) → Nat
  | [] => 0
  | d :: r => uptoBulk d + uptoBulkAll r
def uptoBulkEntries {H : Type} : List (Lit × DataW H) → Nat
  | [] => 0
  | x :: r => uptoBulkEntry x + uptoBulkEntries r
def uptoBulkEntry {H : Type} : Lit × DataW H → Nat
  | (.string bytes, d) => bytes.length + uptoBulk d + 1
  | (_, d) => uptoBulk d + 1
 end
def uptoSmall : (H : Type) → List (DataW H) → Bool := fun _ ds => decide (uptoBulkAll ds ≤ 1048576)
def OpenSpec.upto (s : _root_.Go.ChangeSpec) : _root_.Go.OpenSpec := { _root_.Go.OpenSpec.ofChange s with cond := some uptoSmall }

/-- 'pinfoldlaw18.Drops', WHERE WHAT IT READS IS OF BULK AT MOST 1048576: true; the input reads as it did. -/
def dropsUptoRow : OpenClaim := { program := "ytmoobaehoccihaadoor", sum := "01f869df0df9f535e625e53643a5a36deffdad5e686dfdecfae7ef50e4a3796c", func := "pinfold/pinfoldlaw18.Drops", spec := "drops", inPlace := ["internal/bytealg.IndexByteString", "internal/bytealg.IndexString", "internal/bytealg.CountString"], unfollowed := true, recurses := true, named := ["internal/bytealg.MaxLen", "unicode/utf8.first", "unicode/utf8.acceptRanges"], apart := false, laid := [("unicode/utf8.acceptRanges", laid_unicode_utf8_acceptRanges), ("unicode/utf8.first", laid_unicode_utf8_first)], narrowed := true }
def DropsUptoSaid : Prop := dropsUptoRow.holds Tryd.pinned (OpenSpec.upto dropsSpec)

/-- 'pinfoldlaw18.DropOwn', WHERE WHAT IT READS IS OF BULK AT MOST 1048576: true; the input reads as it did. -/
def dropOwnUptoRow : OpenClaim := { program := "ytmoobaehoccihaadoor", sum := "01f869df0df9f535e625e53643a5a36deffdad5e686dfdecfae7ef50e4a3796c", func := "pinfold/pinfoldlaw18.DropOwn", spec := "dropOwn", inPlace := ["internal/bytealg.IndexByteString", "internal/bytealg.IndexString", "internal/bytealg.CountString"], unfollowed := true, recurses := true, named := ["internal/bytealg.MaxLen", "unicode/utf8.first", "unicode/utf8.acceptRanges"], apart := false, laid := [("unicode/utf8.acceptRanges", laid_unicode_utf8_acceptRanges), ("unicode/utf8.first", laid_unicode_utf8_first)], narrowed := true }
def DropOwnUptoSaid : Prop := dropOwnUptoRow.holds Tryd.pinned (OpenSpec.upto dropOwnSpec)

/-- 'pinfoldlaw18.DropForms', WHERE WHAT IT READS IS OF BULK AT MOST 1048576: true; the input reads as it did. -/
def dropFormsUptoRow : OpenClaim := { program := "ytmoobaehoccihaadoor", sum := "01f869df0df9f535e625e53643a5a36deffdad5e686dfdecfae7ef50e4a3796c", func := "pinfold/pinfoldlaw18.DropForms", spec := "dropForms", inPlace := ["internal/bytealg.IndexByteString", "internal/bytealg.IndexString", "internal/bytealg.CountString"], unfollowed := true, recurses := true, named := ["internal/bytealg.MaxLen", "unicode/utf8.first", "unicode/utf8.acceptRanges"], apart := false, laid := [("unicode/utf8.acceptRanges", laid_unicode_utf8_acceptRanges), ("unicode/utf8.first", laid_unicode_utf8_first)], narrowed := true }
def DropFormsUptoSaid : Prop := dropFormsUptoRow.holds Tryd.pinned (OpenSpec.upto dropFormsSpec)

/-- 'pinfoldlaw18.DropThen', WHERE WHAT IT READS IS OF BULK AT MOST 1048576: true; the input reads as it did. -/
def dropThenUptoRow : OpenClaim := { program := "ytmoobaehoccihaadoor", sum := "01f869df0df9f535e625e53643a5a36deffdad5e686dfdecfae7ef50e4a3796c", func := "pinfold/pinfoldlaw18.DropThen", spec := "dropThen", inPlace := ["internal/bytealg.IndexByteString", "internal/bytealg.IndexString", "internal/bytealg.CountString"], unfollowed := true, recurses := true, named := ["internal/bytealg.MaxLen", "unicode/utf8.first", "unicode/utf8.acceptRanges"], apart := false, laid := [("unicode/utf8.acceptRanges", laid_unicode_utf8_acceptRanges), ("unicode/utf8.first", laid_unicode_utf8_first)], narrowed := true }
def DropThenUptoSaid : Prop := dropThenUptoRow.holds Tryd.pinned (OpenSpec.upto dropThenSpec)

/-- 'pinfoldlaw18.DropTwice', WHERE WHAT IT READS IS OF BULK AT MOST 1048576: true; the input reads as it did. -/
def dropTwiceUptoRow : OpenClaim := { program := "ytmoobaehoccihaadoor", sum := "01f869df0df9f535e625e53643a5a36deffdad5e686dfdecfae7ef50e4a3796c", func := "pinfold/pinfoldlaw18.DropTwice", spec := "dropTwice", inPlace := ["internal/bytealg.IndexByteString", "internal/bytealg.IndexString", "internal/bytealg.CountString"], unfollowed := true, recurses := true, named := ["internal/bytealg.MaxLen", "unicode/utf8.first", "unicode/utf8.acceptRanges"], apart := false, laid := [("unicode/utf8.acceptRanges", laid_unicode_utf8_acceptRanges), ("unicode/utf8.first", laid_unicode_utf8_first)], narrowed := true }
def DropTwiceUptoSaid : Prop := dropTwiceUptoRow.holds Tryd.pinned (OpenSpec.upto dropTwiceSpec)

/-- 'pinfoldlaw14.Picks', WHERE WHAT IT READS IS OF BULK AT MOST 1048576: true; the input reads as it did. -/
def picksUptoRow : OpenClaim := { program := "ytmoobaehoccihaadoor", sum := "01f869df0df9f535e625e53643a5a36deffdad5e686dfdecfae7ef50e4a3796c", func := "pinfold/pinfoldlaw14.Picks", spec := "picks", inPlace := ["internal/bytealg.IndexByteString", "internal/bytealg.IndexString", "internal/bytealg.CountString"], unfollowed := true, recurses := true, named := ["internal/bytealg.MaxLen", "unicode/utf8.first", "unicode/utf8.acceptRanges"], apart := false, laid := [("unicode/utf8.acceptRanges", laid_unicode_utf8_acceptRanges), ("unicode/utf8.first", laid_unicode_utf8_first)], narrowed := true }
def PicksUptoSaid : Prop := picksUptoRow.holds Tryd.pinned (OpenSpec.upto picksSpec)

/-- 'pinfoldlaw14.PickOpen', WHERE WHAT IT READS IS OF BULK AT MOST 1048576: true; the input reads as it did. -/
def pickOpenUptoRow : OpenClaim := { program := "ytmoobaehoccihaadoor", sum := "01f869df0df9f535e625e53643a5a36deffdad5e686dfdecfae7ef50e4a3796c", func := "pinfold/pinfoldlaw14.PickOpen", spec := "pickOpen", inPlace := ["internal/bytealg.IndexByteString", "internal/bytealg.IndexString", "internal/bytealg.CountString"], unfollowed := true, recurses := true, named := ["internal/bytealg.MaxLen", "unicode/utf8.first", "unicode/utf8.acceptRanges"], apart := false, laid := [("unicode/utf8.acceptRanges", laid_unicode_utf8_acceptRanges), ("unicode/utf8.first", laid_unicode_utf8_first)], narrowed := true }
def PickOpenUptoSaid : Prop := pickOpenUptoRow.holds Tryd.pinned (OpenSpec.upto pickOpenSpec)

/-- 'pinfoldlaw14.PickForms', WHERE WHAT IT READS IS OF BULK AT MOST 1048576: true; the input reads as it did. -/
def pickFormsUptoRow : OpenClaim := { program := "ytmoobaehoccihaadoor", sum := "01f869df0df9f535e625e53643a5a36deffdad5e686dfdecfae7ef50e4a3796c", func := "pinfold/pinfoldlaw14.PickForms", spec := "pickForms", inPlace := ["internal/bytealg.IndexByteString", "internal/bytealg.IndexString", "internal/bytealg.CountString"], unfollowed := true, recurses := true, named := ["internal/bytealg.MaxLen", "unicode/utf8.first", "unicode/utf8.acceptRanges"], apart := false, laid := [("unicode/utf8.acceptRanges", laid_unicode_utf8_acceptRanges), ("unicode/utf8.first", laid_unicode_utf8_first)], narrowed := true }
def PickFormsUptoSaid : Prop := pickFormsUptoRow.holds Tryd.pinned (OpenSpec.upto pickFormsSpec)

/-- 'pinfoldlaw14.PickRow', WHERE WHAT IT READS IS OF BULK AT MOST 1048576: true; the input reads as it did. -/
def pickRowUptoRow : OpenClaim := { program := "ytmoobaehoccihaadoor", sum := "01f869df0df9f535e625e53643a5a36deffdad5e686dfdecfae7ef50e4a3796c", func := "pinfold/pinfoldlaw14.PickRow", spec := "pickRow", inPlace := ["internal/bytealg.IndexByteString", "internal/bytealg.IndexString", "internal/bytealg.CountString"], unfollowed := true, recurses := true, named := ["internal/bytealg.MaxLen", "unicode/utf8.first", "unicode/utf8.acceptRanges"], apart := false, laid := [("unicode/utf8.acceptRanges", laid_unicode_utf8_acceptRanges), ("unicode/utf8.first", laid_unicode_utf8_first)], narrowed := true }
def PickRowUptoSaid : Prop := pickRowUptoRow.holds Tryd.pinned (OpenSpec.upto pickRowSpec)

/-- 'pinfoldlaw14.PickSame', WHERE WHAT IT READS IS OF BULK AT MOST 1048576: true; the input reads as it did. -/
def pickSameUptoRow : OpenClaim := { program := "ytmoobaehoccihaadoor", sum := "01f869df0df9f535e625e53643a5a36deffdad5e686dfdecfae7ef50e4a3796c", func := "pinfold/pinfoldlaw14.PickSame", spec := "pickSame", inPlace := ["internal/bytealg.IndexByteString", "internal/bytealg.IndexString", "internal/bytealg.CountString"], unfollowed := true, recurses := true, named := ["internal/bytealg.MaxLen", "unicode/utf8.first", "unicode/utf8.acceptRanges"], apart := false, laid := [("unicode/utf8.acceptRanges", laid_unicode_utf8_acceptRanges), ("unicode/utf8.first", laid_unicode_utf8_first)], narrowed := true }
def PickSameUptoSaid : Prop := pickSameUptoRow.holds Tryd.pinned (OpenSpec.upto pickSameSpec)

end Rows
end Go.Proofs.YtmoobaehoccihaaDoor
