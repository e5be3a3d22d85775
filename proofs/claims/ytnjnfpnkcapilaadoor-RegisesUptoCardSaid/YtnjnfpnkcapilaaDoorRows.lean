/-
  NARROWER THAN 'FOR EVERY INPUT', by the rows' own cells (each row's printed sentence says how): Confs: laid · ConfBack: laid · ConfForms: laid · ConfHosts: laid · ConfRows: laid · Regises: laid · RegisOne: laid · RegisForms: laid · RegisHeld: laid · RegisTime: laid.
  DERIVED. THE GIVEN ROWS OF THIS SEAT. 10 by the template 'for every input the law returns true; each argument reads behind the call as it read before'; 0 by the template 'total and deterministic' (their statements: YtnjnfpnkcapilaaDoorTotals.lean).
  GIVEN WITH THE SEED: the statements are not yours to turn. If you find one false, say at which input.
  Laid BY PROGRAM, IN A SANDBOX (cutbox-rows.mjs): the forced cells as the released guide's own fill.sh prints them over the translation 237e01be8c4c669e… (all of the seat's roots in one cut). By AI agents, Wed Nov 11 2026. No macro, syntax, notation, axiom, sorry.
-/
import Derived.Test.YtnjnfpnkcapilaaDoorChecked
import GoSem.PinnedTables
import GoSem.Claim
import GoSem.ClaimJoined
import GoSem.ClaimMapViews
import Derived.JoinedTies
import Derived.KernelRfl
namespace Go.Proofs.YtnjnfpnkcapilaaDoor
/- THE CELL 'sum', in the pinned program and in every row, IS THE sha256 OF THE DUMP (.gsa) THAT YtnjnfpnkcapilaaDoorProg.lean LOADS. Nothing in Lean hashes anything: it is a label: what it is worth is what the hold of that sum in a sandbox is worth. -/
noncomputable def Tryd.pinned : Pinned := { name := "ytnjnfpnkcapilaadoor", sum := "237e01be8c4c669e6c81a5211f59e7ff4313773e769b6a34dfb1f476e465e097", checked := Tryd.checked }
namespace Rows
def none {H : Type} : Left H := { results := [], args := [] }

/- WHAT THE LISTED PACKAGE-LEVEL VARIABLES READ AS WHEN THE CALL BEGINS. Each datum BY PROGRAM (the guide's laid-datum.mjs) off the statement by which the dump's own 'gosem.cut.vars' lays the variable. In a bare row this is a premise. The card (YtnjnfpnkcapilaaDoorCards.lean) ties it to the program's text. -/
def laid_unicode_utf8_acceptRanges {H : Type} : DataW H := .agg [.agg [.lit (.int .u8 128), .lit (.int .u8 191)], .agg [.lit (.int .u8 160), .lit (.int .u8 191)], .agg [.lit (.int .u8 128), .lit (.int .u8 159)], .agg [.lit (.int .u8 144), .lit (.int .u8 191)], .agg [.lit (.int .u8 128), .lit (.int .u8 143)], .agg [.lit (.int .u8 0), .lit (.int .u8 0)], .agg [.lit (.int .u8 0), .lit (.int .u8 0)], .agg [.lit (.int .u8 0), .lit (.int .u8 0)], .agg [.lit (.int .u8 0), .lit (.int .u8 0)], .agg [.lit (.int .u8 0), .lit (.int .u8 0)], .agg [.lit (.int .u8 0), .lit (.int .u8 0)], .agg [.lit (.int .u8 0), .lit (.int .u8 0)], .agg [.lit (.int .u8 0), .lit (.int .u8 0)], .agg [.lit (.int .u8 0), .lit (.int .u8 0)], .agg [.lit (.int .u8 0), .lit (.int .u8 0)], .agg [.lit (.int .u8 0), .lit (.int .u8 0)]]
/-- One of Go's own tables, pinned by name: the form's constant. -/
def laid_unicode_utf8_first : DataW Unit := Go.Pinned.utf8First

/-- 'pinfoldlaw11.Confs': WHATEVER THE INPUT: true; the input reads as it did. -/
def confsSpec : ChangeSpec := { name := "confs", fn := fun _ => fun
  | [d1, d2, d3, d4] => { results := [.lit (.bool true)], args := [d1, d2, d3, d4] }
  | _ => none }
def confsRow : OpenClaim := { program := "ytnjnfpnkcapilaadoor", sum := "237e01be8c4c669e6c81a5211f59e7ff4313773e769b6a34dfb1f476e465e097", func := "pinfold/pinfoldlaw11.Confs", spec := "confs", inPlace := ["internal/bytealg.IndexByteString", "internal/bytealg.IndexString", "internal/bytealg.CountString"], unfollowed := true, recurses := true, named := ["internal/bytealg.MaxLen", "unicode/utf8.first", "unicode/utf8.acceptRanges"], apart := false, laid := [("unicode/utf8.acceptRanges", laid_unicode_utf8_acceptRanges), ("unicode/utf8.first", laid_unicode_utf8_first)] }
def ConfsSaid : Prop := confsRow.holds Tryd.pinned (OpenSpec.ofChange confsSpec)

/-- ITS FALSE NEIGHBOUR: 'it returns false'. Refute it at one input. -/
def confsWrong : ChangeSpec := { name := "confs", fn := fun _ => fun
  | [d1, d2, d3, d4] => { results := [.lit (.bool false)], args := [d1, d2, d3, d4] }
  | _ => none }
def ConfsWrongFalsely : Prop := confsRow.holds Tryd.pinned (OpenSpec.ofChange confsWrong)

/-- 'pinfoldlaw11.ConfBack': WHATEVER THE INPUT: true; the input reads as it did. -/
def confBackSpec : ChangeSpec := { name := "confBack", fn := fun _ => fun
  | [d1, d2] => { results := [.lit (.bool true)], args := [d1, d2] }
  | _ => none }
def confBackRow : OpenClaim := { program := "ytnjnfpnkcapilaadoor", sum := "237e01be8c4c669e6c81a5211f59e7ff4313773e769b6a34dfb1f476e465e097", func := "pinfold/pinfoldlaw11.ConfBack", spec := "confBack", inPlace := ["internal/bytealg.IndexByteString", "internal/bytealg.IndexString", "internal/bytealg.CountString"], unfollowed := true, recurses := true, named := ["internal/bytealg.MaxLen", "unicode/utf8.first", "unicode/utf8.acceptRanges"], apart := false, laid := [("unicode/utf8.acceptRanges", laid_unicode_utf8_acceptRanges), ("unicode/utf8.first", laid_unicode_utf8_first)] }
def ConfBackSaid : Prop := confBackRow.holds Tryd.pinned (OpenSpec.ofChange confBackSpec)

/-- ITS FALSE NEIGHBOUR: 'it returns false'. Refute it at one input. -/
def confBackWrong : ChangeSpec := { name := "confBack", fn := fun _ => fun
  | [d1, d2] => { results := [.lit (.bool false)], args := [d1, d2] }
  | _ => none }
def ConfBackWrongFalsely : Prop := confBackRow.holds Tryd.pinned (OpenSpec.ofChange confBackWrong)

/-- 'pinfoldlaw11.ConfForms': WHATEVER THE INPUT: true; the input reads as it did. -/
def confFormsSpec : ChangeSpec := { name := "confForms", fn := fun _ => fun
  | [d1, d2] => { results := [.lit (.bool true)], args := [d1, d2] }
  | _ => none }
def confFormsRow : OpenClaim := { program := "ytnjnfpnkcapilaadoor", sum := "237e01be8c4c669e6c81a5211f59e7ff4313773e769b6a34dfb1f476e465e097", func := "pinfold/pinfoldlaw11.ConfForms", spec := "confForms", inPlace := ["internal/bytealg.IndexByteString", "internal/bytealg.IndexString", "internal/bytealg.CountString"], unfollowed := true, recurses := true, named := ["internal/bytealg.MaxLen", "unicode/utf8.first", "unicode/utf8.acceptRanges"], apart := false, laid := [("unicode/utf8.acceptRanges", laid_unicode_utf8_acceptRanges), ("unicode/utf8.first", laid_unicode_utf8_first)] }
def ConfFormsSaid : Prop := confFormsRow.holds Tryd.pinned (OpenSpec.ofChange confFormsSpec)

/-- ITS FALSE NEIGHBOUR: 'it returns false'. Refute it at one input. -/
def confFormsWrong : ChangeSpec := { name := "confForms", fn := fun _ => fun
  | [d1, d2] => { results := [.lit (.bool false)], args := [d1, d2] }
  | _ => none }
def ConfFormsWrongFalsely : Prop := confFormsRow.holds Tryd.pinned (OpenSpec.ofChange confFormsWrong)

/-- 'pinfoldlaw11.ConfHosts': WHATEVER THE INPUT: true; the input reads as it did. -/
def confHostsSpec : ChangeSpec := { name := "confHosts", fn := fun _ => fun
  | [d1, d2] => { results := [.lit (.bool true)], args := [d1, d2] }
  | _ => none }
def confHostsRow : OpenClaim := { program := "ytnjnfpnkcapilaadoor", sum := "237e01be8c4c669e6c81a5211f59e7ff4313773e769b6a34dfb1f476e465e097", func := "pinfold/pinfoldlaw11.ConfHosts", spec := "confHosts", inPlace := ["internal/bytealg.IndexByteString", "internal/bytealg.IndexString", "internal/bytealg.CountString"], unfollowed := true, recurses := true, named := ["internal/bytealg.MaxLen", "unicode/utf8.first", "unicode/utf8.acceptRanges"], apart := false, laid := [("unicode/utf8.acceptRanges", laid_unicode_utf8_acceptRanges), ("unicode/utf8.first", laid_unicode_utf8_first)] }
def ConfHostsSaid : Prop := confHostsRow.holds Tryd.pinned (OpenSpec.ofChange confHostsSpec)

/-- ITS FALSE NEIGHBOUR: 'it returns false'. Refute it at one input. -/
def confHostsWrong : ChangeSpec := { name := "confHosts", fn := fun _ => fun
  | [d1, d2] => { results := [.lit (.bool false)], args := [d1, d2] }
  | _ => none }
def ConfHostsWrongFalsely : Prop := confHostsRow.holds Tryd.pinned (OpenSpec.ofChange confHostsWrong)

/-- 'pinfoldlaw11.ConfRows': WHATEVER THE INPUT: true; the input reads as it did. -/
def confRowsSpec : ChangeSpec := { name := "confRows", fn := fun _ => fun
  | [d1, d2, d3] => { results := [.lit (.bool true)], args := [d1, d2, d3] }
  | _ => none }
def confRowsRow : OpenClaim := { program := "ytnjnfpnkcapilaadoor", sum := "237e01be8c4c669e6c81a5211f59e7ff4313773e769b6a34dfb1f476e465e097", func := "pinfold/pinfoldlaw11.ConfRows", spec := "confRows", inPlace := ["internal/bytealg.IndexByteString", "internal/bytealg.IndexString", "internal/bytealg.CountString"], unfollowed := true, recurses := true, named := ["internal/bytealg.MaxLen", "unicode/utf8.first", "unicode/utf8.acceptRanges"], apart := false, laid := [("unicode/utf8.acceptRanges", laid_unicode_utf8_acceptRanges), ("unicode/utf8.first", laid_unicode_utf8_first)] }
def ConfRowsSaid : Prop := confRowsRow.holds Tryd.pinned (OpenSpec.ofChange confRowsSpec)

/-- ITS FALSE NEIGHBOUR: 'it returns false'. Refute it at one input. -/
def confRowsWrong : ChangeSpec := { name := "confRows", fn := fun _ => fun
  | [d1, d2, d3] => { results := [.lit (.bool false)], args := [d1, d2, d3] }
  | _ => none }
def ConfRowsWrongFalsely : Prop := confRowsRow.holds Tryd.pinned (OpenSpec.ofChange confRowsWrong)

/-- 'pinfoldlaw16.Regises': WHATEVER THE INPUT: true; the input reads as it did. -/
def regisesSpec : ChangeSpec := { name := "regises", fn := fun _ => fun
  | [d1, d2, d3, d4, d5] => { results := [.lit (.bool true)], args := [d1, d2, d3, d4, d5] }
  | _ => none }
def regisesRow : OpenClaim := { program := "ytnjnfpnkcapilaadoor", sum := "237e01be8c4c669e6c81a5211f59e7ff4313773e769b6a34dfb1f476e465e097", func := "pinfold/pinfoldlaw16.Regises", spec := "regises", inPlace := ["internal/bytealg.IndexByteString", "internal/bytealg.IndexString", "internal/bytealg.CountString"], named := ["internal/bytealg.MaxLen", "unicode/utf8.first", "unicode/utf8.acceptRanges"], apart := false, laid := [("unicode/utf8.acceptRanges", laid_unicode_utf8_acceptRanges), ("unicode/utf8.first", laid_unicode_utf8_first)] }
def RegisesSaid : Prop := regisesRow.holds Tryd.pinned (OpenSpec.ofChange regisesSpec)

/-- ITS FALSE NEIGHBOUR: 'it returns false'. Refute it at one input. -/
def regisesWrong : ChangeSpec := { name := "regises", fn := fun _ => fun
  | [d1, d2, d3, d4, d5] => { results := [.lit (.bool false)], args := [d1, d2, d3, d4, d5] }
  | _ => none }
def RegisesWrongFalsely : Prop := regisesRow.holds Tryd.pinned (OpenSpec.ofChange regisesWrong)

/-- 'pinfoldlaw16.RegisOne': WHATEVER THE INPUT: true; the input reads as it did. -/
def regisOneSpec : ChangeSpec := { name := "regisOne", fn := fun _ => fun
  | [d1, d2, d3, d4, d5] => { results := [.lit (.bool true)], args := [d1, d2, d3, d4, d5] }
  | _ => none }
def regisOneRow : OpenClaim := { program := "ytnjnfpnkcapilaadoor", sum := "237e01be8c4c669e6c81a5211f59e7ff4313773e769b6a34dfb1f476e465e097", func := "pinfold/pinfoldlaw16.RegisOne", spec := "regisOne", inPlace := ["internal/bytealg.IndexByteString", "internal/bytealg.IndexString", "internal/bytealg.CountString"], named := ["internal/bytealg.MaxLen", "unicode/utf8.first", "unicode/utf8.acceptRanges"], apart := false, laid := [("unicode/utf8.acceptRanges", laid_unicode_utf8_acceptRanges), ("unicode/utf8.first", laid_unicode_utf8_first)] }
def RegisOneSaid : Prop := regisOneRow.holds Tryd.pinned (OpenSpec.ofChange regisOneSpec)

/-- ITS FALSE NEIGHBOUR: 'it returns false'. Refute it at one input. -/
def regisOneWrong : ChangeSpec := { name := "regisOne", fn := fun _ => fun
  | [d1, d2, d3, d4, d5] => { results := [.lit (.bool false)], args := [d1, d2, d3, d4, d5] }
  | _ => none }
def RegisOneWrongFalsely : Prop := regisOneRow.holds Tryd.pinned (OpenSpec.ofChange regisOneWrong)

/-- 'pinfoldlaw16.RegisForms': WHATEVER THE INPUT: true; the input reads as it did. -/
def regisFormsSpec : ChangeSpec := { name := "regisForms", fn := fun _ => fun
  | [d] => { results := [.lit (.bool true)], args := [d] }
  | _ => none }
def regisFormsRow : OpenClaim := { program := "ytnjnfpnkcapilaadoor", sum := "237e01be8c4c669e6c81a5211f59e7ff4313773e769b6a34dfb1f476e465e097", func := "pinfold/pinfoldlaw16.RegisForms", spec := "regisForms", inPlace := ["internal/bytealg.IndexByteString", "internal/bytealg.IndexString", "internal/bytealg.CountString"], named := ["internal/bytealg.MaxLen", "unicode/utf8.first", "unicode/utf8.acceptRanges"], apart := false, laid := [("unicode/utf8.acceptRanges", laid_unicode_utf8_acceptRanges), ("unicode/utf8.first", laid_unicode_utf8_first)] }
def RegisFormsSaid : Prop := regisFormsRow.holds Tryd.pinned (OpenSpec.ofChange regisFormsSpec)

/-- ITS FALSE NEIGHBOUR: 'it returns false'. Refute it at one input. -/
def regisFormsWrong : ChangeSpec := { name := "regisForms", fn := fun _ => fun
  | [d] => { results := [.lit (.bool false)], args := [d] }
  | _ => none }
def RegisFormsWrongFalsely : Prop := regisFormsRow.holds Tryd.pinned (OpenSpec.ofChange regisFormsWrong)

/-- 'pinfoldlaw16.RegisHeld': WHATEVER THE INPUT: true; the input reads as it did. -/
def regisHeldSpec : ChangeSpec := { name := "regisHeld", fn := fun _ => fun
  | [d1, d2, d3, d4, d5] => { results := [.lit (.bool true)], args := [d1, d2, d3, d4, d5] }
  | _ => none }
def regisHeldRow : OpenClaim := { program := "ytnjnfpnkcapilaadoor", sum := "237e01be8c4c669e6c81a5211f59e7ff4313773e769b6a34dfb1f476e465e097", func := "pinfold/pinfoldlaw16.RegisHeld", spec := "regisHeld", inPlace := ["internal/bytealg.IndexByteString", "internal/bytealg.IndexString", "internal/bytealg.CountString"], named := ["internal/bytealg.MaxLen", "unicode/utf8.first", "unicode/utf8.acceptRanges"], apart := false, laid := [("unicode/utf8.acceptRanges", laid_unicode_utf8_acceptRanges), ("unicode/utf8.first", laid_unicode_utf8_first)] }
def RegisHeldSaid : Prop := regisHeldRow.holds Tryd.pinned (OpenSpec.ofChange regisHeldSpec)

/-- ITS FALSE NEIGHBOUR: 'it returns false'. Refute it at one input. -/
def regisHeldWrong : ChangeSpec := { name := "regisHeld", fn := fun _ => fun
  | [d1, d2, d3, d4, d5] => { results := [.lit (.bool false)], args := [d1, d2, d3, d4, d5] }
  | _ => none }
def RegisHeldWrongFalsely : Prop := regisHeldRow.holds Tryd.pinned (OpenSpec.ofChange regisHeldWrong)

/-- 'pinfoldlaw16.RegisTime': WHATEVER THE INPUT: true; the input reads as it did. -/
def regisTimeSpec : ChangeSpec := { name := "regisTime", fn := fun _ => fun
  | [d1, d2, d3, d4, d5, d6] => { results := [.lit (.bool true)], args := [d1, d2, d3, d4, d5, d6] }
  | _ => none }
def regisTimeRow : OpenClaim := { program := "ytnjnfpnkcapilaadoor", sum := "237e01be8c4c669e6c81a5211f59e7ff4313773e769b6a34dfb1f476e465e097", func := "pinfold/pinfoldlaw16.RegisTime", spec := "regisTime", inPlace := ["internal/bytealg.IndexByteString", "internal/bytealg.IndexString", "internal/bytealg.CountString"], named := ["internal/bytealg.MaxLen", "unicode/utf8.first", "unicode/utf8.acceptRanges"], apart := false, laid := [("unicode/utf8.acceptRanges", laid_unicode_utf8_acceptRanges), ("unicode/utf8.first", laid_unicode_utf8_first)] }
def RegisTimeSaid : Prop := regisTimeRow.holds Tryd.pinned (OpenSpec.ofChange regisTimeSpec)

/-- ITS FALSE NEIGHBOUR: 'it returns false'. Refute it at one input. -/
def regisTimeWrong : ChangeSpec := { name := "regisTime", fn := fun _ => fun
  | [d1, d2, d3, d4, d5, d6] => { results := [.lit (.bool false)], args := [d1, d2, d3, d4, d5, d6] }
  | _ => none }
def RegisTimeWrongFalsely : Prop := regisTimeRow.holds Tryd.pinned (OpenSpec.ofChange regisTimeWrong)

/- THE SECOND FORM. 'bulk': how many values and letters a reading holds, each counted each time it is reached (what is shared counts as often as it is met; a slice's spare places count too). A statement '..UptoSaid' is the law's where the arguments, and the package variables that the reading takes, are together of bulk at most 1048576: NARROWER than '..Said'. Prove '..Said' where nothing that the law and all that it calls make is longer than what came in: it says more and counts as full. Else prove '..UptoSaid'. A law counts once. -/
mutual
def uptoBulk {H : Type} : DataW H → Nat
  | .lit (.string bytes) => bytes.length + 1
  | .lit _ => 1
  | .nil => 1
  | .ptr d => uptoBulk d + 1
  | .slice elems spare => uptoBulkAll elems + uptoBulkAll spare + 1
  | .agg parts => uptoBulkAll parts + 1
  | .iface _ d => uptoBulk d + 1
  | .map entries => uptoBulkEntries entries + 1
  | .held _ => 1
def uptoBulkAll {H : Type} : List (DataW H) → Nat
  | [] => 0
  | d :: r => uptoBulk d + uptoBulkAll r
def uptoBulkEntries {H : Type} : List (Lit × DataW H) → Nat
  | [] => 0
  | x :: r => uptoBulkEntry x + uptoBulkEntries r
def uptoBulkEntry {H : Type} : Lit × DataW H → Nat
  | (.string bytes, d) => bytes.length + uptoBulk d + 1
  | (_, d) => uptoBulk d + 1
 end
def uptoSmall : (H : Type) → List (DataW H) → Bool := fun _ ds => decide (uptoBulkAll ds ≤ 1048576)
def OpenSpec.upto (s : _root_.Go.ChangeSpec) : _root_.Go.OpenSpec := { _root_.Go.OpenSpec.ofChange s with cond := some uptoSmall }

/-- 'pinfoldlaw11.Confs', WHERE WHAT IT READS IS OF BULK AT MOST 1048576: true; the input reads as it did. -/
def confsUptoRow : OpenClaim := { program := "ytnjnfpnkcapilaadoor", sum := "237e01be8c4c669e6c81a5211f59e7ff4313773e769b6a34dfb1f476e465e097", func := "pinfold/pinfoldlaw11.Confs", spec := "confs", inPlace := ["internal/bytealg.IndexByteString", "internal/bytealg.IndexString", "internal/bytealg.CountString"], unfollowed := true, recurses := true, named := ["internal/bytealg.MaxLen", "unicode/utf8.first", "unicode/utf8.acceptRanges"], apart := false, laid := [("unicode/utf8.acceptRanges", laid_unicode_utf8_acceptRanges), ("unicode/utf8.first", laid_unicode_utf8_first)], narrowed := true }
def ConfsUptoSaid : Prop := confsUptoRow.holds Tryd.pinned (OpenSpec.upto confsSpec)

/-- 'pinfoldlaw11.ConfBack', WHERE WHAT IT READS IS OF BULK AT MOST 1048576: true; the input reads as it did. -/
def confBackUptoRow : OpenClaim := { program := "ytnjnfpnkcapilaadoor", sum := "237e01be8c4c669e6c81a5211f59e7ff4313773e769b6a34dfb1f476e465e097", func := "pinfold/pinfoldlaw11.ConfBack", spec := "confBack", inPlace := ["internal/bytealg.IndexByteString", "internal/bytealg.IndexString", "internal/bytealg.CountString"], unfollowed := true, recurses := true, named := ["internal/bytealg.MaxLen", "unicode/utf8.first", "unicode/utf8.acceptRanges"], apart := false, laid := [("unicode/utf8.acceptRanges", laid_unicode_utf8_acceptRanges), ("unicode/utf8.first", laid_unicode_utf8_first)], narrowed := true }
def ConfBackUptoSaid : Prop := confBackUptoRow.holds Tryd.pinned (OpenSpec.upto confBackSpec)

/-- 'pinfoldlaw11.ConfForms', WHERE WHAT IT READS IS OF BULK AT MOST 1048576: true; the input reads as it did. -/
def confFormsUptoRow : OpenClaim := { program := "ytnjnfpnkcapilaadoor", sum := "237e01be8c4c669e6c81a5211f59e7ff4313773e769b6a34dfb1f476e465e097", func := "pinfold/pinfoldlaw11.ConfForms", spec := "confForms", inPlace := ["internal/bytealg.IndexByteString", "internal/bytealg.IndexString", "internal/bytealg.CountString"], unfollowed := true, recurses := true, named := ["internal/bytealg.MaxLen", "unicode/utf8.first", "unicode/utf8.acceptRanges"], apart := false, laid := [("unicode/utf8.acceptRanges", laid_unicode_utf8_acceptRanges), ("unicode/utf8.first", laid_unicode_utf8_first)], narrowed := true }
def ConfFormsUptoSaid : Prop := confFormsUptoRow.holds Tryd.pinned (OpenSpec.upto confFormsSpec)

/-- 'pinfoldlaw11.ConfHosts', WHERE WHAT IT READS IS OF BULK AT MOST 1048576: true; the input reads as it did. -/
def confHostsUptoRow : OpenClaim := { program := "ytnjnfpnkcapilaadoor", sum := "237e01be8c4c669e6c81a5211f59e7ff4313773e769b6a34dfb1f476e465e097", func := "pinfold/pinfoldlaw11.ConfHosts", spec := "confHosts", inPlace := ["internal/bytealg.IndexByteString", "internal/bytealg.IndexString", "internal/bytealg.CountString"], unfollowed := true, recurses := true, named := ["internal/bytealg.MaxLen", "unicode/utf8.first", "unicode/utf8.acceptRanges"], apart := false, laid := [("unicode/utf8.acceptRanges", laid_unicode_utf8_acceptRanges), ("unicode/utf8.first", laid_unicode_utf8_first)], narrowed := true }
def ConfHostsUptoSaid : Prop := confHostsUptoRow.holds Tryd.pinned (OpenSpec.upto confHostsSpec)

/-- 'pinfoldlaw11.ConfRows', WHERE WHAT IT READS IS OF BULK AT MOST 1048576: true; the input reads as it did. -/
def confRowsUptoRow : OpenClaim := { program := "ytnjnfpnkcapilaadoor", sum := "237e01be8c4c669e6c81a5211f59e7ff4313773e769b6a34dfb1f476e465e097", func := "pinfold/pinfoldlaw11.ConfRows", spec := "confRows", inPlace := ["internal/bytealg.IndexByteString", "internal/bytealg.IndexString", "internal/bytealg.CountString"], unfollowed := true, recurses := true, named := ["internal/bytealg.MaxLen", "unicode/utf8.first", "unicode/utf8.acceptRanges"], apart := false, laid := [("unicode/utf8.acceptRanges", laid_unicode_utf8_acceptRanges), ("unicode/utf8.first", laid_unicode_utf8_first)], narrowed := true }
def ConfRowsUptoSaid : Prop := confRowsUptoRow.holds Tryd.pinned (OpenSpec.upto confRowsSpec)

/-- 'pinfoldlaw16.Regises', WHERE WHAT IT READS IS OF BULK AT MOST 1048576: true; the input reads as it did. -/
def regisesUptoRow : OpenClaim := { program := "ytnjnfpnkcapilaadoor", sum := "237e01be8c4c669e6c81a5211f59e7ff4313773e769b6a34dfb1f476e465e097", func := "pinfold/pinfoldlaw16.Regises", spec := "regises", inPlace := ["internal/bytealg.IndexByteString", "internal/bytealg.IndexString", "internal/bytealg.CountString"], named := ["internal/bytealg.MaxLen", "unicode/utf8.first", "unicode/utf8.acceptRanges"], apart := false, laid := [("unicode/utf8.acceptRanges", laid_unicode_utf8_acceptRanges), ("unicode/utf8.first", laid_unicode_utf8_first)], narrowed := true }
def RegisesUptoSaid : Prop := regisesUptoRow.holds Tryd.pinned (OpenSpec.upto regisesSpec)

/-- 'pinfoldlaw16.RegisOne', WHERE WHAT IT READS IS OF BULK AT MOST 1048576: true; the input reads as it did. -/
def regisOneUptoRow : OpenClaim := { program := "ytnjnfpnkcapilaadoor", sum := "237e01be8c4c669e6c81a5211f59e7ff4313773e769b6a34dfb1f476e465e097", func := "pinfold/pinfoldlaw16.RegisOne", spec := "regisOne", inPlace := ["internal/bytealg.IndexByteString", "internal/bytealg.IndexString", "internal/bytealg.CountString"], named := ["internal/bytealg.MaxLen", "unicode/utf8.first", "unicode/utf8.acceptRanges"], apart := false, laid := [("unicode/utf8.acceptRanges", laid_unicode_utf8_acceptRanges), ("unicode/utf8.first", laid_unicode_utf8_first)], narrowed := true }
def RegisOneUptoSaid : Prop := regisOneUptoRow.holds Tryd.pinned (OpenSpec.upto regisOneSpec)

/-- 'pinfoldlaw16.RegisForms', WHERE WHAT IT READS IS OF BULK AT MOST 1048576: true; the input reads as it did. -/
def regisFormsUptoRow : OpenClaim := { program := "ytnjnfpnkcapilaadoor", sum := "237e01be8c4c669e6c81a5211f59e7ff4313773e769b6a34dfb1f476e465e097", func := "pinfold/pinfoldlaw16.RegisForms", spec := "regisForms", inPlace := ["internal/bytealg.IndexByteString", "internal/bytealg.IndexString", "internal/bytealg.CountString"], named := ["internal/bytealg.MaxLen", "unicode/utf8.first", "unicode/utf8.acceptRanges"], apart := false, laid := [("unicode/utf8.acceptRanges", laid_unicode_utf8_acceptRanges), ("unicode/utf8.first", laid_unicode_utf8_first)], narrowed := true }
def RegisFormsUptoSaid : Prop := regisFormsUptoRow.holds Tryd.pinned (OpenSpec.upto regisFormsSpec)

/-- 'pinfoldlaw16.RegisHeld', WHERE WHAT IT READS IS OF BULK AT MOST 1048576: true; the input reads as it did. -/
def regisHeldUptoRow : OpenClaim := { program := "ytnjnfpnkcapilaadoor", sum := "237e01be8c4c669e6c81a5211f59e7ff4313773e769b6a34dfb1f476e465e097", func := "pinfold/pinfoldlaw16.RegisHeld", spec := "regisHeld", inPlace := ["internal/bytealg.IndexByteString", "internal/bytealg.IndexString", "internal/bytealg.CountString"], named := ["internal/bytealg.MaxLen", "unicode/utf8.first", "unicode/utf8.acceptRanges"], apart := false, laid := [("unicode/utf8.acceptRanges", laid_unicode_utf8_acceptRanges), ("unicode/utf8.first", laid_unicode_utf8_first)], narrowed := true }
def RegisHeldUptoSaid : Prop := regisHeldUptoRow.holds Tryd.pinned (OpenSpec.upto regisHeldSpec)

/-- 'pinfoldlaw16.RegisTime', WHERE WHAT IT READS IS OF BULK AT MOST 1048576: true; the input reads as it did. -/
def regisTimeUptoRow : OpenClaim := { program := "ytnjnfpnkcapilaadoor", sum := "237e01be8c4c669e6c81a5211f59e7ff4313773e769b6a34dfb1f476e465e097", func := "pinfold/pinfoldlaw16.RegisTime", spec := "regisTime", inPlace := ["internal/bytealg.IndexByteString", "internal/bytealg.IndexString", "internal/bytealg.CountString"], named := ["internal/bytealg.MaxLen", "unicode/utf8.first", "unicode/utf8.acceptRanges"], apart := false, laid := [("unicode/utf8.acceptRanges", laid_unicode_utf8_acceptRanges), ("unicode/utf8.first", laid_unicode_utf8_first)], narrowed := true }
def RegisTimeUptoSaid : Prop := regisTimeUptoRow.holds Tryd.pinned (OpenSpec.upto regisTimeSpec)

end Rows
end Go.Proofs.YtnjnfpnkcapilaaDoor
