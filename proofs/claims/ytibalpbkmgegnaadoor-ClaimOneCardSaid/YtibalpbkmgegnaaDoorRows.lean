/-
  NARROWER THAN 'FOR EVERY INPUT', by the rows' own cells (each row's printed sentence says how): ClaimOne: laid · ClaimForms: laid · ClaimKinds: laid · ClaimRenews: laid · ClaimTwice: laid.
  DERIVED. THE GIVEN ROWS OF THIS SEAT. 5 by the template 'for every input the law returns true; each argument reads behind the call as it read before'; 0 by the template 'total and deterministic' (their statements: YtibalpbkmgegnaaDoorTotals.lean).
  GIVEN WITH THE SEED: the statements are not yours to turn. If you find one false, say at which input.
  Laid BY PROGRAM, IN A SANDBOX (cutbox-rows.mjs): the forced cells as the released guide's own fill.sh prints them over the translation 908ad349f10ec966… (all of the seat's roots in one cut). By AI agents, Wed Nov 11 2026. No macro, syntax, notation, axiom, sorry.
-/
import Derived.Test.YtibalpbkmgegnaaDoorChecked
import GoSem.PinnedTables
import GoSem.Claim
import GoSem.ClaimJoined
import GoSem.ClaimMapViews
import Derived.JoinedTies
import Derived.KernelRfl
namespace Go.Proofs.YtibalpbkmgegnaaDoor
/- THE CELL 'sum', in the pinned program and in every row, IS THE sha256 OF THE DUMP (.gsa) THAT YtibalpbkmgegnaaDoorProg.lean LOADS. Nothing in Lean hashes anything: it is a label: what it is worth is what the hold of that sum in a sandbox is worth. -/
noncomputable def Tryd.pinned : Pinned := { name := "ytibalpbkmgegnaadoor", sum := "908ad349f10ec9668f57096896ba5024edb9ffd4cdb19bbc864774c5b853912a", checked := Tryd.checked }
namespace Rows
def none {H : Type} : Left H := { results := [], args := [] }

/- WHAT THE LISTED PACKAGE-LEVEL VARIABLES READ AS WHEN THE CALL BEGINS. Each datum BY PROGRAM (the guide's laid-datum.mjs) off the statement by which the dump's own 'gosem.cut.vars' lays the variable. In a bare row this is a premise. The card (YtibalpbkmgegnaaDoorCards.lean) ties it to the program's text. -/
def laid_unicode_utf8_acceptRanges {H : Type} : DataW H := .agg [.agg [.lit (.int .u8 128), .lit (.int .u8 191)], .agg [.lit (.int .u8 160), .lit (.int .u8 191)], .agg [.lit (.int .u8 128), .lit (.int .u8 159)], .agg [.lit (.int .u8 144), .lit (.int .u8 191)], .agg [.lit (.int .u8 128), .lit (.int .u8 143)], .agg [.lit (.int .u8 0), .lit (.int .u8 0)], .agg [.lit (.int .u8 0), .lit (.int .u8 0)], .agg [.lit (.int .u8 0), .lit (.int .u8 0)], .agg [.lit (.int .u8 0), .lit (.int .u8 0)], .agg [.lit (.int .u8 0), .lit (.int .u8 0)], .agg [.lit (.int .u8 0), .lit (.int .u8 0)], .agg [.lit (.int .u8 0), .lit (.int .u8 0)], .agg [.lit (.int .u8 0), .lit (.int .u8 0)], .agg [.lit (.int .u8 0), .lit (.int .u8 0)], .agg [.lit (.int .u8 0), .lit (.int .u8 0)], .agg [.lit (.int .u8 0), .lit (.int .u8 0)]]
/-- One of Go's own tables, pinned by name: the form's constant. -/
def laid_unicode_utf8_first : DataW Unit := Go.Pinned.utf8First

/-- 'pinfoldlaw17.ClaimOne': WHATEVER THE INPUT: true; the input reads as it did. -/
def claimOneSpec : ChangeSpec := { name := "claimOne", fn := fun _ => fun
  | [d1, d2, d3, d4, d5] => { results := [.lit (.bool true)], args := [d1, d2, d3, d4, d5] }
  | _ => none }
def claimOneRow : OpenClaim := { program := "ytibalpbkmgegnaadoor", sum := "908ad349f10ec9668f57096896ba5024edb9ffd4cdb19bbc864774c5b853912a", func := "pinfold/pinfoldlaw17.ClaimOne", spec := "claimOne", inPlace := ["internal/bytealg.IndexByteString", "internal/bytealg.IndexString", "internal/bytealg.CountString"], unfollowed := true, recurses := true, named := ["internal/bytealg.MaxLen", "unicode/utf8.first", "unicode/utf8.acceptRanges"], apart := false, laid := [("unicode/utf8.acceptRanges", laid_unicode_utf8_acceptRanges), ("unicode/utf8.first", laid_unicode_utf8_first)] }
def ClaimOneSaid : Prop := claimOneRow.holds Tryd.pinned (OpenSpec.ofChange claimOneSpec)

/-- ITS FALSE NEIGHBOUR: 'it returns false'. Refute it at one input. -/
def claimOneWrong : ChangeSpec := { name := "claimOne", fn := fun _ => fun
  | [d1, d2, d3, d4, d5] => { results := [.lit (.bool false)], args := [d1, d2, d3, d4, d5] }
  | _ => none }
def ClaimOneWrongFalsely : Prop := claimOneRow.holds Tryd.pinned (OpenSpec.ofChange claimOneWrong)

/-- 'pinfoldlaw17.ClaimForms': WHATEVER THE INPUT: true; the input reads as it did. -/
def claimFormsSpec : ChangeSpec := { name := "claimForms", fn := fun _ => fun
  | [d1, d2] => { results := [.lit (.bool true)], args := [d1, d2] }
  | _ => none }
def claimFormsRow : OpenClaim := { program := "ytibalpbkmgegnaadoor", sum := "908ad349f10ec9668f57096896ba5024edb9ffd4cdb19bbc864774c5b853912a", func := "pinfold/pinfoldlaw17.ClaimForms", spec := "claimForms", inPlace := ["internal/bytealg.IndexByteString", "internal/bytealg.IndexString", "internal/bytealg.CountString"], unfollowed := true, recurses := true, named := ["internal/bytealg.MaxLen", "unicode/utf8.first", "unicode/utf8.acceptRanges"], apart := false, laid := [("unicode/utf8.acceptRanges", laid_unicode_utf8_acceptRanges), ("unicode/utf8.first", laid_unicode_utf8_first)] }
def ClaimFormsSaid : Prop := claimFormsRow.holds Tryd.pinned (OpenSpec.ofChange claimFormsSpec)

/-- ITS FALSE NEIGHBOUR: 'it returns false'. Refute it at one input. -/
def claimFormsWrong : ChangeSpec := { name := "claimForms", fn := fun _ => fun
  | [d1, d2] => { results := [.lit (.bool false)], args := [d1, d2] }
  | _ => none }
def ClaimFormsWrongFalsely : Prop := claimFormsRow.holds Tryd.pinned (OpenSpec.ofChange claimFormsWrong)

/-- 'pinfoldlaw17.ClaimKinds': WHATEVER THE INPUT: true; the input reads as it did. -/
def claimKindsSpec : ChangeSpec := { name := "claimKinds", fn := fun _ => fun
  | [d] => { results := [.lit (.bool true)], args := [d] }
  | _ => none }
def claimKindsRow : OpenClaim := { program := "ytibalpbkmgegnaadoor", sum := "908ad349f10ec9668f57096896ba5024edb9ffd4cdb19bbc864774c5b853912a", func := "pinfold/pinfoldlaw17.ClaimKinds", spec := "claimKinds", inPlace := ["internal/bytealg.IndexByteString", "internal/bytealg.IndexString", "internal/bytealg.CountString"], unfollowed := true, recurses := true, named := ["internal/bytealg.MaxLen", "unicode/utf8.first", "unicode/utf8.acceptRanges"], apart := false, laid := [("unicode/utf8.acceptRanges", laid_unicode_utf8_acceptRanges), ("unicode/utf8.first", laid_unicode_utf8_first)] }
def ClaimKindsSaid : Prop := claimKindsRow.holds Tryd.pinned (OpenSpec.ofChange claimKindsSpec)

/-- ITS FALSE NEIGHBOUR: 'it returns false'. Refute it at one input. -/
def claimKindsWrong : ChangeSpec := { name := "claimKinds", fn := fun _ => fun
  | [d] => { results := [.lit (.bool false)], args := [d] }
  | _ => none }
def ClaimKindsWrongFalsely : Prop := claimKindsRow.holds Tryd.pinned (OpenSpec.ofChange claimKindsWrong)

/-- 'pinfoldlaw17.ClaimRenews': WHATEVER THE INPUT: true; the input reads as it did. -/
def claimRenewsSpec : ChangeSpec := { name := "claimRenews", fn := fun _ => fun
  | [d1, d2] => { results := [.lit (.bool true)], args := [d1, d2] }
  | _ => none }
def claimRenewsRow : OpenClaim := { program := "ytibalpbkmgegnaadoor", sum := "908ad349f10ec9668f57096896ba5024edb9ffd4cdb19bbc864774c5b853912a", func := "pinfold/pinfoldlaw17.ClaimRenews", spec := "claimRenews", inPlace := ["internal/bytealg.IndexByteString", "internal/bytealg.IndexString", "internal/bytealg.CountString"], unfollowed := true, recurses := true, named := ["internal/bytealg.MaxLen", "unicode/utf8.first", "unicode/utf8.acceptRanges"], apart := false, laid := [("unicode/utf8.acceptRanges", laid_unicode_utf8_acceptRanges), ("unicode/utf8.first", laid_unicode_utf8_first)] }
def ClaimRenewsSaid : Prop := claimRenewsRow.holds Tryd.pinned (OpenSpec.ofChange claimRenewsSpec)

/-- ITS FALSE NEIGHBOUR: 'it returns false'. Refute it at one input. -/
def claimRenewsWrong : ChangeSpec := { name := "claimRenews", fn := fun _ => fun
  | [d1, d2] => { results := [.lit (.bool false)], args := [d1, d2] }
  | _ => none }
def ClaimRenewsWrongFalsely : Prop := claimRenewsRow.holds Tryd.pinned (OpenSpec.ofChange claimRenewsWrong)

/-- 'pinfoldlaw17.ClaimTwice': WHATEVER THE INPUT: true; the input reads as it did. -/
def claimTwiceSpec : ChangeSpec := { name := "claimTwice", fn := fun _ => fun
  | [d1, d2, d3, d4, d5] => { results := [.lit (.bool true)], args := [d1, d2, d3, d4, d5] }
  | _ => none }
def claimTwiceRow : OpenClaim := { program := "ytibalpbkmgegnaadoor", sum := "908ad349f10ec9668f57096896ba5024edb9ffd4cdb19bbc864774c5b853912a", func := "pinfold/pinfoldlaw17.ClaimTwice", spec := "claimTwice", inPlace := ["internal/bytealg.IndexByteString", "internal/bytealg.IndexString", "internal/bytealg.CountString"], unfollowed := true, recurses := true, named := ["internal/bytealg.MaxLen", "unicode/utf8.first", "unicode/utf8.acceptRanges"], apart := false, laid := [("unicode/utf8.acceptRanges", laid_unicode_utf8_acceptRanges), ("unicode/utf8.first", laid_unicode_utf8_first)] }
def ClaimTwiceSaid : Prop := claimTwiceRow.holds Tryd.pinned (OpenSpec.ofChange claimTwiceSpec)

/-- ITS FALSE NEIGHBOUR: 'it returns false'. Refute it at one input. -/
def claimTwiceWrong : ChangeSpec := { name := "claimTwice", fn := fun _ => fun
  | [d1, d2, d3, d4, d5] => { results := [.lit (.bool false)], args := [d1, d2, d3, d4, d5] }
  | _ => none }
def ClaimTwiceWrongFalsely : Prop := claimTwiceRow.holds Tryd.pinned (OpenSpec.ofChange claimTwiceWrong)

/- THE SECOND FORM. 'bulk': how many values and letters a reading holds, each counted each time it is reached (what is shared counts as often as it is met; a slice's spare places count too). A statement '..UptoSaid' is the law's where the arguments, and the package variables that the reading takes, are together of bulk at most 1048576: NARROWER than '..Said'. Prove '..Said' where nothing that the law and all that it calls make is longer than what came in: it says more and counts as full. Else prove '..UptoSaid'. A law counts once. -/
mutual
def uptoBulk {H : Type} : DataW H → Nat
  | .lit (.string bytes) => bytes.length + 1
  | .lit _ => 1
  | .nil => 1
  | .ptr d => uptoBulk d + 1
  | .slice elems spare => uptoBulkAll elems + uptoBulkAll spare + 1
  | .agg parts => uptoBulkAll parts + 1
  | .iface _ d => uptoBulk d + 1
  | .map entries => uptoBulkEntries entries + 1
  | .held _ => 1
def uptoBulkAll {H : Type} : List (DataW H) → Nat
  | [] => 0
  | d :: r => uptoBulk d + uptoBulkAll r
def uptoBulkEntries {H : Type} : List (Lit × DataW H) → Nat
  | [] => 0
  | x :: r => uptoBulkEntry x + uptoBulkEntries r
def uptoBulkEntry {H : Type} : Lit × DataW H → Nat
  | (.string bytes, d) => bytes.length + uptoBulk d + 1
  | (_, d) => uptoBulk d + 1
 end
def uptoSmall : (H : Type) → List (DataW H) → Bool := fun _ ds => decide (uptoBulkAll ds ≤ 1048576)
def OpenSpec.upto (s : _root_.Go.ChangeSpec) : _root_.Go.OpenSpec := { _root_.Go.OpenSpec.ofChange s with cond := some uptoSmall }

/-- 'pinfoldlaw17.ClaimOne', WHERE WHAT IT READS IS OF BULK AT MOST 1048576: true; the input reads as it did. -/
def claimOneUptoRow : OpenClaim := { program := "ytibalpbkmgegnaadoor", sum := "908ad349f10ec9668f57096896ba5024edb9ffd4cdb19bbc864774c5b853912a", func := "pinfold/pinfoldlaw17.ClaimOne", spec := "claimOne", inPlace := ["internal/bytealg.IndexByteString", "internal/bytealg.IndexString", "internal/bytealg.CountString"], unfollowed := true, recurses := true, named := ["internal/bytealg.MaxLen", "unicode/utf8.first", "unicode/utf8.acceptRanges"], apart := false, laid := [("unicode/utf8.acceptRanges", laid_unicode_utf8_acceptRanges), ("unicode/utf8.first", laid_unicode_utf8_first)], narrowed := true }
def ClaimOneUptoSaid : Prop := claimOneUptoRow.holds Tryd.pinned (OpenSpec.upto claimOneSpec)

/-- 'pinfoldlaw17.ClaimForms', WHERE WHAT IT READS IS OF BULK AT MOST 1048576: true; the input reads as it did. -/
def claimFormsUptoRow : OpenClaim := { program := "ytibalpbkmgegnaadoor", sum := "908ad349f10ec9668f57096896ba5024edb9ffd4cdb19bbc864774c5b853912a", func := "pinfold/pinfoldlaw17.ClaimForms", spec := "claimForms", inPlace := ["internal/bytealg.IndexByteString", "internal/bytealg.IndexString", "internal/bytealg.CountString"], unfollowed := true, recurses := true, named := ["internal/bytealg.MaxLen", "unicode/utf8.first", "unicode/utf8.acceptRanges"], apart := false, laid := [("unicode/utf8.acceptRanges", laid_unicode_utf8_acceptRanges), ("unicode/utf8.first", laid_unicode_utf8_first)], narrowed := true }
def ClaimFormsUptoSaid : Prop := claimFormsUptoRow.holds Tryd.pinned (OpenSpec.upto claimFormsSpec)

/-- 'pinfoldlaw17.ClaimKinds', WHERE WHAT IT READS IS OF BULK AT MOST 1048576: true; the input reads as it did. -/
def claimKindsUptoRow : OpenClaim := { program := "ytibalpbkmgegnaadoor", sum := "908ad349f10ec9668f57096896ba5024edb9ffd4cdb19bbc864774c5b853912a", func := "pinfold/pinfoldlaw17.ClaimKinds", spec := "claimKinds", inPlace := ["internal/bytealg.IndexByteString", "internal/bytealg.IndexString", "internal/bytealg.CountString"], unfollowed := true, recurses := true, named := ["internal/bytealg.MaxLen", "unicode/utf8.first", "unicode/utf8.acceptRanges"], apart := false, laid := [("unicode/utf8.acceptRanges", laid_unicode_utf8_acceptRanges), ("unicode/utf8.first", laid_unicode_utf8_first)], narrowed := true }
def ClaimKindsUptoSaid : Prop := claimKindsUptoRow.holds Tryd.pinned (OpenSpec.upto claimKindsSpec)

/-- 'pinfoldlaw17.ClaimRenews', WHERE WHAT IT READS IS OF BULK AT MOST 1048576: true; the input reads as it did. -/
def claimRenewsUptoRow : OpenClaim := { program := "ytibalpbkmgegnaadoor", sum := "908ad349f10ec9668f57096896ba5024edb9ffd4cdb19bbc864774c5b853912a", func := "pinfold/pinfoldlaw17.ClaimRenews", spec := "claimRenews", inPlace := ["internal/bytealg.IndexByteString", "internal/bytealg.IndexString", "internal/bytealg.CountString"], unfollowed := true, recurses := true, named := ["internal/bytealg.MaxLen", "unicode/utf8.first", "unicode/utf8.acceptRanges"], apart := false, laid := [("unicode/utf8.acceptRanges", laid_unicode_utf8_acceptRanges), ("unicode/utf8.first", laid_unicode_utf8_first)], narrowed := true }
def ClaimRenewsUptoSaid : Prop := claimRenewsUptoRow.holds Tryd.pinned (OpenSpec.upto claimRenewsSpec)

/-- 'pinfoldlaw17.ClaimTwice', WHERE WHAT IT READS IS OF BULK AT MOST 1048576: true; the input reads as it did. -/
def claimTwiceUptoRow : OpenClaim := { program := "ytibalpbkmgegnaadoor", sum := "908ad349f10ec9668f57096896ba5024edb9ffd4cdb19bbc864774c5b853912a", func := "pinfold/pinfoldlaw17.ClaimTwice", spec := "claimTwice", inPlace := ["internal/bytealg.IndexByteString", "internal/bytealg.IndexString", "internal/bytealg.CountString"], unfollowed := true, recurses := true, named := ["internal/bytealg.MaxLen", "unicode/utf8.first", "unicode/utf8.acceptRanges"], apart := false, laid := [("unicode/utf8.acceptRanges", laid_unicode_utf8_acceptRanges), ("unicode/utf8.first", laid_unicode_utf8_first)], narrowed := true }
def ClaimTwiceUptoSaid : Prop := claimTwiceUptoRow.holds Tryd.pinned (OpenSpec.upto claimTwiceSpec)

end Rows
end Go.Proofs.YtibalpbkmgegnaaDoor
