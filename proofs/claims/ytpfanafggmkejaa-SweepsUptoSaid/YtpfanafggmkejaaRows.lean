/-
  No cell of these rows narrows 'for every input' (looked for: loops, veiled, ifaces, maps, wideKeys, modest, calm, conditions, laid).
  DERIVED. THE GIVEN ROWS OF THIS SEAT. 12 by the template 'for every input the law returns true; each argument reads behind the call as it read before'; 0 by the template 'total and deterministic' (their statements: YtpfanafggmkejaaTotals.lean).
  GIVEN WITH THE SEED: the statements are not yours to turn. If you find one false, say at which input.
  Laid BY PROGRAM, IN A SANDBOX (cutbox-rows.mjs): the forced cells as the released guide's own fill.sh prints them over the translation 083a191fa29fdee1… (all of the seat's roots in one cut). By AI agents, Wed Nov 11 2026. No macro, syntax, notation, axiom, sorry.
-/
import Derived.Test.YtpfanafggmkejaaChecked
import GoSem.Claim
import GoSem.ClaimJoined
import GoSem.ClaimMapViews
import Derived.JoinedTies
import Derived.KernelRfl
namespace Go.Proofs.Ytpfanafggmkejaa
/- THE CELL 'sum', in the pinned program and in every row, IS THE sha256 OF THE DUMP (.gsa) THAT YtpfanafggmkejaaProg.lean LOADS. Nothing in Lean hashes anything: it is a label: what it is worth is what the hold of that sum in a sandbox is worth. -/
noncomputable def Try.pinned : Pinned := { name := "ytpfanafggmkejaa", sum := "083a191fa29fdee1da1c20c1cbf911190802f0a562249700bc4862f1dfeb0b8f", checked := Try.checked }
namespace Rows
def none {H : Type} : Left H := { results := [], args := [] }

/-- 'pinfoldlaw12.Leases': WHATEVER THE INPUT: true; the input reads as it did. -/
def leasesSpec : ChangeSpec := { name := "leases", fn := fun _ => fun
  | [d1, d2] => { results := [.lit (.bool true)], args := [d1, d2] }
  | _ => none }
def leasesRow : OpenClaim := { program := "ytpfanafggmkejaa", sum := "083a191fa29fdee1da1c20c1cbf911190802f0a562249700bc4862f1dfeb0b8f", func := "pinfold/pinfoldlaw12.Leases", spec := "leases", inPlace := ["internal/bytealg.IndexByteString", "internal/bytealg.IndexString"], named := ["internal/bytealg.MaxLen"], apart := false }
def LeasesSaid : Prop := leasesRow.holds Try.pinned (OpenSpec.ofChange leasesSpec)

/-- ITS FALSE NEIGHBOUR: 'it returns false'. Refute it at one input. -/
def leasesWrong : ChangeSpec := { name := "leases", fn := fun _ => fun
  | [d1, d2] => { results := [.lit (.bool false)], args := [d1, d2] }
  | _ => none }
def LeasesWrongFalsely : Prop := leasesRow.holds Try.pinned (OpenSpec.ofChange leasesWrong)

/-- 'pinfoldlaw12.LeaseForms': WHATEVER THE INPUT: true; the input reads as it did. -/
def leaseFormsSpec : ChangeSpec := { name := "leaseForms", fn := fun _ => fun
  | [d1, d2] => { results := [.lit (.bool true)], args := [d1, d2] }
  | _ => none }
def leaseFormsRow : OpenClaim := { program := "ytpfanafggmkejaa", sum := "083a191fa29fdee1da1c20c1cbf911190802f0a562249700bc4862f1dfeb0b8f", func := "pinfold/pinfoldlaw12.LeaseForms", spec := "leaseForms", inPlace := ["internal/bytealg.IndexByteString", "internal/bytealg.IndexString"], named := ["internal/bytealg.MaxLen"], apart := false }
def LeaseFormsSaid : Prop := leaseFormsRow.holds Try.pinned (OpenSpec.ofChange leaseFormsSpec)

/-- ITS FALSE NEIGHBOUR: 'it returns false'. Refute it at one input. -/
def leaseFormsWrong : ChangeSpec := { name := "leaseForms", fn := fun _ => fun
  | [d1, d2] => { results := [.lit (.bool false)], args := [d1, d2] }
  | _ => none }
def LeaseFormsWrongFalsely : Prop := leaseFormsRow.holds Try.pinned (OpenSpec.ofChange leaseFormsWrong)

/-- 'pinfoldlaw12.LeaseTimes': WHATEVER THE INPUT: true; the input reads as it did. -/
def leaseTimesSpec : ChangeSpec := { name := "leaseTimes", fn := fun _ => fun
  | [d1, d2] => { results := [.lit (.bool true)], args := [d1, d2] }
  | _ => none }
def leaseTimesRow : OpenClaim := { program := "ytpfanafggmkejaa", sum := "083a191fa29fdee1da1c20c1cbf911190802f0a562249700bc4862f1dfeb0b8f", func := "pinfold/pinfoldlaw12.LeaseTimes", spec := "leaseTimes", inPlace := ["internal/bytealg.IndexByteString", "internal/bytealg.IndexString"], named := ["internal/bytealg.MaxLen"], apart := false }
def LeaseTimesSaid : Prop := leaseTimesRow.holds Try.pinned (OpenSpec.ofChange leaseTimesSpec)

/-- ITS FALSE NEIGHBOUR: 'it returns false'. Refute it at one input. -/
def leaseTimesWrong : ChangeSpec := { name := "leaseTimes", fn := fun _ => fun
  | [d1, d2] => { results := [.lit (.bool false)], args := [d1, d2] }
  | _ => none }
def LeaseTimesWrongFalsely : Prop := leaseTimesRow.holds Try.pinned (OpenSpec.ofChange leaseTimesWrong)

/-- 'pinfoldlaw12.LeaseOnce': WHATEVER THE INPUT: true; the input reads as it did. -/
def leaseOnceSpec : ChangeSpec := { name := "leaseOnce", fn := fun _ => fun
  | [d1, d2, d3] => { results := [.lit (.bool true)], args := [d1, d2, d3] }
  | _ => none }
def leaseOnceRow : OpenClaim := { program := "ytpfanafggmkejaa", sum := "083a191fa29fdee1da1c20c1cbf911190802f0a562249700bc4862f1dfeb0b8f", func := "pinfold/pinfoldlaw12.LeaseOnce", spec := "leaseOnce", inPlace := ["internal/bytealg.IndexByteString", "internal/bytealg.IndexString"], named := ["internal/bytealg.MaxLen"], apart := false }
def LeaseOnceSaid : Prop := leaseOnceRow.holds Try.pinned (OpenSpec.ofChange leaseOnceSpec)

/-- ITS FALSE NEIGHBOUR: 'it returns false'. Refute it at one input. -/
def leaseOnceWrong : ChangeSpec := { name := "leaseOnce", fn := fun _ => fun
  | [d1, d2, d3] => { results := [.lit (.bool false)], args := [d1, d2, d3] }
  | _ => none }
def LeaseOnceWrongFalsely : Prop := leaseOnceRow.holds Try.pinned (OpenSpec.ofChange leaseOnceWrong)

/-- 'pinfoldlaw19.Sweeps': WHATEVER THE INPUT: true; the input reads as it did. -/
def sweepsSpec : ChangeSpec := { name := "sweeps", fn := fun _ => fun
  | [d1, d2] => { results := [.lit (.bool true)], args := [d1, d2] }
  | _ => none }
def sweepsRow : OpenClaim := { program := "ytpfanafggmkejaa", sum := "083a191fa29fdee1da1c20c1cbf911190802f0a562249700bc4862f1dfeb0b8f", func := "pinfold/pinfoldlaw19.Sweeps", spec := "sweeps", inPlace := ["internal/bytealg.IndexByteString", "internal/bytealg.IndexString"], named := ["internal/bytealg.MaxLen"], apart := false }
def SweepsSaid : Prop := sweepsRow.holds Try.pinned (OpenSpec.ofChange sweepsSpec)

/-- ITS FALSE NEIGHBOUR: 'it returns false'. Refute it at one input. -/
def sweepsWrong : ChangeSpec := { name := "sweeps", fn := fun _ => fun
  | [d1, d2] => { results := [.lit (.bool false)], args := [d1, d2] }
  | _ => none }
def SweepsWrongFalsely : Prop := sweepsRow.holds Try.pinned (OpenSpec.ofChange sweepsWrong)

/-- 'pinfoldlaw19.SweepLive': WHATEVER THE INPUT: true; the input reads as it did. -/
def sweepLiveSpec : ChangeSpec := { name := "sweepLive", fn := fun _ => fun
  | [d1, d2, d3] => { results := [.lit (.bool true)], args := [d1, d2, d3] }
  | _ => none }
def sweepLiveRow : OpenClaim := { program := "ytpfanafggmkejaa", sum := "083a191fa29fdee1da1c20c1cbf911190802f0a562249700bc4862f1dfeb0b8f", func := "pinfold/pinfoldlaw19.SweepLive", spec := "sweepLive", inPlace := ["internal/bytealg.IndexByteString", "internal/bytealg.IndexString"], named := ["internal/bytealg.MaxLen"], apart := false }
def SweepLiveSaid : Prop := sweepLiveRow.holds Try.pinned (OpenSpec.ofChange sweepLiveSpec)

/-- ITS FALSE NEIGHBOUR: 'it returns false'. Refute it at one input. -/
def sweepLiveWrong : ChangeSpec := { name := "sweepLive", fn := fun _ => fun
  | [d1, d2, d3] => { results := [.lit (.bool false)], args := [d1, d2, d3] }
  | _ => none }
def SweepLiveWrongFalsely : Prop := sweepLiveRow.holds Try.pinned (OpenSpec.ofChange sweepLiveWrong)

/-- 'pinfoldlaw19.SweepForms': WHATEVER THE INPUT: true; the input reads as it did. -/
def sweepFormsSpec : ChangeSpec := { name := "sweepForms", fn := fun _ => fun
  | [d1, d2] => { results := [.lit (.bool true)], args := [d1, d2] }
  | _ => none }
def sweepFormsRow : OpenClaim := { program := "ytpfanafggmkejaa", sum := "083a191fa29fdee1da1c20c1cbf911190802f0a562249700bc4862f1dfeb0b8f", func := "pinfold/pinfoldlaw19.SweepForms", spec := "sweepForms", inPlace := ["internal/bytealg.IndexByteString", "internal/bytealg.IndexString"], named := ["internal/bytealg.MaxLen"], apart := false }
def SweepFormsSaid : Prop := sweepFormsRow.holds Try.pinned (OpenSpec.ofChange sweepFormsSpec)

/-- ITS FALSE NEIGHBOUR: 'it returns false'. Refute it at one input. -/
def sweepFormsWrong : ChangeSpec := { name := "sweepForms", fn := fun _ => fun
  | [d1, d2] => { results := [.lit (.bool false)], args := [d1, d2] }
  | _ => none }
def SweepFormsWrongFalsely : Prop := sweepFormsRow.holds Try.pinned (OpenSpec.ofChange sweepFormsWrong)

/-- 'pinfoldlaw19.SweepPick': WHATEVER THE INPUT: true; the input reads as it did. -/
def sweepPickSpec : ChangeSpec := { name := "sweepPick", fn := fun _ => fun
  | [d1, d2, d3, d4, d5] => { results := [.lit (.bool true)], args := [d1, d2, d3, d4, d5] }
  | _ => none }
def sweepPickRow : OpenClaim := { program := "ytpfanafggmkejaa", sum := "083a191fa29fdee1da1c20c1cbf911190802f0a562249700bc4862f1dfeb0b8f", func := "pinfold/pinfoldlaw19.SweepPick", spec := "sweepPick", inPlace := ["internal/bytealg.IndexByteString", "internal/bytealg.IndexString"], named := ["internal/bytealg.MaxLen"], apart := false }
def SweepPickSaid : Prop := sweepPickRow.holds Try.pinned (OpenSpec.ofChange sweepPickSpec)

/-- ITS FALSE NEIGHBOUR: 'it returns false'. Refute it at one input. -/
def sweepPickWrong : ChangeSpec := { name := "sweepPick", fn := fun _ => fun
  | [d1, d2, d3, d4, d5] => { results := [.lit (.bool false)], args := [d1, d2, d3, d4, d5] }
  | _ => none }
def SweepPickWrongFalsely : Prop := sweepPickRow.holds Try.pinned (OpenSpec.ofChange sweepPickWrong)

/-- 'pinfoldlaw9.Idents': WHATEVER THE INPUT: true; the input reads as it did. -/
def identsSpec : ChangeSpec := { name := "idents", fn := fun _ => fun
  | [d1, d2, d3] => { results := [.lit (.bool true)], args := [d1, d2, d3] }
  | _ => none }
def identsRow : OpenClaim := { program := "ytpfanafggmkejaa", sum := "083a191fa29fdee1da1c20c1cbf911190802f0a562249700bc4862f1dfeb0b8f", func := "pinfold/pinfoldlaw9.Idents", spec := "idents", inPlace := ["internal/bytealg.IndexByteString", "internal/bytealg.IndexString"], unfollowed := true, recurses := true, named := ["internal/bytealg.MaxLen"], apart := false }
def IdentsSaid : Prop := identsRow.holds Try.pinned (OpenSpec.ofChange identsSpec)

/-- ITS FALSE NEIGHBOUR: 'it returns false'. Refute it at one input. -/
def identsWrong : ChangeSpec := { name := "idents", fn := fun _ => fun
  | [d1, d2, d3] => { results := [.lit (.bool false)], args := [d1, d2, d3] }
  | _ => none }
def IdentsWrongFalsely : Prop := identsRow.holds Try.pinned (OpenSpec.ofChange identsWrong)

/-- 'pinfoldlaw9.IdentForms': WHATEVER THE INPUT: true; the input reads as it did. -/
def identFormsSpec : ChangeSpec := { name := "identForms", fn := fun _ => fun
  | [d1, d2] => { results := [.lit (.bool true)], args := [d1, d2] }
  | _ => none }
def identFormsRow : OpenClaim := { program := "ytpfanafggmkejaa", sum := "083a191fa29fdee1da1c20c1cbf911190802f0a562249700bc4862f1dfeb0b8f", func := "pinfold/pinfoldlaw9.IdentForms", spec := "identForms", inPlace := ["internal/bytealg.IndexByteString", "internal/bytealg.IndexString"], unfollowed := true, recurses := true, named := ["internal/bytealg.MaxLen"], apart := false }
def IdentFormsSaid : Prop := identFormsRow.holds Try.pinned (OpenSpec.ofChange identFormsSpec)

/-- ITS FALSE NEIGHBOUR: 'it returns false'. Refute it at one input. -/
def identFormsWrong : ChangeSpec := { name := "identForms", fn := fun _ => fun
  | [d1, d2] => { results := [.lit (.bool false)], args := [d1, d2] }
  | _ => none }
def IdentFormsWrongFalsely : Prop := identFormsRow.holds Try.pinned (OpenSpec.ofChange identFormsWrong)

/-- 'pinfoldlaw9.IdentSame': WHATEVER THE INPUT: true; the input reads as it did. -/
def identSameSpec : ChangeSpec := { name := "identSame", fn := fun _ => fun
  | [d1, d2, d3] => { results := [.lit (.bool true)], args := [d1, d2, d3] }
  | _ => none }
def identSameRow : OpenClaim := { program := "ytpfanafggmkejaa", sum := "083a191fa29fdee1da1c20c1cbf911190802f0a562249700bc4862f1dfeb0b8f", func := "pinfold/pinfoldlaw9.IdentSame", spec := "identSame", inPlace := ["internal/bytealg.IndexByteString", "internal/bytealg.IndexString"], unfollowed := true, recurses := true, named := ["internal/bytealg.MaxLen"], apart := false }
def IdentSameSaid : Prop := identSameRow.holds Try.pinned (OpenSpec.ofChange identSameSpec)

/-- ITS FALSE NEIGHBOUR: 'it returns false'. Refute it at one input. -/
def identSameWrong : ChangeSpec := { name := "identSame", fn := fun _ => fun
  | [d1, d2, d3] => { results := [.lit (.bool false)], args := [d1, d2, d3] }
  | _ => none }
def IdentSameWrongFalsely : Prop := identSameRow.holds Try.pinned (OpenSpec.ofChange identSameWrong)

/-- 'pinfoldlaw9.IdentDigest': WHATEVER THE INPUT: true; the input reads as it did. -/
def identDigestSpec : ChangeSpec := { name := "identDigest", fn := fun _ => fun
  | [d1, d2, d3, d4] => { results := [.lit (.bool true)], args := [d1, d2, d3, d4] }
  | _ => none }
def identDigestRow : OpenClaim := { program := "ytpfanafggmkejaa", sum := "083a191fa29fdee1da1c20c1cbf911190802f0a562249700bc4862f1dfeb0b8f", func := "pinfold/pinfoldlaw9.IdentDigest", spec := "identDigest", inPlace := ["internal/bytealg.IndexByteString", "internal/bytealg.IndexString"], unfollowed := true, recurses := true, named := ["internal/bytealg.MaxLen"], apart := false }
def IdentDigestSaid : Prop := identDigestRow.holds Try.pinned (OpenSpec.ofChange identDigestSpec)

/-- ITS FALSE NEIGHBOUR: 'it returns false'. Refute it at one input. -/
def identDigestWrong : ChangeSpec := { name := "identDigest", fn := fun _ => fun
  | [d1, d2, d3, d4] => { results := [.lit (.bool false)], args := [d1, d2, d3, d4] }
  | _ => none }
def IdentDigestWrongFalsely : Prop := identDigestRow.holds Try.pinned (OpenSpec.ofChange identDigestWrong)

/- THE SECOND FORM. 'bulk': how many values and letters a reading holds, each counted each time it is reached (what is shared counts as often as it is met; a slice's spare places count too). A statement '..UptoSaid' is the law's where the arguments, and the package variables that the reading takes, are together of bulk at most 1048576: NARROWER than '..Said'. Prove '..Said' where nothing that the law and all that it calls make is longer than what came in: it says more and counts as full. Else prove '..UptoSaid'. A law counts once. -/
mutual
def uptoBulk {H : Type} : DataW H → Nat
  | .lit (.string bytes) => bytes.length + 1
  | .lit _ => 1
  | .nil => 1
  | .ptr d => uptoBulk d + 1
  | .slice elems spare => uptoBulkAll elems + uptoBulkAll spare + 1
  | .agg parts => uptoBulkAll parts + 1
  | .iface _ d => uptoBulk d + 1
  | .map entries => uptoBulkEntries entries + 1
  | .held _ => 1
def uptoBulkAll {H : Type} : List (DataW H) → Nat
  | [] => 0
  | d :: r => uptoBulk d + uptoBulkAll r
def uptoBulkEntries {H : Type} : List (Lit × DataW H) → Nat
  | [] => 0
  | x :: r => uptoBulkEntry x + uptoBulkEntries r
def uptoBulkEntry {H : Type} : Lit × DataW H → Nat
  | (.string bytes, d) => bytes.length + uptoBulk d + 1
  | (_, d) => uptoBulk d + 1
 end
def uptoSmall : (H : Type) → List (DataW H) → Bool := fun _ ds => decide (uptoBulkAll ds ≤ 1048576)
def OpenSpec.upto (s : _root_.Go.ChangeSpec) : _root_.Go.OpenSpec := { _root_.Go.OpenSpec.ofChange s with cond := some uptoSmall }

/-- 'pinfoldlaw12.Leases', WHERE WHAT IT READS IS OF BULK AT MOST 1048576: true; the input reads as it did. -/
def leasesUptoRow : OpenClaim := { program := "ytpfanafggmkejaa", sum := "083a191fa29fdee1da1c20c1cbf911190802f0a562249700bc4862f1dfeb0b8f", func := "pinfold/pinfoldlaw12.Leases", spec := "leases", inPlace := ["internal/bytealg.IndexByteString", "internal/bytealg.IndexString"], named := ["internal/bytealg.MaxLen"], apart := false, narrowed := true }
def LeasesUptoSaid : Prop := leasesUptoRow.holds Try.pinned (OpenSpec.upto leasesSpec)

/-- 'pinfoldlaw12.LeaseForms', WHERE WHAT IT READS IS OF BULK AT MOST 1048576: true; the input reads as it did. -/
def leaseFormsUptoRow : OpenClaim := { program := "ytpfanafggmkejaa", sum := "083a191fa29fdee1da1c20c1cbf911190802f0a562249700bc4862f1dfeb0b8f", func := "pinfold/pinfoldlaw12.LeaseForms", spec := "leaseForms", inPlace := ["internal/bytealg.IndexByteString", "internal/bytealg.IndexString"], named := ["internal/bytealg.MaxLen"], apart := false, narrowed := true }
def LeaseFormsUptoSaid : Prop := leaseFormsUptoRow.holds Try.pinned (OpenSpec.upto leaseFormsSpec)

/-- 'pinfoldlaw12.LeaseTimes', WHERE WHAT IT READS IS OF BULK AT MOST 1048576: true; the input reads as it did. -/
def leaseTimesUptoRow : OpenClaim := { program := "ytpfanafggmkejaa", sum := "083a191fa29fdee1da1c20c1cbf911190802f0a562249700bc4862f1dfeb0b8f", func := "pinfold/pinfoldlaw12.LeaseTimes", spec := "leaseTimes", inPlace := ["internal/bytealg.IndexByteString", "internal/bytealg.IndexString"], named := ["internal/bytealg.MaxLen"], apart := false, narrowed := true }
def LeaseTimesUptoSaid : Prop := leaseTimesUptoRow.holds Try.pinned (OpenSpec.upto leaseTimesSpec)

/-- 'pinfoldlaw12.LeaseOnce', WHERE WHAT IT READS IS OF BULK AT MOST 1048576: true; the input reads as it did. -/
def leaseOnceUptoRow : OpenClaim := { program := "ytpfanafggmkejaa", sum := "083a191fa29fdee1da1c20c1cbf911190802f0a562249700bc4862f1dfeb0b8f", func := "pinfold/pinfoldlaw12.LeaseOnce", spec := "leaseOnce", inPlace := ["internal/bytealg.IndexByteString", "internal/bytealg.IndexString"], named := ["internal/bytealg.MaxLen"], apart := false, narrowed := true }
def LeaseOnceUptoSaid : Prop := leaseOnceUptoRow.holds Try.pinned (OpenSpec.upto leaseOnceSpec)

/-- 'pinfoldlaw19.Sweeps', WHERE WHAT IT READS IS OF BULK AT MOST 1048576: true; the input reads as it did. -/
def sweepsUptoRow : OpenClaim := { program := "ytpfanafggmkejaa", sum := "083a191fa29fdee1da1c20c1cbf911190802f0a562249700bc4862f1dfeb0b8f", func := "pinfold/pinfoldlaw19.Sweeps", spec := "sweeps", inPlace := ["internal/bytealg.IndexByteString", "internal/bytealg.IndexString"], named := ["internal/bytealg.MaxLen"], apart := false, narrowed := true }
def SweepsUptoSaid : Prop := sweepsUptoRow.holds Try.pinned (OpenSpec.upto sweepsSpec)

/-- 'pinfoldlaw19.SweepLive', WHERE WHAT IT READS IS OF BULK AT MOST 1048576: true; the input reads as it did. -/
def sweepLiveUptoRow : OpenClaim := { program := "ytpfanafggmkejaa", sum := "083a191fa29fdee1da1c20c1cbf911190802f0a562249700bc4862f1dfeb0b8f", func := "pinfold/pinfoldlaw19.SweepLive", spec := "sweepLive", inPlace := ["internal/bytealg.IndexByteString", "internal/bytealg.IndexString"], named := ["internal/bytealg.MaxLen"], apart := false, narrowed := true }
def SweepLiveUptoSaid : Prop := sweepLiveUptoRow.holds Try.pinned (OpenSpec.upto sweepLiveSpec)

/-- 'pinfoldlaw19.SweepForms', WHERE WHAT IT READS IS OF BULK AT MOST 1048576: true; the input reads as it did. -/
def sweepFormsUptoRow : OpenClaim := { program := "ytpfanafggmkejaa", sum := "083a191fa29fdee1da1c20c1cbf911190802f0a562249700bc4862f1dfeb0b8f", func := "pinfold/pinfoldlaw19.SweepForms", spec := "sweepForms", inPlace := ["internal/bytealg.IndexByteString", "internal/bytealg.IndexString"], named := ["internal/bytealg.MaxLen"], apart := false, narrowed := true }
def SweepFormsUptoSaid : Prop := sweepFormsUptoRow.holds Try.pinned (OpenSpec.upto sweepFormsSpec)

/-- 'pinfoldlaw19.SweepPick', WHERE WHAT IT READS IS OF BULK AT MOST 1048576: true; the input reads as it did. -/
def sweepPickUptoRow : OpenClaim := { program := "ytpfanafggmkejaa", sum := "083a191fa29fdee1da1c20c1cbf911190802f0a562249700bc4862f1dfeb0b8f", func := "pinfold/pinfoldlaw19.SweepPick", spec := "sweepPick", inPlace := ["internal/bytealg.IndexByteString", "internal/bytealg.IndexString"], named := ["internal/bytealg.MaxLen"], apart := false, narrowed := true }
def SweepPickUptoSaid : Prop := sweepPickUptoRow.holds Try.pinned (OpenSpec.upto sweepPickSpec)

/-- 'pinfoldlaw9.Idents', WHERE WHAT IT READS IS OF BULK AT MOST 1048576: true; the input reads as it did. -/
def identsUptoRow : OpenClaim := { program := "ytpfanafggmkejaa", sum := "083a191fa29fdee1da1c20c1cbf911190802f0a562249700bc4862f1dfeb0b8f", func := "pinfold/pinfoldlaw9.Idents", spec := "idents", inPlace := ["internal/bytealg.IndexByteString", "internal/bytealg.IndexString"], unfollowed := true, recurses := true, named := ["internal/bytealg.MaxLen"], apart := false, narrowed := true }
def IdentsUptoSaid : Prop := identsUptoRow.holds Try.pinned (OpenSpec.upto identsSpec)

/-- 'pinfoldlaw9.IdentForms', WHERE WHAT IT READS IS OF BULK AT MOST 1048576: true; the input reads as it did. -/
def identFormsUptoRow : OpenClaim := { program := "ytpfanafggmkejaa", sum := "083a191fa29fdee1da1c20c1cbf911190802f0a562249700bc4862f1dfeb0b8f", func := "pinfold/pinfoldlaw9.IdentForms", spec := "identForms", inPlace := ["internal/bytealg.IndexByteString", "internal/bytealg.IndexString"], unfollowed := true, recurses := true, named := ["internal/bytealg.MaxLen"], apart := false, narrowed := true }
def IdentFormsUptoSaid : Prop := identFormsUptoRow.holds Try.pinned (OpenSpec.upto identFormsSpec)

/-- 'pinfoldlaw9.IdentSame', WHERE WHAT IT READS IS OF BULK AT MOST 1048576: true; the input reads as it did. -/
def identSameUptoRow : OpenClaim := { program := "ytpfanafggmkejaa", sum := "083a191fa29fdee1da1c20c1cbf911190802f0a562249700bc4862f1dfeb0b8f", func := "pinfold/pinfoldlaw9.IdentSame", spec := "identSame", inPlace := ["internal/bytealg.IndexByteString", "internal/bytealg.IndexString"], unfollowed := true, recurses := true, named := ["internal/bytealg.MaxLen"], apart := false, narrowed := true }
def IdentSameUptoSaid : Prop := identSameUptoRow.holds Try.pinned (OpenSpec.upto identSameSpec)

/-- 'pinfoldlaw9.IdentDigest', WHERE WHAT IT READS IS OF BULK AT MOST 1048576: true; the input reads as it did. -/
def identDigestUptoRow : OpenClaim := { program := "ytpfanafggmkejaa", sum := "083a191fa29fdee1da1c20c1cbf911190802f0a562249700bc4862f1dfeb0b8f", func := "pinfold/pinfoldlaw9.IdentDigest", spec := "identDigest", inPlace := ["internal/bytealg.IndexByteString", "internal/bytealg.IndexString"], unfollowed := true, recurses := true, named := ["internal/bytealg.MaxLen"], apart := false, narrowed := true }
def IdentDigestUptoSaid : Prop := identDigestUptoRow.holds Try.pinned (OpenSpec.upto identDigestSpec)

end Rows
end Go.Proofs.Ytpfanafggmkejaa
