/-
  DERIVED. GIVEN WITH THE SEED: THE CARDS: each row of YtibalpbkmgegnaaDoorRows.lean that lists a variable, with what it lists TIED to the program's text (the seventh form; the later family's looks); each row that meets fmt, with fmt's text TOLD by the authors' own Lean function (tested against real Go, not proved from fmt's source: count such statements apart). THE CARD IS WHAT COUNTS. Prove the row's statement (the work); the ties are given (YtibalpbkmgegnaaDoorTie.lean); close each card by the builder's one call (the guide's Derived/Test/ToyasCard.lean, 'card_holds'). Laid BY PROGRAM, IN A SANDBOX (cutbox-door.mjs). By AI agents, Wed Nov 11 2026. No macro, syntax, notation, axiom, sorry.
-/
import Derived.Test.YtibalpbkmgegnaaDoorRows
import GoSem.ClaimSeven
namespace Go.Proofs.YtibalpbkmgegnaaDoor
namespace Rows

/-- THE TIED CARD OF 'pinfoldlaw17.ClaimOne'. -/
def claimOneCard : Claim7 := { stood := { row := claimOneRow, standIns := [], harness := (true, "e75358afa26be3ba535917b37c80a25ceb8f5eed5b5b22cee27c887a909c3ddc"), looks := false }, kinds := [], alts := [], laidByText := true, laidKinds := [.data, .pinned], laidTests := true, laidLooks := .later }
def ClaimOneCardSaid : Prop := Claim7.holds Tryd.pinned (.plain (OpenSpec.ofChange claimOneSpec)) claimOneCard

/-- THE TIED CARD OF 'pinfoldlaw17.ClaimForms'. -/
def claimFormsCard : Claim7 := { stood := { row := claimFormsRow, standIns := [], harness := (true, "e75358afa26be3ba535917b37c80a25ceb8f5eed5b5b22cee27c887a909c3ddc"), looks := false }, kinds := [], alts := [], laidByText := true, laidKinds := [.data, .pinned], laidTests := true, laidLooks := .later }
def ClaimFormsCardSaid : Prop := Claim7.holds Tryd.pinned (.plain (OpenSpec.ofChange claimFormsSpec)) claimFormsCard

/-- THE TIED CARD OF 'pinfoldlaw17.ClaimKinds'. -/
def claimKindsCard : Claim7 := { stood := { row := claimKindsRow, standIns := [], harness := (true, "e75358afa26be3ba535917b37c80a25ceb8f5eed5b5b22cee27c887a909c3ddc"), looks := false }, kinds := [], alts := [], laidByText := true, laidKinds := [.data, .pinned], laidTests := true, laidLooks := .later }
def ClaimKindsCardSaid : Prop := Claim7.holds Tryd.pinned (.plain (OpenSpec.ofChange claimKindsSpec)) claimKindsCard

/-- THE TIED CARD OF 'pinfoldlaw17.ClaimRenews'. -/
def claimRenewsCard : Claim7 := { stood := { row := claimRenewsRow, standIns := [], harness := (true, "e75358afa26be3ba535917b37c80a25ceb8f5eed5b5b22cee27c887a909c3ddc"), looks := false }, kinds := [], alts := [], laidByText := true, laidKinds := [.data, .pinned], laidTests := true, laidLooks := .later }
def ClaimRenewsCardSaid : Prop := Claim7.holds Tryd.pinned (.plain (OpenSpec.ofChange claimRenewsSpec)) claimRenewsCard

/-- THE TIED CARD OF 'pinfoldlaw17.ClaimTwice'. -/
def claimTwiceCard : Claim7 := { stood := { row := claimTwiceRow, standIns := [], harness := (true, "e75358afa26be3ba535917b37c80a25ceb8f5eed5b5b22cee27c887a909c3ddc"), looks := false }, kinds := [], alts := [], laidByText := true, laidKinds := [.data, .pinned], laidTests := true, laidLooks := .later }
def ClaimTwiceCardSaid : Prop := Claim7.holds Tryd.pinned (.plain (OpenSpec.ofChange claimTwiceSpec)) claimTwiceCard

/-- THE SECOND FORM's CARD OF 'pinfoldlaw17.ClaimOne'. -/
def claimOneUptoCard : Claim7 := { stood := { row := claimOneUptoRow, standIns := [], harness := (true, "e75358afa26be3ba535917b37c80a25ceb8f5eed5b5b22cee27c887a909c3ddc"), looks := false }, kinds := [], alts := [], laidByText := true, laidKinds := [.data, .pinned], laidTests := true, laidLooks := .later }
def ClaimOneUptoCardSaid : Prop := Claim7.holds Tryd.pinned (.plain (OpenSpec.upto claimOneSpec)) claimOneUptoCard

/-- THE SECOND FORM's CARD OF 'pinfoldlaw17.ClaimForms'. -/
def claimFormsUptoCard : Claim7 := { stood := { row := claimFormsUptoRow, standIns := [], harness := (true, "e75358afa26be3ba535917b37c80a25ceb8f5eed5b5b22cee27c887a909c3ddc"), looks := false }, kinds := [], alts := [], laidByText := true, laidKinds := [.data, .pinned], laidTests := true, laidLooks := .later }
def ClaimFormsUptoCardSaid : Prop := Claim7.holds Tryd.pinned (.plain (OpenSpec.upto claimFormsSpec)) claimFormsUptoCard

/-- THE SECOND FORM's CARD OF 'pinfoldlaw17.ClaimKinds'. -/
def claimKindsUptoCard : Claim7 := { stood := { row := claimKindsUptoRow, standIns := [], harness := (true, "e75358afa26be3ba535917b37c80a25ceb8f5eed5b5b22cee27c887a909c3ddc"), looks := false }, kinds := [], alts := [], laidByText := true, laidKinds := [.data, .pinned], laidTests := true, laidLooks := .later }
def ClaimKindsUptoCardSaid : Prop := Claim7.holds Tryd.pinned (.plain (OpenSpec.upto claimKindsSpec)) claimKindsUptoCard

/-- THE SECOND FORM's CARD OF 'pinfoldlaw17.ClaimRenews'. -/
def claimRenewsUptoCard : Claim7 := { stood := { row := claimRenewsUptoRow, standIns := [], harness := (true, "e75358afa26be3ba535917b37c80a25ceb8f5eed5b5b22cee27c887a909c3ddc"), looks := false }, kinds := [], alts := [], laidByText := true, laidKinds := [.data, .pinned], laidTests := true, laidLooks := .later }
def ClaimRenewsUptoCardSaid : Prop := Claim7.holds Tryd.pinned (.plain (OpenSpec.upto claimRenewsSpec)) claimRenewsUptoCard

/-- THE SECOND FORM's CARD OF 'pinfoldlaw17.ClaimTwice'. -/
def claimTwiceUptoCard : Claim7 := { stood := { row := claimTwiceUptoRow, standIns := [], harness := (true, "e75358afa26be3ba535917b37c80a25ceb8f5eed5b5b22cee27c887a909c3ddc"), looks := false }, kinds := [], alts := [], laidByText := true, laidKinds := [.data, .pinned], laidTests := true, laidLooks := .later }
def ClaimTwiceUptoCardSaid : Prop := Claim7.holds Tryd.pinned (.plain (OpenSpec.upto claimTwiceSpec)) claimTwiceUptoCard
end Rows
end Go.Proofs.YtibalpbkmgegnaaDoor
