/-
  DERIVED. GIVEN WITH THE SEED: THE CARDS: each row of YtibalpbkmgegnaaGreatDoorRows.lean that lists a variable, with what it lists TIED to the program's text (the seventh form; the later family's looks); each row that meets fmt, with fmt's text TOLD by the authors' own Lean function (tested against real Go, not proved from fmt's source: count such statements apart). THE CARD IS WHAT COUNTS. Prove the row's statement (the work); the ties are given (YtibalpbkmgegnaaGreatDoorTie.lean); close each card by the builder's one call (the guide's Derived/Test/ToyasCard.lean, 'card_holds'). Laid BY PROGRAM, IN A SANDBOX (cutbox-door.mjs). By AI agents, Wed Nov 11 2026. No macro, syntax, notation, axiom, sorry.
-/
import Derived.Test.YtibalpbkmgegnaaGreatDoorRows
import GoSem.ClaimSeven
namespace Go.Proofs.YtibalpbkmgegnaaGreatDoor
namespace Rows

/-- THE TIED CARD OF 'pinfoldlaw17.Claims'. -/
def claimsCard : Claim7 := { stood := { row := claimsRow, standIns := [], harness := (true, "503e74bedeebc8a979014e208968ca7177eaca688df163418ea3f07ce98cf7f8"), looks := false }, kinds := [], alts := [], laidByText := true, laidKinds := [.data, .pinned], laidTests := true, laidLooks := .later }
def ClaimsCardSaid : Prop := Claim7.holds Tryz.pinned (.plain (OpenSpec.ofChange claimsSpec)) claimsCard

/-- THE SECOND FORM's CARD OF 'pinfoldlaw17.Claims'. -/
def claimsUptoCard : Claim7 := { stood := { row := claimsUptoRow, standIns := [], harness := (true, "503e74bedeebc8a979014e208968ca7177eaca688df163418ea3f07ce98cf7f8"), looks := false }, kinds := [], alts := [], laidByText := true, laidKinds := [.data, .pinned], laidTests := true, laidLooks := .later }
def ClaimsUptoCardSaid : Prop := Claim7.holds Tryz.pinned (.plain (OpenSpec.upto claimsSpec)) claimsUptoCard
end Rows
end Go.Proofs.YtibalpbkmgegnaaGreatDoor
