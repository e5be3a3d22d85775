/-
  DERIVED. GIVEN WITH THE SEED: THE CARDS: each row of YtdhckibkljafgaaGreatDoorRows.lean that lists a variable, with what it lists TIED to the program's text (the seventh form; the later family's looks); each row that meets fmt, with fmt's text TOLD by the authors' own Lean function (tested against real Go, not proved from fmt's source: count such statements apart). THE CARD IS WHAT COUNTS. Prove the row's statement (the work); the ties are given (YtdhckibkljafgaaGreatDoorTie.lean); close each card by the builder's one call (the guide's Derived/Test/ToyasCard.lean, 'card_holds'). Laid BY PROGRAM, IN A SANDBOX (cutbox-door.mjs). By AI agents, Wed Nov 11 2026. No macro, syntax, notation, axiom, sorry.
-/
import Derived.Test.YtdhckibkljafgaaGreatDoorRows
import GoSem.ClaimSeven
namespace Go.Proofs.YtdhckibkljafgaaGreatDoor
namespace Rows

/-- THE TIED CARD OF 'pinfoldlaw15.Offers'. -/
def offersCard : Claim7 := { stood := { row := offersRow, standIns := [], harness := (true, "7ee24b53760668ee4fc78a8abb4a703e67b81417223761e238a8b627f9cec53a"), looks := false }, kinds := [], alts := [], laidByText := true, laidKinds := [.data, .pinned], laidTests := true, laidLooks := .later }
def OffersCardSaid : Prop := Claim7.holds Tryz.pinned (.plain (OpenSpec.ofChange offersSpec)) offersCard

/-- THE TIED CARD OF 'pinfoldlaw15.OfferPicks'. -/
def offerPicksCard : Claim7 := { stood := { row := offerPicksRow, standIns := [], harness := (true, "7ee24b53760668ee4fc78a8abb4a703e67b81417223761e238a8b627f9cec53a"), looks := false }, kinds := [], alts := [], laidByText := true, laidKinds := [.data, .pinned], laidTests := true, laidLooks := .later }
def OfferPicksCardSaid : Prop := Claim7.holds Tryz.pinned (.plain (OpenSpec.ofChange offerPicksSpec)) offerPicksCard

/-- THE SECOND FORM's CARD OF 'pinfoldlaw15.Offers'. -/
def offersUptoCard : Claim7 := { stood := { row := offersUptoRow, standIns := [], harness := (true, "7ee24b53760668ee4fc78a8abb4a703e67b81417223761e238a8b627f9cec53a"), looks := false }, kinds := [], alts := [], laidByText := true, laidKinds := [.data, .pinned], laidTests := true, laidLooks := .later }
def OffersUptoCardSaid : Prop := Claim7.holds Tryz.pinned (.plain (OpenSpec.upto offersSpec)) offersUptoCard

/-- THE SECOND FORM's CARD OF 'pinfoldlaw15.OfferPicks'. -/
def offerPicksUptoCard : Claim7 := { stood := { row := offerPicksUptoRow, standIns := [], harness := (true, "7ee24b53760668ee4fc78a8abb4a703e67b81417223761e238a8b627f9cec53a"), looks := false }, kinds := [], alts := [], laidByText := true, laidKinds := [.data, .pinned], laidTests := true, laidLooks := .later }
def OfferPicksUptoCardSaid : Prop := Claim7.holds Tryz.pinned (.plain (OpenSpec.upto offerPicksSpec)) offerPicksUptoCard
end Rows
end Go.Proofs.YtdhckibkljafgaaGreatDoor
