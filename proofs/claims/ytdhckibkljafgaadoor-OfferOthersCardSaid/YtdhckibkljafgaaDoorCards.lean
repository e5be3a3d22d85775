/-
  DERIVED. GIVEN WITH THE SEED: THE CARDS: each row of YtdhckibkljafgaaDoorRows.lean that lists a variable, with what it lists TIED to the program's text (the seventh form; the later family's looks); each row that meets fmt, with fmt's text TOLD by the authors' own Lean function (tested against real Go, not proved from fmt's source: count such statements apart). THE CARD IS WHAT COUNTS. Prove the row's statement (the work); the ties are given (YtdhckibkljafgaaDoorTie.lean); close each card by the builder's one call (the guide's Derived/Test/ToyasCard.lean, 'card_holds'). Laid BY PROGRAM, IN A SANDBOX (cutbox-door.mjs). By AI agents, Wed Nov 11 2026. No macro, syntax, notation, axiom, sorry.
-/
import Derived.Test.YtdhckibkljafgaaDoorRows
import GoSem.ClaimSeven
namespace Go.Proofs.YtdhckibkljafgaaDoor
namespace Rows

/-- THE TIED CARD OF 'pinfoldlaw15.OfferOthers'. -/
def offerOthersCard : Claim7 := { stood := { row := offerOthersRow, standIns := [], harness := (true, "7ac2f3f859cfaa841a34c95fccf371c5ec014f521f65276640b5d2e3b3fc76a5"), looks := false }, kinds := [], alts := [], laidByText := true, laidKinds := [.data, .pinned], laidTests := true, laidLooks := .later }
def OfferOthersCardSaid : Prop := Claim7.holds Tryd.pinned (.plain (OpenSpec.ofChange offerOthersSpec)) offerOthersCard

/-- THE TIED CARD OF 'pinfoldlaw15.OfferForms'. -/
def offerFormsCard : Claim7 := { stood := { row := offerFormsRow, standIns := [], harness := (true, "7ac2f3f859cfaa841a34c95fccf371c5ec014f521f65276640b5d2e3b3fc76a5"), looks := false }, kinds := [], alts := [], laidByText := true, laidKinds := [.data, .pinned], laidTests := true, laidLooks := .later }
def OfferFormsCardSaid : Prop := Claim7.holds Tryd.pinned (.plain (OpenSpec.ofChange offerFormsSpec)) offerFormsCard

/-- THE TIED CARD OF 'pinfoldlaw15.OfferAgain'. -/
def offerAgainCard : Claim7 := { stood := { row := offerAgainRow, standIns := [], harness := (true, "7ac2f3f859cfaa841a34c95fccf371c5ec014f521f65276640b5d2e3b3fc76a5"), looks := false }, kinds := [], alts := [], laidByText := true, laidKinds := [.data, .pinned], laidTests := true, laidLooks := .later }
def OfferAgainCardSaid : Prop := Claim7.holds Tryd.pinned (.plain (OpenSpec.ofChange offerAgainSpec)) offerAgainCard

/-- THE SECOND FORM's CARD OF 'pinfoldlaw15.OfferOthers'. -/
def offerOthersUptoCard : Claim7 := { stood := { row := offerOthersUptoRow, standIns := [], harness := (true, "7ac2f3f859cfaa841a34c95fccf371c5ec014f521f65276640b5d2e3b3fc76a5"), looks := false }, kinds := [], alts := [], laidByText := true, laidKinds := [.data, .pinned], laidTests := true, laidLooks := .later }
def OfferOthersUptoCardSaid : Prop := Claim7.holds Tryd.pinned (.plain (OpenSpec.upto offerOthersSpec)) offerOthersUptoCard

/-- THE SECOND FORM's CARD OF 'pinfoldlaw15.OfferForms'. -/
def offerFormsUptoCard : Claim7 := { stood := { row := offerFormsUptoRow, standIns := [], harness := (true, "7ac2f3f859cfaa841a34c95fccf371c5ec014f521f65276640b5d2e3b3fc76a5"), looks := false }, kinds := [], alts := [], laidByText := true, laidKinds := [.data, .pinned], laidTests := true, laidLooks := .later }
def OfferFormsUptoCardSaid : Prop := Claim7.holds Tryd.pinned (.plain (OpenSpec.upto offerFormsSpec)) offerFormsUptoCard

/-- THE SECOND FORM's CARD OF 'pinfoldlaw15.OfferAgain'. -/
def offerAgainUptoCard : Claim7 := { stood := { row := offerAgainUptoRow, standIns := [], harness := (true, "7ac2f3f859cfaa841a34c95fccf371c5ec014f521f65276640b5d2e3b3fc76a5"), looks := false }, kinds := [], alts := [], laidByText := true, laidKinds := [.data, .pinned], laidTests := true, laidLooks := .later }
def OfferAgainUptoCardSaid : Prop := Claim7.holds Tryd.pinned (.plain (OpenSpec.upto offerAgainSpec)) offerAgainUptoCard
end Rows
end Go.Proofs.YtdhckibkljafgaaDoor
