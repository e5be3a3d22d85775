/-
  DERIVED. GIVEN WITH THE SEED: THE CARDS: each row of YtmoobaehoccihaaDoorRows.lean that lists a variable, with what it lists TIED to the program's text (the seventh form; the later family's looks); each row that meets fmt, with fmt's text TOLD by the authors' own Lean function (tested against real Go, not proved from fmt's source: count such statements apart). THE CARD IS WHAT COUNTS. Prove the row's statement (the work); the ties are given (YtmoobaehoccihaaDoorTie.lean); close each card by the builder's one call (the guide's Derived/Test/ToyasCard.lean, 'card_holds'). Laid BY PROGRAM, IN A SANDBOX (cutbox-door.mjs). By AI agents, Wed Nov 11 2026. No macro, syntax, notation, axiom, sorry.
-/
import Derived.Test.YtmoobaehoccihaaDoorRows
import GoSem.ClaimSeven
namespace Go.Proofs.YtmoobaehoccihaaDoor
namespace Rows

/-- THE TIED CARD OF 'pinfoldlaw18.Drops'. -/
def dropsCard : Claim7 := { stood := { row := dropsRow, standIns := [], harness := (true, "55833da64acaed21eb17f84e153116c58bc797283c50dde4a9d6f4cf10c706bc"), looks := false }, kinds := [], alts := [], laidByText := true, laidKinds := [.data, .pinned], laidTests := true, laidLooks := .later }
def DropsCardSaid : Prop := Claim7.holds Tryd.pinned (.plain (OpenSpec.ofChange dropsSpec)) dropsCard

/-- THE TIED CARD OF 'pinfoldlaw18.DropOwn'. -/
def dropOwnCard : Claim7 := { stood := { row := dropOwnRow, standIns := [], harness := (true, "55833da64acaed21eb17f84e153116c58bc797283c50dde4a9d6f4cf10c706bc"), looks := false }, kinds := [], alts := [], laidByText := true, laidKinds := [.data, .pinned], laidTests := true, laidLooks := .later }
def DropOwnCardSaid : Prop := Claim7.holds Tryd.pinned (.plain (OpenSpec.ofChange dropOwnSpec)) dropOwnCard

/-- THE TIED CARD OF 'pinfoldlaw18.DropForms'. -/
def dropFormsCard : Claim7 := { stood := { row := dropFormsRow, standIns := [], harness := (true, "55833da64acaed21eb17f84e153116c58bc797283c50dde4a9d6f4cf10c706bc"), looks := false }, kinds := [], alts := [], laidByText := true, laidKinds := [.data, .pinned], laidTests := true, laidLooks := .later }
def DropFormsCardSaid : Prop := Claim7.holds Tryd.pinned (.plain (OpenSpec.ofChange dropFormsSpec)) dropFormsCard

/-- THE TIED CARD OF 'pinfoldlaw18.DropThen'. -/
def dropThenCard : Claim7 := { stood := { row := dropThenRow, standIns := [], harness := (true, "55833da64acaed21eb17f84e153116c58bc797283c50dde4a9d6f4cf10c706bc"), looks := false }, kinds := [], alts := [], laidByText := true, laidKinds := [.data, .pinned], laidTests := true, laidLooks := .later }
def DropThenCardSaid : Prop := Claim7.holds Tryd.pinned (.plain (OpenSpec.ofChange dropThenSpec)) dropThenCard

/-- THE TIED CARD OF 'pinfoldlaw18.DropTwice'. -/
def dropTwiceCard : Claim7 := { stood := { row := dropTwiceRow, standIns := [], harness := (true, "55833da64acaed21eb17f84e153116c58bc797283c50dde4a9d6f4cf10c706bc"), looks := false }, kinds := [], alts := [], laidByText := true, laidKinds := [.data, .pinned], laidTests := true, laidLooks := .later }
def DropTwiceCardSaid : Prop := Claim7.holds Tryd.pinned (.plain (OpenSpec.ofChange dropTwiceSpec)) dropTwiceCard

/-- THE TIED CARD OF 'pinfoldlaw14.Picks'. -/
def picksCard : Claim7 := { stood := { row := picksRow, standIns := [], harness := (true, "55833da64acaed21eb17f84e153116c58bc797283c50dde4a9d6f4cf10c706bc"), looks := false }, kinds := [], alts := [], laidByText := true, laidKinds := [.data, .pinned], laidTests := true, laidLooks := .later }
def PicksCardSaid : Prop := Claim7.holds Tryd.pinned (.plain (OpenSpec.ofChange picksSpec)) picksCard

/-- THE TIED CARD OF 'pinfoldlaw14.PickOpen'. -/
def pickOpenCard : Claim7 := { stood := { row := pickOpenRow, standIns := [], harness := (true, "55833da64acaed21eb17f84e153116c58bc797283c50dde4a9d6f4cf10c706bc"), looks := false }, kinds := [], alts := [], laidByText := true, laidKinds := [.data, .pinned], laidTests := true, laidLooks := .later }
def PickOpenCardSaid : Prop := Claim7.holds Tryd.pinned (.plain (OpenSpec.ofChange pickOpenSpec)) pickOpenCard

/-- THE TIED CARD OF 'pinfoldlaw14.PickForms'. -/
def pickFormsCard : Claim7 := { stood := { row := pickFormsRow, standIns := [], harness := (true, "55833da64acaed21eb17f84e153116c58bc797283c50dde4a9d6f4cf10c706bc"), looks := false }, kinds := [], alts := [], laidByText := true, laidKinds := [.data, .pinned], laidTests := true, laidLooks := .later }
def PickFormsCardSaid : Prop := Claim7.holds Tryd.pinned (.plain (OpenSpec.ofChange pickFormsSpec)) pickFormsCard

/-- THE TIED CARD OF 'pinfoldlaw14.PickRow'. -/
def pickRowCard : Claim7 := { stood := { row := pickRowRow, standIns := [], harness := (true, "55833da64acaed21eb17f84e153116c58bc797283c50dde4a9d6f4cf10c706bc"), looks := false }, kinds := [], alts := [], laidByText := true, laidKinds := [.data, .pinned], laidTests := true, laidLooks := .later }
def PickRowCardSaid : Prop := Claim7.holds Tryd.pinned (.plain (OpenSpec.ofChange pickRowSpec)) pickRowCard

/-- THE TIED CARD OF 'pinfoldlaw14.PickSame'. -/
def pickSameCard : Claim7 := { stood := { row := pickSameRow, standIns := [], harness := (true, "55833da64acaed21eb17f84e153116c58bc797283c50dde4a9d6f4cf10c706bc"), looks := false }, kinds := [], alts := [], laidByText := true, laidKinds := [.data, .pinned], laidTests := true, laidLooks := .later }
def PickSameCardSaid : Prop := Claim7.holds Tryd.pinned (.plain (OpenSpec.ofChange pickSameSpec)) pickSameCard

/-- THE SECOND FORM's CARD OF 'pinfoldlaw18.Drops'. -/
def dropsUptoCard : Claim7 := { stood := { row := dropsUptoRow, standIns := [], harness := (true, "55833da64acaed21eb17f84e153116c58bc797283c50dde4a9d6f4cf10c706bc"), looks := false }, kinds := [], alts := [], laidByText := true, laidKinds := [.data, .pinned], laidTests := true, laidLooks := .later }
def DropsUptoCardSaid : Prop := Claim7.holds Tryd.pinned (.plain (OpenSpec.upto dropsSpec)) dropsUptoCard

/-- THE SECOND FORM's CARD OF 'pinfoldlaw18.DropOwn'. -/
def dropOwnUptoCard : Claim7 := { stood := { row := dropOwnUptoRow, standIns := [], harness := (true, "55833da64acaed21eb17f84e153116c58bc797283c50dde4a9d6f4cf10c706bc"), looks := false }, kinds := [], alts := [], laidByText := true, laidKinds := [.data, .pinned], laidTests := true, laidLooks := .later }
def DropOwnUptoCardSaid : Prop := Claim7.holds Tryd.pinned (.plain (OpenSpec.upto dropOwnSpec)) dropOwnUptoCard

/-- THE SECOND FORM's CARD OF 'pinfoldlaw18.DropForms'. -/
def dropFormsUptoCard : Claim7 := { stood := { row := dropFormsUptoRow, standIns := [], harness := (true, "55833da64acaed21eb17f84e153116c58bc797283c50dde4a9d6f4cf10c706bc"), looks := false }, kinds := [], alts := [], laidByText := true, laidKinds := [.data, .pinned], laidTests := true, laidLooks := .later }
def DropFormsUptoCardSaid : Prop := Claim7.holds Tryd.pinned (.plain (OpenSpec.upto dropFormsSpec)) dropFormsUptoCard

/-- THE SECOND FORM's CARD OF 'pinfoldlaw18.DropThen'. -/
def dropThenUptoCard : Claim7 := { stood := { row := dropThenUptoRow, standIns := [], harness := (true, "55833da64acaed21eb17f84e153116c58bc797283c50dde4a9d6f4cf10c706bc"), looks := false }, kinds := [], alts := [], laidByText := true, laidKinds := [.data, .pinned], laidTests := true, laidLooks := .later }
def DropThenUptoCardSaid : Prop := Claim7.holds Tryd.pinned (.plain (OpenSpec.upto dropThenSpec)) dropThenUptoCard

/-- THE SECOND FORM's CARD OF 'pinfoldlaw18.DropTwice'. -/
def dropTwiceUptoCard : Claim7 := { stood := { row := dropTwiceUptoRow, standIns := [], harness := (true, "55833da64acaed21eb17f84e153116c58bc797283c50dde4a9d6f4cf10c706bc"), looks := false }, kinds := [], alts := [], laidByText := true, laidKinds := [.data, .pinned], laidTests := true, laidLooks := .later }
def DropTwiceUptoCardSaid : Prop := Claim7.holds Tryd.pinned (.plain (OpenSpec.upto dropTwiceSpec)) dropTwiceUptoCard

/-- THE SECOND FORM's CARD OF 'pinfoldlaw14.Picks'. -/
def picksUptoCard : Claim7 := { stood := { row := picksUptoRow, standIns := [], harness := (true, "55833da64acaed21eb17f84e153116c58bc797283c50dde4a9d6f4cf10c706bc"), looks := false }, kinds := [], alts := [], laidByText := true, laidKinds := [.data, .pinned], laidTests := true, laidLooks := .later }
def PicksUptoCardSaid : Prop := Claim7.holds Tryd.pinned (.plain (OpenSpec.upto picksSpec)) picksUptoCard

/-- THE SECOND FORM's CARD OF 'pinfoldlaw14.PickOpen'. -/
def pickOpenUptoCard : Claim7 := { stood := { row := pickOpenUptoRow, standIns := [], harness := (true, "55833da64acaed21eb17f84e153116c58bc797283c50dde4a9d6f4cf10c706bc"), looks := false }, kinds := [], alts := [], laidByText := true, laidKinds := [.data, .pinned], laidTests := true, laidLooks := .later }
def PickOpenUptoCardSaid : Prop := Claim7.holds Tryd.pinned (.plain (OpenSpec.upto pickOpenSpec)) pickOpenUptoCard

/-- THE SECOND FORM's CARD OF 'pinfoldlaw14.PickForms'. -/
def pickFormsUptoCard : Claim7 := { stood := { row := pickFormsUptoRow, standIns := [], harness := (true, "55833da64acaed21eb17f84e153116c58bc797283c50dde4a9d6f4cf10c706bc"), looks := false }, kinds := [], alts := [], laidByText := true, laidKinds := [.data, .pinned], laidTests := true, laidLooks := .later }
def PickFormsUptoCardSaid : Prop := Claim7.holds Tryd.pinned (.plain (OpenSpec.upto pickFormsSpec)) pickFormsUptoCard

/-- THE SECOND FORM's CARD OF 'pinfoldlaw14.PickRow'. -/
def pickRowUptoCard : Claim7 := { stood := { row := pickRowUptoRow, standIns := [], harness := (true, "55833da64acaed21eb17f84e153116c58bc797283c50dde4a9d6f4cf10c706bc"), looks := false }, kinds := [], alts := [], laidByText := true, laidKinds := [.data, .pinned], laidTests := true, laidLooks := .later }
def PickRowUptoCardSaid : Prop := Claim7.holds Tryd.pinned (.plain (OpenSpec.upto pickRowSpec)) pickRowUptoCard

/-- THE SECOND FORM's CARD OF 'pinfoldlaw14.PickSame'. -/
def pickSameUptoCard : Claim7 := { stood := { row := pickSameUptoRow, standIns := [], harness := (true, "55833da64acaed21eb17f84e153116c58bc797283c50dde4a9d6f4cf10c706bc"), looks := false }, kinds := [], alts := [], laidByText := true, laidKinds := [.data, .pinned], laidTests := true, laidLooks := .later }
def PickSameUptoCardSaid : Prop := Claim7.holds Tryd.pinned (.plain (OpenSpec.upto pickSameSpec)) pickSameUptoCard
end Rows
end Go.Proofs.YtmoobaehoccihaaDoor
