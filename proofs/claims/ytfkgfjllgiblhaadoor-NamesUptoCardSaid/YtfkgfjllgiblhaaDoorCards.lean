/-
  DERIVED. GIVEN WITH THE SEED: THE CARDS: each row of YtfkgfjllgiblhaaDoorRows.lean that lists a variable, with what it lists TIED to the program's text (the seventh form; the later family's looks); each row that meets fmt, with fmt's text TOLD by the authors' own Lean function (tested against real Go, not proved from fmt's source: count such statements apart). THE CARD IS WHAT COUNTS. Prove the row's statement (the work); the ties are given (YtfkgfjllgiblhaaDoorTie.lean); close each card by the builder's one call (the guide's Derived/Test/ToyasCard.lean, 'card_holds'). Laid BY PROGRAM, IN A SANDBOX (cutbox-door.mjs). By AI agents, Wed Nov 11 2026. No macro, syntax, notation, axiom, sorry.
-/
import Derived.Test.YtfkgfjllgiblhaaDoorRows
import GoSem.ClaimSeven
namespace Go.Proofs.YtfkgfjllgiblhaaDoor
namespace Rows

/-- THE TIED CARD OF 'pinfoldlaw2.Names'. -/
def namesCard : Claim7 := { stood := { row := namesRow, standIns := [], harness := (true, "0794a835c458b4ef70e95c2d2acb8ed22ba06a65a018ef9392a5ddef0e65f02b"), looks := false }, kinds := [], alts := [], laidByText := true, laidKinds := [.data, .pinned], laidTests := true, laidLooks := .later }
def NamesCardSaid : Prop := Claim7.holds Tryd.pinned (.plain (OpenSpec.ofChange namesSpec)) namesCard

/-- THE TIED CARD OF 'pinfoldlaw2.NameUnder'. -/
def nameUnderCard : Claim7 := { stood := { row := nameUnderRow, standIns := [], harness := (true, "0794a835c458b4ef70e95c2d2acb8ed22ba06a65a018ef9392a5ddef0e65f02b"), looks := false }, kinds := [], alts := [], laidByText := true, laidKinds := [.data, .pinned], laidTests := true, laidLooks := .later }
def NameUnderCardSaid : Prop := Claim7.holds Tryd.pinned (.plain (OpenSpec.ofChange nameUnderSpec)) nameUnderCard

/-- THE TIED CARD OF 'pinfoldlaw2.NameForms'. -/
def nameFormsCard : Claim7 := { stood := { row := nameFormsRow, standIns := [], harness := (true, "0794a835c458b4ef70e95c2d2acb8ed22ba06a65a018ef9392a5ddef0e65f02b"), looks := false }, kinds := [], alts := [], laidByText := true, laidKinds := [.data, .pinned], laidTests := true, laidLooks := .later }
def NameFormsCardSaid : Prop := Claim7.holds Tryd.pinned (.plain (OpenSpec.ofChange nameFormsSpec)) nameFormsCard

/-- THE TIED CARD OF 'pinfoldlaw2.NameJoins'. -/
def nameJoinsCard : Claim7 := { stood := { row := nameJoinsRow, standIns := [], harness := (true, "0794a835c458b4ef70e95c2d2acb8ed22ba06a65a018ef9392a5ddef0e65f02b"), looks := false }, kinds := [], alts := [], laidByText := true, laidKinds := [.data, .pinned], laidTests := true, laidLooks := .later }
def NameJoinsCardSaid : Prop := Claim7.holds Tryd.pinned (.plain (OpenSpec.ofChange nameJoinsSpec)) nameJoinsCard

/-- THE TIED CARD OF 'pinfoldlaw2.NameFolds'. -/
def nameFoldsCard : Claim7 := { stood := { row := nameFoldsRow, standIns := [], harness := (true, "0794a835c458b4ef70e95c2d2acb8ed22ba06a65a018ef9392a5ddef0e65f02b"), looks := false }, kinds := [], alts := [], laidByText := true, laidKinds := [.data, .pinned], laidTests := true, laidLooks := .later }
def NameFoldsCardSaid : Prop := Claim7.holds Tryd.pinned (.plain (OpenSpec.ofChange nameFoldsSpec)) nameFoldsCard

/-- THE TIED CARD OF 'pinfoldlaw2.NameZones'. -/
def nameZonesCard : Claim7 := { stood := { row := nameZonesRow, standIns := [], harness := (true, "0794a835c458b4ef70e95c2d2acb8ed22ba06a65a018ef9392a5ddef0e65f02b"), looks := false }, kinds := [], alts := [], laidByText := true, laidKinds := [.data, .pinned], laidTests := true, laidLooks := .later }
def NameZonesCardSaid : Prop := Claim7.holds Tryd.pinned (.plain (OpenSpec.ofChange nameZonesSpec)) nameZonesCard

/-- THE SECOND FORM's CARD OF 'pinfoldlaw2.Names'. -/
def namesUptoCard : Claim7 := { stood := { row := namesUptoRow, standIns := [], harness := (true, "0794a835c458b4ef70e95c2d2acb8ed22ba06a65a018ef9392a5ddef0e65f02b"), looks := false }, kinds := [], alts := [], laidByText := true, laidKinds := [.data, .pinned], laidTests := true, laidLooks := .later }
def NamesUptoCardSaid : Prop := Claim7.holds Tryd.pinned (.plain (OpenSpec.upto namesSpec)) namesUptoCard

/-- THE SECOND FORM's CARD OF 'pinfoldlaw2.NameUnder'. -/
def nameUnderUptoCard : Claim7 := { stood := { row := nameUnderUptoRow, standIns := [], harness := (true, "0794a835c458b4ef70e95c2d2acb8ed22ba06a65a018ef9392a5ddef0e65f02b"), looks := false }, kinds := [], alts := [], laidByText := true, laidKinds := [.data, .pinned], laidTests := true, laidLooks := .later }
def NameUnderUptoCardSaid : Prop := Claim7.holds Tryd.pinned (.plain (OpenSpec.upto nameUnderSpec)) nameUnderUptoCard

/-- THE SECOND FORM's CARD OF 'pinfoldlaw2.NameForms'. -/
def nameFormsUptoCard : Claim7 := { stood := { row := nameFormsUptoRow, standIns := [], harness := (true, "0794a835c458b4ef70e95c2d2acb8ed22ba06a65a018ef9392a5ddef0e65f02b"), looks := false }, kinds := [], alts := [], laidByText := true, laidKinds := [.data, .pinned], laidTests := true, laidLooks := .later }
def NameFormsUptoCardSaid : Prop := Claim7.holds Tryd.pinned (.plain (OpenSpec.upto nameFormsSpec)) nameFormsUptoCard

/-- THE SECOND FORM's CARD OF 'pinfoldlaw2.NameJoins'. -/
def nameJoinsUptoCard : Claim7 := { stood := { row := nameJoinsUptoRow, standIns := [], harness := (true, "0794a835c458b4ef70e95c2d2acb8ed22ba06a65a018ef9392a5ddef0e65f02b"), looks := false }, kinds := [], alts := [], laidByText := true, laidKinds := [.data, .pinned], laidTests := true, laidLooks := .later }
def NameJoinsUptoCardSaid : Prop := Claim7.holds Tryd.pinned (.plain (OpenSpec.upto nameJoinsSpec)) nameJoinsUptoCard

/-- THE SECOND FORM's CARD OF 'pinfoldlaw2.NameFolds'. -/
def nameFoldsUptoCard : Claim7 := { stood := { row := nameFoldsUptoRow, standIns := [], harness := (true, "0794a835c458b4ef70e95c2d2acb8ed22ba06a65a018ef9392a5ddef0e65f02b"), looks := false }, kinds := [], alts := [], laidByText := true, laidKinds := [.data, .pinned], laidTests := true, laidLooks := .later }
def NameFoldsUptoCardSaid : Prop := Claim7.holds Tryd.pinned (.plain (OpenSpec.upto nameFoldsSpec)) nameFoldsUptoCard

/-- THE SECOND FORM's CARD OF 'pinfoldlaw2.NameZones'. -/
def nameZonesUptoCard : Claim7 := { stood := { row := nameZonesUptoRow, standIns := [], harness := (true, "0794a835c458b4ef70e95c2d2acb8ed22ba06a65a018ef9392a5ddef0e65f02b"), looks := false }, kinds := [], alts := [], laidByText := true, laidKinds := [.data, .pinned], laidTests := true, laidLooks := .later }
def NameZonesUptoCardSaid : Prop := Claim7.holds Tryd.pinned (.plain (OpenSpec.upto nameZonesSpec)) nameZonesUptoCard
end Rows
end Go.Proofs.YtfkgfjllgiblhaaDoor
