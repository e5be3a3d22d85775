/-
  DERIVED. GIVEN WITH THE SEED: THE CARDS: each row of YtnjnfpnkcapilaaDoorRows.lean that lists a variable, with what it lists TIED to the program's text (the seventh form; the later family's looks); each row that meets fmt, with fmt's text TOLD by the authors' own Lean function (tested against real Go, not proved from fmt's source: count such statements apart). THE CARD IS WHAT COUNTS. Prove the row's statement (the work); the ties are given (YtnjnfpnkcapilaaDoorTie.lean); close each card by the builder's one call (the guide's Derived/Test/ToyasCard.lean, 'card_holds'). Laid BY PROGRAM, IN A SANDBOX (cutbox-door.mjs). By AI agents, Wed Nov 11 2026. No macro, syntax, notation, axiom, sorry.
-/
import Derived.Test.YtnjnfpnkcapilaaDoorRows
import GoSem.ClaimSeven
namespace Go.Proofs.YtnjnfpnkcapilaaDoor
namespace Rows

/-- THE TIED CARD OF 'pinfoldlaw11.Confs'. -/
def confsCard : Claim7 := { stood := { row := confsRow, standIns := [], harness := (true, "2f70b3fe4cacab0cf46ddced0b56d786fd84c4aa8b3d7b8bf0f1e9df3e3e93a1"), looks := false }, kinds := [], alts := [], laidByText := true, laidKinds := [.data, .pinned], laidTests := true, laidLooks := .later }
def ConfsCardSaid : Prop := Claim7.holds Tryd.pinned (.plain (OpenSpec.ofChange confsSpec)) confsCard

/-- THE TIED CARD OF 'pinfoldlaw11.ConfBack'. -/
def confBackCard : Claim7 := { stood := { row := confBackRow, standIns := [], harness := (true, "2f70b3fe4cacab0cf46ddced0b56d786fd84c4aa8b3d7b8bf0f1e9df3e3e93a1"), looks := false }, kinds := [], alts := [], laidByText := true, laidKinds := [.data, .pinned], laidTests := true, laidLooks := .later }
def ConfBackCardSaid : Prop := Claim7.holds Tryd.pinned (.plain (OpenSpec.ofChange confBackSpec)) confBackCard

/-- THE TIED CARD OF 'pinfoldlaw11.ConfForms'. -/
def confFormsCard : Claim7 := { stood := { row := confFormsRow, standIns := [], harness := (true, "2f70b3fe4cacab0cf46ddced0b56d786fd84c4aa8b3d7b8bf0f1e9df3e3e93a1"), looks := false }, kinds := [], alts := [], laidByText := true, laidKinds := [.data, .pinned], laidTests := true, laidLooks := .later }
def ConfFormsCardSaid : Prop := Claim7.holds Tryd.pinned (.plain (OpenSpec.ofChange confFormsSpec)) confFormsCard

/-- THE TIED CARD OF 'pinfoldlaw11.ConfHosts'. -/
def confHostsCard : Claim7 := { stood := { row := confHostsRow, standIns := [], harness := (true, "2f70b3fe4cacab0cf46ddced0b56d786fd84c4aa8b3d7b8bf0f1e9df3e3e93a1"), looks := false }, kinds := [], alts := [], laidByText := true, laidKinds := [.data, .pinned], laidTests := true, laidLooks := .later }
def ConfHostsCardSaid : Prop := Claim7.holds Tryd.pinned (.plain (OpenSpec.ofChange confHostsSpec)) confHostsCard

/-- THE TIED CARD OF 'pinfoldlaw11.ConfRows'. -/
def confRowsCard : Claim7 := { stood := { row := confRowsRow, standIns := [], harness := (true, "2f70b3fe4cacab0cf46ddced0b56d786fd84c4aa8b3d7b8bf0f1e9df3e3e93a1"), looks := false }, kinds := [], alts := [], laidByText := true, laidKinds := [.data, .pinned], laidTests := true, laidLooks := .later }
def ConfRowsCardSaid : Prop := Claim7.holds Tryd.pinned (.plain (OpenSpec.ofChange confRowsSpec)) confRowsCard

/-- THE TIED CARD OF 'pinfoldlaw16.Regises'. -/
def regisesCard : Claim7 := { stood := { row := regisesRow, standIns := [], harness := (true, "2f70b3fe4cacab0cf46ddced0b56d786fd84c4aa8b3d7b8bf0f1e9df3e3e93a1"), looks := false }, kinds := [], alts := [], laidByText := true, laidKinds := [.data, .pinned], laidTests := true, laidLooks := .later }
def RegisesCardSaid : Prop := Claim7.holds Tryd.pinned (.plain (OpenSpec.ofChange regisesSpec)) regisesCard

/-- THE TIED CARD OF 'pinfoldlaw16.RegisOne'. -/
def regisOneCard : Claim7 := { stood := { row := regisOneRow, standIns := [], harness := (true, "2f70b3fe4cacab0cf46ddced0b56d786fd84c4aa8b3d7b8bf0f1e9df3e3e93a1"), looks := false }, kinds := [], alts := [], laidByText := true, laidKinds := [.data, .pinned], laidTests := true, laidLooks := .later }
def RegisOneCardSaid : Prop := Claim7.holds Tryd.pinned (.plain (OpenSpec.ofChange regisOneSpec)) regisOneCard

/-- THE TIED CARD OF 'pinfoldlaw16.RegisForms'. -/
def regisFormsCard : Claim7 := { stood := { row := regisFormsRow, standIns := [], harness := (true, "2f70b3fe4cacab0cf46ddced0b56d786fd84c4aa8b3d7b8bf0f1e9df3e3e93a1"), looks := false }, kinds := [], alts := [], laidByText := true, laidKinds := [.data, .pinned], laidTests := true, laidLooks := .later }
def RegisFormsCardSaid : Prop := Claim7.holds Tryd.pinned (.plain (OpenSpec.ofChange regisFormsSpec)) regisFormsCard

/-- THE TIED CARD OF 'pinfoldlaw16.RegisHeld'. -/
def regisHeldCard : Claim7 := { stood := { row := regisHeldRow, standIns := [], harness := (true, "2f70b3fe4cacab0cf46ddced0b56d786fd84c4aa8b3d7b8bf0f1e9df3e3e93a1"), looks := false }, kinds := [], alts := [], laidByText := true, laidKinds := [.data, .pinned], laidTests := true, laidLooks := .later }
def RegisHeldCardSaid : Prop := Claim7.holds Tryd.pinned (.plain (OpenSpec.ofChange regisHeldSpec)) regisHeldCard

/-- THE TIED CARD OF 'pinfoldlaw16.RegisTime'. -/
def regisTimeCard : Claim7 := { stood := { row := regisTimeRow, standIns := [], harness := (true, "2f70b3fe4cacab0cf46ddced0b56d786fd84c4aa8b3d7b8bf0f1e9df3e3e93a1"), looks := false }, kinds := [], alts := [], laidByText := true, laidKinds := [.data, .pinned], laidTests := true, laidLooks := .later }
def RegisTimeCardSaid : Prop := Claim7.holds Tryd.pinned (.plain (OpenSpec.ofChange regisTimeSpec)) regisTimeCard

/-- THE SECOND FORM's CARD OF 'pinfoldlaw11.Confs'. -/
def confsUptoCard : Claim7 := { stood := { row := confsUptoRow, standIns := [], harness := (true, "2f70b3fe4cacab0cf46ddced0b56d786fd84c4aa8b3d7b8bf0f1e9df3e3e93a1"), looks := false }, kinds := [], alts := [], laidByText := true, laidKinds := [.data, .pinned], laidTests := true, laidLooks := .later }
def ConfsUptoCardSaid : Prop := Claim7.holds Tryd.pinned (.plain (OpenSpec.upto confsSpec)) confsUptoCard

/-- THE SECOND FORM's CARD OF 'pinfoldlaw11.ConfBack'. -/
def confBackUptoCard : Claim7 := { stood := { row := confBackUptoRow, standIns := [], harness := (true, "2f70b3fe4cacab0cf46ddced0b56d786fd84c4aa8b3d7b8bf0f1e9df3e3e93a1"), looks := false }, kinds := [], alts := [], laidByText := true, laidKinds := [.data, .pinned], laidTests := true, laidLooks := .later }
def ConfBackUptoCardSaid : Prop := Claim7.holds Tryd.pinned (.plain (OpenSpec.upto confBackSpec)) confBackUptoCard

/-- THE SECOND FORM's CARD OF 'pinfoldlaw11.ConfForms'. -/
def confFormsUptoCard : Claim7 := { stood := { row := confFormsUptoRow, standIns := [], harness := (true, "2f70b3fe4cacab0cf46ddced0b56d786fd84c4aa8b3d7b8bf0f1e9df3e3e93a1"), looks := false }, kinds := [], alts := [], laidByText := true, laidKinds := [.data, .pinned], laidTests := true, laidLooks := .later }
def ConfFormsUptoCardSaid : Prop := Claim7.holds Tryd.pinned (.plain (OpenSpec.upto confFormsSpec)) confFormsUptoCard

/-- THE SECOND FORM's CARD OF 'pinfoldlaw11.ConfHosts'. -/
def confHostsUptoCard : Claim7 := { stood := { row := confHostsUptoRow, standIns := [], harness := (true, "2f70b3fe4cacab0cf46ddced0b56d786fd84c4aa8b3d7b8bf0f1e9df3e3e93a1"), looks := false }, kinds := [], alts := [], laidByText := true, laidKinds := [.data, .pinned], laidTests := true, laidLooks := .later }
def ConfHostsUptoCardSaid : Prop := Claim7.holds Tryd.pinned (.plain (OpenSpec.upto confHostsSpec)) confHostsUptoCard

/-- THE SECOND FORM's CARD OF 'pinfoldlaw11.ConfRows'. -/
def confRowsUptoCard : Claim7 := { stood := { row := confRowsUptoRow, standIns := [], harness := (true, "2f70b3fe4cacab0cf46ddced0b56d786fd84c4aa8b3d7b8bf0f1e9df3e3e93a1"), looks := false }, kinds := [], alts := [], laidByText := true, laidKinds := [.data, .pinned], laidTests := true, laidLooks := .later }
def ConfRowsUptoCardSaid : Prop := Claim7.holds Tryd.pinned (.plain (OpenSpec.upto confRowsSpec)) confRowsUptoCard

/-- THE SECOND FORM's CARD OF 'pinfoldlaw16.Regises'. -/
def regisesUptoCard : Claim7 := { stood := { row := regisesUptoRow, standIns := [], harness := (true, "2f70b3fe4cacab0cf46ddced0b56d786fd84c4aa8b3d7b8bf0f1e9df3e3e93a1"), looks := false }, kinds := [], alts := [], laidByText := true, laidKinds := [.data, .pinned], laidTests := true, laidLooks := .later }
def RegisesUptoCardSaid : Prop := Claim7.holds Tryd.pinned (.plain (OpenSpec.upto regisesSpec)) regisesUptoCard

/-- THE SECOND FORM's CARD OF 'pinfoldlaw16.RegisOne'. -/
def regisOneUptoCard : Claim7 := { stood := { row := regisOneUptoRow, standIns := [], harness := (true, "2f70b3fe4cacab0cf46ddced0b56d786fd84c4aa8b3d7b8bf0f1e9df3e3e93a1"), looks := false }, kinds := [], alts := [], laidByText := true, laidKinds := [.data, .pinned], laidTests := true, laidLooks := .later }
def RegisOneUptoCardSaid : Prop := Claim7.holds Tryd.pinned (.plain (OpenSpec.upto regisOneSpec)) regisOneUptoCard

/-- THE SECOND FORM's CARD OF 'pinfoldlaw16.RegisForms'. -/
def regisFormsUptoCard : Claim7 := { stood := { row := regisFormsUptoRow, standIns := [], harness := (true, "2f70b3fe4cacab0cf46ddced0b56d786fd84c4aa8b3d7b8bf0f1e9df3e3e93a1"), looks := false }, kinds := [], alts := [], laidByText := true, laidKinds := [.data, .pinned], laidTests := true, laidLooks := .later }
def RegisFormsUptoCardSaid : Prop := Claim7.holds Tryd.pinned (.plain (OpenSpec.upto regisFormsSpec)) regisFormsUptoCard

/-- THE SECOND FORM's CARD OF 'pinfoldlaw16.RegisHeld'. -/
def regisHeldUptoCard : Claim7 := { stood := { row := regisHeldUptoRow, standIns := [], harness := (true, "2f70b3fe4cacab0cf46ddced0b56d786fd84c4aa8b3d7b8bf0f1e9df3e3e93a1"), looks := false }, kinds := [], alts := [], laidByText := true, laidKinds := [.data, .pinned], laidTests := true, laidLooks := .later }
def RegisHeldUptoCardSaid : Prop := Claim7.holds Tryd.pinned (.plain (OpenSpec.upto regisHeldSpec)) regisHeldUptoCard

/-- THE SECOND FORM's CARD OF 'pinfoldlaw16.RegisTime'. -/
def regisTimeUptoCard : Claim7 := { stood := { row := regisTimeUptoRow, standIns := [], harness := (true, "2f70b3fe4cacab0cf46ddced0b56d786fd84c4aa8b3d7b8bf0f1e9df3e3e93a1"), looks := false }, kinds := [], alts := [], laidByText := true, laidKinds := [.data, .pinned], laidTests := true, laidLooks := .later }
def RegisTimeUptoCardSaid : Prop := Claim7.holds Tryd.pinned (.plain (OpenSpec.upto regisTimeSpec)) regisTimeUptoCard
end Rows
end Go.Proofs.YtnjnfpnkcapilaaDoor
