/- RegisForms: what may not be asked; hosts that have no full name. No condition. -/
import Derived.Test.YtnjnfpnkcapilaaDoorPRegisFormsx6
namespace Go.Proofs.YtnjnfpnkcapilaaDoor.Pure
open Go.RowKit Go.Proofs.YtnjnfpnkcapilaaDoor.PRegisForms Go.Proofs.YtnjnfpnkcapilaaDoorW.PrintWords Go.Proofs.YtnjnfpnkcapilaaDoorW.PrintLast
set_option linter.unusedSimpArgs false
set_option linter.unusedVariables false

/-- what may not be asked; hosts that have no full name. -/
theorem RegisForms : pinfoldlaw16_RegisForms.Pure := by
  intro a0 _
  rfl

end Go.Proofs.YtnjnfpnkcapilaaDoor.Pure
