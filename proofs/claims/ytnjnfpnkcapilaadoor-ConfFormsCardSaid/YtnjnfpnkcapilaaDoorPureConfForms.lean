/- ConfForms: configurations that may not be, one thing at a time. No condition. -/
import Derived.Test.YtnjnfpnkcapilaaDoorPConfFormsx5
namespace Go.Proofs.YtnjnfpnkcapilaaDoor.Pure
open Go.RowKit Go.Proofs.YtnjnfpnkcapilaaDoor.PConfForms Go.Proofs.YtnjnfpnkcapilaaDoorW.PrintWords Go.Proofs.YtnjnfpnkcapilaaDoorW.PrintLast
set_option linter.unusedSimpArgs false
set_option linter.unusedVariables false

/-- configurations that may not be, one thing at a time. -/
theorem ConfForms : pinfoldlaw11_ConfForms.Pure := by
  intro a0 a1 _ _
  rfl

end Go.Proofs.YtnjnfpnkcapilaaDoor.Pure
