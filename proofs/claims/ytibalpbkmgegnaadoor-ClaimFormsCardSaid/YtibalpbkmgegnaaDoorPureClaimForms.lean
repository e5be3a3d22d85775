/- ClaimForms: what may not be asked. No condition. -/
import Derived.Test.YtibalpbkmgegnaaDoorPMx11
namespace Go.Proofs.YtibalpbkmgegnaaDoor.Pure
open Go.RowKit Go.Proofs.YtibalpbkmgegnaaDoor.PM Go.Proofs.YtibalpbkmgegnaaDoorW.PrintWords Go.Proofs.YtibalpbkmgegnaaDoorW.PrintLast
set_option linter.unusedSimpArgs false
set_option linter.unusedVariables false

/-- what may not be asked. -/
theorem ClaimForms : pinfoldlaw17_ClaimForms.Pure := by
  intro a0 a1 _ _
  rfl

end Go.Proofs.YtibalpbkmgegnaaDoor.Pure
