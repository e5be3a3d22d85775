/- PinfoldNames: every error, limit and kind is the document's. No condition. -/
import Derived.Test.YtfjbcdalbmealaaPPinfoldNamesx1
namespace Go.Proofs.Ytfjbcdalbmealaa.Pure
open Go.RowKit Go.Proofs.Ytfjbcdalbmealaa.PPinfoldNames Go.Proofs.YtfjbcdalbmealaaW.PrintWords Go.Proofs.YtfjbcdalbmealaaW.PrintLast

/-- every error, limit and kind is the document's. -/
theorem PinfoldNames : pinfoldlaw0_PinfoldNames.Pure := by
  show pinfoldlaw0_PinfoldNames.f = some true
  rfl

end Go.Proofs.Ytfjbcdalbmealaa.Pure
