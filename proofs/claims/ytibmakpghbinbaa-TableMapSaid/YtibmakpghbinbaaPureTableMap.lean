/- TableMap: leases put in any row are found, each host's last one; they stand by hosts. No condition. -/
import Derived.Test.YtibmakpghbinbaaPMx7
namespace Go.Proofs.Ytibmakpghbinbaa.Pure
open Go.RowKit Go.Proofs.Ytibmakpghbinbaa.PM Go.Proofs.YtibmakpghbinbaaW.PrintWords Go.Proofs.YtibmakpghbinbaaW.PrintLast
set_option linter.unusedSimpArgs false
set_option linter.unusedVariables false

/-- leases put in any row are found, each host's last one; they stand by hosts. -/
theorem TableMap : pinfoldlaw13_TableMap.Pure := by
  intro l0 l1 w0 w1
  have h0 := w0.1
  have h1 := w1.1
  rw [show Try.prog.bytesOf 3 = 8 by kernel_rfl] at h0 h1
  unfold pinfoldlaw13_TableMap.f
  rw [if_pos ⟨by omega, by omega⟩]

end Go.Proofs.Ytibmakpghbinbaa.Pure
