/- ClaimOne: behind a claim no host is another one's that was not; who claimed has just one lease; of others' names none is won twice. No condition. -/
import Derived.Test.YtibalpbkmgegnaaDoorPNx16
namespace Go.Proofs.YtibalpbkmgegnaaDoor.Pure
open Go.RowKit Go.Proofs.YtibalpbkmgegnaaDoor.PN Go.Proofs.YtibalpbkmgegnaaDoorW.PrintWords Go.Proofs.YtibalpbkmgegnaaDoorW.PrintLast
set_option linter.unusedSimpArgs false
set_option linter.unusedVariables false

theorem fit_of {l2 : List Int} {l3 : List S72} {z : ByteArray} {l6 : List S74} (h2 : l2.length * Tryd.prog.bytesOf 3 ≤ 140737488351232) (h3 : l3.length * Tryd.prog.bytesOf 72 ≤ 140737488351232) (hz : z.size ≤ 140737488351232) (h6 : l6.length * Tryd.prog.bytesOf 74 ≤ 140737488351232) (hx : ∀ x ∈ l6, x.f0.size ≤ 140737488351232 ∧ x.f4.size ≤ 140737488351232) : confFit l2 l3 z l6 := by
  rw [show Tryd.prog.bytesOf 3 = 8 by kernel_rfl] at h2
  rw [show Tryd.prog.bytesOf 72 = 24 by kernel_rfl] at h3
  rw [show Tryd.prog.bytesOf 74 = 80 by kernel_rfl] at h6
  exact ⟨by omega, by omega, hz, by omega, hx⟩
theorem awake20 : pinfoldlaw17_awake.f = some true := rfl
theorem awake_eq (k : Nat) (_ : 20 ≤ k) : pinfoldlaw17_awake.f = some true := rfl
/-- behind a claim no host is another one's that was not; who claimed has just one lease; of others' names none is won twice. -/
theorem ClaimOne : pinfoldlaw17_ClaimOne.Pure := by
  intro a0 a1 l2 l3 a4 z l6 ls now c q0 q1 q2 q3 q4 _ _ w2 w3 _ w5 w6 w7 _ _ _ _ _ w8
  have hf : confFit l2 l3 z l6 := fit_of w2.1 w3.1 w5 w6.1 (fun x hx => ⟨(w6.2 x hx).1, (w6.2 x hx).2.2.2.2.1⟩)
  have ht : tabFit ls := by
    have h7 := w7.1
    rw [show Tryd.prog.bytesOf 36 = 64 by kernel_rfl] at h7
    exact ⟨by omega, fun x hx => (w7.2 x hx).2.2.2.2.1⟩
  unfold pinfoldlaw17_ClaimOne.f
  rw [if_pos ⟨⟨hf, ht⟩, w8⟩]

end Go.Proofs.YtibalpbkmgegnaaDoor.Pure
