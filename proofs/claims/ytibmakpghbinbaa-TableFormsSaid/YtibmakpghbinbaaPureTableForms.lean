/- TableForms: the loop asks the first number's rest alone. No condition. -/
import Derived.Test.YtibmakpghbinbaaPQx6
namespace Go.Proofs.Ytibmakpghbinbaa.Pure
open Go.RowKit Go.Proofs.Ytibmakpghbinbaa.PQ Go.Proofs.YtibmakpghbinbaaW.PrintWords Go.Proofs.YtibmakpghbinbaaW.PrintLast
set_option linter.unusedSimpArgs false
set_option linter.unusedVariables false

theorem tf_tmod6 (a : Int) : wrap64 (Int.tmod (IntKind.u64.wrap a) 6) = a % 18446744073709551616 % 6 := by
  rw [u64_eq, Int.tmod_eq_emod_of_nonneg (by omega), w64 (by omega)]
/-- the loop asks the first number's rest alone. -/
theorem tf_same : ∀ (k : Nat) (x y : Int) (d : Int) (g m : List S37) (i : Int), wrap64 (Int.tmod (IntKind.u64.wrap x) 6) = wrap64 (Int.tmod (IntKind.u64.wrap y) 6) → pinfoldlaw13_TableForms.l0 k x d g m i = pinfoldlaw13_TableForms.l0 k y d g m i := by
  intro k
  induction k with
  | zero => intro x y d g m i h; rfl
  | succ k ih =>
    intro x y d g m i h
    rw [pinfoldlaw13_TableForms.l0, pinfoldlaw13_TableForms.l0, ih x y d g _ _ h, h]
def tfGood : List S37 := [⟨10, 2, ⟨#[109, 101]⟩, 9, ⟨#[]⟩, false⟩, ⟨12, 0, ⟨#[]⟩, 0, ⟨#[]⟩, false⟩]
def tfIs (o : Option Bool) : Bool := match o with | some b => b | none => false
theorem tf_is {o : Option Bool} (h : tfIs o = true) : o = some true := by
  cases o with
  | none => cases h
  | some b => cases b with
    | false => cases h
    | true => rfl
def tfAll : Bool := (List.range 64).all fun i => (List.range 6).all fun j => tfIs (pinfoldlaw13_TableForms.l0 20 (j : Int) ((i : Int) + 1) tfGood [] 0)
theorem tf_all : tfAll = true := by kernel_rfl
theorem tf_one (i j : Nat) (hi : i < 64) (hj : j < 6) : pinfoldlaw13_TableForms.l0 20 (j : Int) ((i : Int) + 1) tfGood [] 0 = some true := by
  have h := tf_all
  unfold tfAll at h
  exact tf_is (List.all_eq_true.1 (List.all_eq_true.1 h i (List.mem_range.2 hi)) j (List.mem_range.2 hj))
theorem TableForms : pinfoldlaw13_TableForms.Pure := by
  intro a0 a1 _ _
  refine ⟨20, ?_⟩
  unfold pinfoldlaw13_TableForms.f
  rw [show pinfoldlaw13_awake.f 20 = some true by kernel_rfl, Option.bind_some, if_pos rfl, and_63]
  have m0 := Int.emod_nonneg a1 (show (64 : Int) ≠ 0 by decide)
  have m1 := Int.emod_lt_of_pos a1 (show (0 : Int) < 64 by decide)
  have w0 := Int.emod_nonneg (a0 % 18446744073709551616) (show (6 : Int) ≠ 0 by decide)
  have w1 := Int.emod_lt_of_pos (a0 % 18446744073709551616) (show (0 : Int) < 6 by decide)
  obtain ⟨i, hi⟩ : ∃ i : Nat, a1 % 64 = (i : Int) := ⟨(a1 % 64).toNat, by omega⟩
  obtain ⟨j, hj⟩ : ∃ j : Nat, a0 % 18446744073709551616 % 6 = (j : Int) := ⟨(a0 % 18446744073709551616 % 6).toNat, by omega⟩
  rw [hi, w64 (by omega), show (1 : Int) + (i : Int) = (i : Int) + 1 by omega]
  rw [tf_same 20 a0 (j : Int) _ _ _ _ (by rw [tf_tmod6, tf_tmod6, hj]; omega)]
  exact tf_one i j (by omega) (by omega)

end Go.Proofs.Ytibmakpghbinbaa.Pure
