/- The pure law FnExactLeastSquarePlank: for all arguments the printed function of the law answers true. No condition. -/
import Derived.Test.YtcbjamkhnjpijaaPFnExactLeastSquarePlankx1
namespace Go.Proofs.Ytcbjamkhnjpijaa.Pure
open Go.RowKit Go.Proofs.Ytcbjamkhnjpijaa.PFnExactLeastSquarePlank Go.Proofs.YtcbjamkhnjpijaaW.PrintWords Go.Proofs.YtcbjamkhnjpijaaW.PrintLast Go.Proofs.YtcbjamkhnjpijaaW.PrintMore
set_option linter.unusedVariables false
set_option linter.unusedSimpArgs false

theorem l1In_eq (a lo hi : Int) : spec_l1In.f a lo hi = some (decide (lo ≤ a ∧ a ≤ hi)) := by
  unfold spec_l1In.f
  by_cases h : lo ≤ a
  · rw [if_pos h]; simp [h]
  · rw [if_neg h]; simp [h]
theorem within_eq (a lo hi : Int) : impl_within.f a lo hi = some (decide (lo ≤ a ∧ a ≤ hi)) := by
  unfold impl_within.f
  by_cases h : lo ≤ a
  · rw [if_pos h]; simp [h]
  · rw [if_neg h]; simp [h]

theorem cnDitch_eq (a : Int) : spec_cnDitch.f a = some (decide (1 ≤ a ∧ a ≤ 100)) := by
  unfold spec_cnDitch.f; rw [l1In_eq]; rfl

theorem isDitch_eq (a : Int) : impl_isDitch.f a = some (decide (1 ≤ a ∧ a ≤ 100)) := by
  unfold impl_isDitch.f; rw [within_eq]; rfl

theorem tab : (List.range 101).all (fun n => (laws_FnExactLeastSquarePlank.f 200 (n : Int)) == some true) = true := by decide +kernel

theorem FnExactLeastSquarePlank : laws_FnExactLeastSquarePlank.Pure := by
  intro a _
  by_cases h : 1 ≤ a ∧ a ≤ 100
  · refine ⟨200, ?_⟩
    have := List.all_eq_true.mp tab a.toNat (List.mem_range.mpr (by omega))
    rw [show ((a.toNat : Nat) : Int) = a by omega] at this
    exact eq_of_beq this
  · refine ⟨1, ?_⟩
    unfold laws_FnExactLeastSquarePlank.f spec_LeastSquarePlank.f impl_LeastSquarePlank.f
    rw [cnDitch_eq, isDitch_eq, decide_eq_false h]; rfl

end Go.Proofs.Ytcbjamkhnjpijaa.Pure
