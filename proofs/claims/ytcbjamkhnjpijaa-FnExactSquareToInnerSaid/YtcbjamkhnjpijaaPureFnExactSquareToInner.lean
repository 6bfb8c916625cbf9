/- The pure law FnExactSquareToInner: for all arguments the printed function of the law answers true. No condition. -/
import Derived.Test.YtcbjamkhnjpijaaPFnExactSquareToInnerx1
namespace Go.Proofs.Ytcbjamkhnjpijaa.Pure
open Go.RowKit Go.Proofs.Ytcbjamkhnjpijaa.PFnExactSquareToInner Go.Proofs.YtcbjamkhnjpijaaW.PrintWords Go.Proofs.YtcbjamkhnjpijaaW.PrintLast Go.Proofs.YtcbjamkhnjpijaaW.PrintMore
set_option linter.unusedVariables false
set_option linter.unusedSimpArgs false

theorem l1In_eq (a lo hi : Int) : spec_l1In.f a lo hi = some (decide (lo ≤ a ∧ a ≤ hi)) := by
  unfold spec_l1In.f
  by_cases h : lo ≤ a
  · rw [if_pos h]; simp [h]
  · rw [if_neg h]; simp [h]
theorem within_eq (a lo hi : Int) : impl_within.f a lo hi = some (decide (lo ≤ a ∧ a ≤ hi)) := by
  unfold impl_within.f
  by_cases h : lo ≤ a
  · rw [if_pos h]; simp [h]
  · rw [if_neg h]; simp [h]

theorem isDitch_eq (a : Int) : impl_isDitch.f a = some (decide (1 ≤ a ∧ a ≤ 100)) := by
  unfold impl_isDitch.f; rw [within_eq]; rfl

theorem cnGood_eq (a b : Int) : spec_cnGood.f a b = some (decide (1 ≤ a ∧ a ≤ 100) && decide (1 ≤ b ∧ b ≤ 100)) := by
  unfold spec_cnGood.f; rw [l1In_eq, l1In_eq]; by_cases h : 1 ≤ a ∧ a ≤ 100 <;> simp [h]
theorem isCorner_eq (a b : Int) : impl_IsCorner.f a b = some (decide (1 ≤ a ∧ a ≤ 100) && decide (1 ≤ b ∧ b ≤ 100)) := by
  unfold impl_IsCorner.f; rw [isDitch_eq, isDitch_eq]; by_cases h : 1 ≤ a ∧ a ≤ 100 <;> simp [h]

theorem FnExactSquareToInner (a b : Int) : laws_FnExactSquareToInner.f a b = some true := by
  unfold laws_FnExactSquareToInner.f laws_toCorner.f
  simp only [Option.bind_some]
  unfold spec_SquareToInner.f impl_SquareToInner.f
  rw [cnGood_eq, isCorner_eq]
  cases (decide (1 ≤ a ∧ a ≤ 100) && decide (1 ≤ b ∧ b ≤ 100)) <;> simp

end Go.Proofs.Ytcbjamkhnjpijaa.Pure
