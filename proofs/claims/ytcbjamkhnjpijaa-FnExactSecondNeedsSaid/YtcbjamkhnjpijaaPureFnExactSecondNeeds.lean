/- The pure law FnExactSecondNeeds: for all arguments the printed function of the law answers true. No condition. -/
import Derived.Test.YtcbjamkhnjpijaaPFnExactSecondNeedsx1
namespace Go.Proofs.Ytcbjamkhnjpijaa.Pure
open Go.RowKit Go.Proofs.Ytcbjamkhnjpijaa.PFnExactSecondNeeds Go.Proofs.YtcbjamkhnjpijaaW.PrintWords Go.Proofs.YtcbjamkhnjpijaaW.PrintLast Go.Proofs.YtcbjamkhnjpijaaW.PrintMore
set_option linter.unusedVariables false
set_option linter.unusedSimpArgs false

theorem l1In_eq (a lo hi : Int) : spec_l1In.f a lo hi = some (decide (lo ≤ a ∧ a ≤ hi)) := by
  unfold spec_l1In.f
  by_cases h : lo ≤ a
  · rw [if_pos h]; simp [h]
  · rw [if_neg h]; simp [h]
theorem within_eq (a lo hi : Int) : impl_within.f a lo hi = some (decide (lo ≤ a ∧ a ≤ hi)) := by
  unfold impl_within.f
  by_cases h : lo ≤ a
  · rw [if_pos h]; simp [h]
  · rw [if_neg h]; simp [h]

theorem cnPlank_eq (a : Int) : spec_cnPlank.f a = some (decide (1 ≤ a ∧ a ≤ 200)) := by
  unfold spec_cnPlank.f; rw [l1In_eq]; rfl
theorem isPlankLong_eq (a : Int) : impl_isPlankLong.f a = some (decide (1 ≤ a ∧ a ≤ 200)) := by
  unfold impl_isPlankLong.f; rw [within_eq]; rfl

theorem isDitch_eq (a : Int) : impl_isDitch.f a = some (decide (1 ≤ a ∧ a ≤ 100)) := by
  unfold impl_isDitch.f; rw [within_eq]; rfl

theorem cnGood_eq (a b : Int) : spec_cnGood.f a b = some (decide (1 ≤ a ∧ a ≤ 100) && decide (1 ≤ b ∧ b ≤ 100)) := by
  unfold spec_cnGood.f; rw [l1In_eq, l1In_eq]; by_cases h : 1 ≤ a ∧ a ≤ 100 <;> simp [h]
theorem isCorner_eq (a b : Int) : impl_IsCorner.f a b = some (decide (1 ≤ a ∧ a ≤ 100) && decide (1 ≤ b ∧ b ≤ 100)) := by
  unfold impl_IsCorner.f; rw [isDitch_eq, isDitch_eq]; by_cases h : 1 ≤ a ∧ a ≤ 100 <;> simp [h]

theorem needs_eq (a b c d : Int) : spec_cnNeeds.f a b c d = impl_Corner_needs.f a b c d := by
  unfold spec_cnNeeds.f impl_Corner_needs.f; rfl
theorem needs_some (a b c d : Int) : ∃ r, impl_Corner_needs.f a b c d = some r := by
  unfold impl_Corner_needs.f; exact ⟨_, rfl⟩
theorem FnExactSecondNeeds (a b c d : Int) : laws_FnExactSecondNeeds.f a b c d = some true := by
  unfold laws_FnExactSecondNeeds.f laws_toCorner.f
  simp only [Option.bind_some]
  unfold spec_SecondNeeds.f impl_SecondNeeds.f
  rw [cnGood_eq, isCorner_eq, cnPlank_eq, isPlankLong_eq, cnPlank_eq, isPlankLong_eq, needs_eq]
  obtain ⟨r, hr⟩ := needs_some a b c d
  rw [hr]
  cases (decide (1 ≤ a ∧ a ≤ 100) && decide (1 ≤ b ∧ b ≤ 100)) <;> cases decide (1 ≤ c ∧ c ≤ 200) <;> cases decide (1 ≤ d ∧ d ≤ 200) <;> simp

end Go.Proofs.Ytcbjamkhnjpijaa.Pure
