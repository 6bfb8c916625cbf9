/- The pure law FnExactStepOut: for all arguments the printed function of the law answers true. No condition. -/
import Derived.Test.YtcbjamkhnjpijaaPFnExactStepOutx1
namespace Go.Proofs.Ytcbjamkhnjpijaa.Pure
open Go.RowKit Go.Proofs.Ytcbjamkhnjpijaa.PFnExactStepOut Go.Proofs.YtcbjamkhnjpijaaW.PrintWords Go.Proofs.YtcbjamkhnjpijaaW.PrintLast Go.Proofs.YtcbjamkhnjpijaaW.PrintMore
set_option linter.unusedVariables false
set_option linter.unusedSimpArgs false

theorem l1In_eq (a lo hi : Int) : spec_l1In.f a lo hi = some (decide (lo ≤ a ∧ a ≤ hi)) := by
  unfold spec_l1In.f
  by_cases h : lo ≤ a
  · rw [if_pos h]; simp [h]
  · rw [if_neg h]; simp [h]
theorem within_eq (a lo hi : Int) : impl_within.f a lo hi = some (decide (lo ≤ a ∧ a ≤ hi)) := by
  unfold impl_within.f
  by_cases h : lo ≤ a
  · rw [if_pos h]; simp [h]
  · rw [if_neg h]; simp [h]

theorem cnPlank_eq (a : Int) : spec_cnPlank.f a = some (decide (1 ≤ a ∧ a ≤ 200)) := by
  unfold spec_cnPlank.f; rw [l1In_eq]; rfl
theorem isPlankLong_eq (a : Int) : impl_isPlankLong.f a = some (decide (1 ≤ a ∧ a ≤ 200)) := by
  unfold impl_isPlankLong.f; rw [within_eq]; rfl

theorem height_eq (n : Int) : ∀ k x, spec_cnHeight.l0 k n x = (impl_root.l0 k n x).map (fun h => (h, wrap64 (n - wrap64 (h * h))))
  | 0, x => by simp only [spec_cnHeight.l0, impl_root.l0]; rfl
  | k + 1, x => by
    simp only [spec_cnHeight.l0, impl_root.l0, height_eq n k]
    split <;> rfl
theorem root_ends (n : Int) (hn : n ≤ 40000) (d : Nat) : ∀ (x : Int), 0 ≤ x → x ≤ 300 → 300 - x ≤ d → ∃ k r, impl_root.l0 k n x = some r := by
  induction d with
  | zero =>
    intro x h0 h1 h2
    obtain rfl : x = 300 := by omega
    exact ⟨1, 300, by simp only [impl_root.l0]; rw [if_neg (by unfold wrap64; omega)]⟩
  | succ d ih =>
    intro x h0 h1 h2
    by_cases c : (wrap64 ((wrap64 (x + 1)) * (wrap64 (x + 1)))) ≤ n
    · have hx : x < 300 := by
        rcases Int.lt_or_eq_of_le h1 with h | rfl
        · exact h
        · exfalso; unfold wrap64 at c; omega
      obtain ⟨k, r, hr⟩ := ih (wrap64 (x + 1)) (by unfold wrap64; omega) (by unfold wrap64; omega) (by unfold wrap64; omega)
      exact ⟨k + 1, r, by simp only [impl_root.l0]; rw [if_pos c]; exact hr⟩
    · exact ⟨1, x, by simp only [impl_root.l0]; rw [if_neg c]⟩
theorem sq_le (a : Int) (h : -200 ≤ a) (h' : a ≤ 200) : 0 ≤ a * a ∧ a * a ≤ 40000 := by
  refine ⟨?_, ?_⟩
  · rcases Int.le_total 0 a with p | p
    · exact Int.mul_nonneg p p
    · have := Int.mul_nonneg (Int.neg_nonneg.mpr p) (Int.neg_nonneg.mpr p); rwa [Int.neg_mul_neg] at this
  · have h1 : (200 - a) * (200 + a) ≥ 0 := Int.mul_nonneg (by omega) (by omega)
    have h2 : (200 - a) * (200 + a) = 40000 - a * a := by
      rw [Int.sub_mul, Int.mul_add, Int.mul_add, Int.mul_comm 200 a]; omega
    omega
theorem square_le (a f : Int) (h : 1 ≤ a ∧ a ≤ 200) (hf : 0 ≤ f ∧ f ≤ a) : wrap64 ((wrap64 (a * a)) - (wrap64 (f * f))) ≤ 40000 := by
  have := sq_le a (by omega) (by omega)
  have := sq_le f (by omega) (by omega)
  unfold wrap64; omega

theorem FnExactStepOut : laws_FnExactStepOut.Pure := by
  intro a f b _ _ _
  by_cases h : (1 ≤ a ∧ a ≤ 200) ∧ (0 ≤ f ∧ f ≤ a) ∧ (0 ≤ b ∧ b ≤ 200)
  · have hw : wrap64 (f + b) = f + b := by unfold wrap64; omega
    by_cases hs : f + b > a
    · refine ⟨1, ?_⟩
      unfold laws_FnExactStepOut.f spec_StepOut.f impl_StepOut.f impl_LeanHeight.f
      rw [cnPlank_eq, isPlankLong_eq, l1In_eq, l1In_eq, within_eq, within_eq, within_eq, decide_eq_true h.1, decide_eq_true h.2.1, decide_eq_true h.2.2, hw, decide_eq_false (show ¬ (0 ≤ f + b ∧ f + b ≤ a) by omega)]
      simp [hs]
    · obtain ⟨k, r, hr⟩ := root_ends _ (square_le a (f + b) h.1 (by omega)) 300 0 (by omega) (by omega) (by omega)
      refine ⟨k, ?_⟩
      unfold laws_FnExactStepOut.f spec_StepOut.f impl_StepOut.f impl_LeanHeight.f spec_cnHeight.f impl_root.f
      rw [cnPlank_eq, isPlankLong_eq, l1In_eq, l1In_eq, within_eq, within_eq, within_eq, decide_eq_true h.1, decide_eq_true h.2.1, decide_eq_true h.2.2, hw, height_eq, hr, decide_eq_true (show (0 ≤ f + b ∧ f + b ≤ a) by omega)]
      simp [hs]
  · refine ⟨1, ?_⟩
    unfold laws_FnExactStepOut.f spec_StepOut.f impl_StepOut.f
    rw [cnPlank_eq, isPlankLong_eq, l1In_eq, within_eq, l1In_eq, within_eq]
    cases ha : decide (1 ≤ a ∧ a ≤ 200) <;> cases hf : decide (0 ≤ f ∧ f ≤ a) <;> cases hb : decide (0 ≤ b ∧ b ≤ 200) <;> simp
    simp only [decide_eq_true_eq] at ha hf hb
    exact absurd ⟨ha, hf, hb⟩ h

end Go.Proofs.Ytcbjamkhnjpijaa.Pure
