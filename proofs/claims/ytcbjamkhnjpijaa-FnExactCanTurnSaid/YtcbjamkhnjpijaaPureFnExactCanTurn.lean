/- The pure law FnExactCanTurn: for all arguments the printed function of the law answers true. No condition. -/
import Derived.Test.YtcbjamkhnjpijaaPFnExactCanTurnx1
namespace Go.Proofs.Ytcbjamkhnjpijaa.Pure
open Go.RowKit Go.Proofs.Ytcbjamkhnjpijaa.PFnExactCanTurn Go.Proofs.YtcbjamkhnjpijaaW.PrintWords Go.Proofs.YtcbjamkhnjpijaaW.PrintLast Go.Proofs.YtcbjamkhnjpijaaW.PrintMore
set_option linter.unusedVariables false
set_option linter.unusedSimpArgs false

theorem l1In_eq (a lo hi : Int) : spec_l1In.f a lo hi = some (decide (lo ≤ a ∧ a ≤ hi)) := by
  unfold spec_l1In.f
  by_cases h : lo ≤ a
  · rw [if_pos h]; simp [h]
  · rw [if_neg h]; simp [h]
theorem within_eq (a lo hi : Int) : impl_within.f a lo hi = some (decide (lo ≤ a ∧ a ≤ hi)) := by
  unfold impl_within.f
  by_cases h : lo ≤ a
  · rw [if_pos h]; simp [h]
  · rw [if_neg h]; simp [h]

theorem cnPlank_eq (a : Int) : spec_cnPlank.f a = some (decide (1 ≤ a ∧ a ≤ 200)) := by
  unfold spec_cnPlank.f; rw [l1In_eq]; rfl
theorem isPlankLong_eq (a : Int) : impl_isPlankLong.f a = some (decide (1 ≤ a ∧ a ≤ 200)) := by
  unfold impl_isPlankLong.f; rw [within_eq]; rfl

theorem cnDitch_eq (a : Int) : spec_cnDitch.f a = some (decide (1 ≤ a ∧ a ≤ 100)) := by
  unfold spec_cnDitch.f; rw [l1In_eq]; rfl

theorem isDitch_eq (a : Int) : impl_isDitch.f a = some (decide (1 ≤ a ∧ a ≤ 100)) := by
  unfold impl_isDitch.f; rw [within_eq]; rfl

theorem l0_eq : ∀ k x0 x1 x2 x8, spec_CanTurn.l0 k x0 x1 x2 x8 = impl_CanTurn.l0 k x0 x1 x2 x8
  | 0, _, _, _, _ => by simp only [spec_CanTurn.l0, impl_CanTurn.l0]
  | k + 1, x0, x1, x2, x8 => by simp only [spec_CanTurn.l0, impl_CanTurn.l0, l0_eq k]
theorem j0_eq (k : Nat) (x0 x1 x2 : Int) (b : Bool) : spec_CanTurn.j0 k x0 x1 x2 b = impl_CanTurn.j0 k x0 x1 x2 b := by
  cases k <;> simp only [spec_CanTurn.j0, impl_CanTurn.j0, l0_eq]
theorem l0_ends (x0 x1 x2 : Int) (h2 : x2 ≤ 200) (d : Nat) : ∀ (x8 : Int), 0 ≤ x8 → 200 - x8 ≤ d → ∃ k r, impl_CanTurn.l0 k x0 x1 x2 x8 = some r := by
  induction d with
  | zero =>
    intro x8 h h1
    exact ⟨1, (true, true), by simp only [impl_CanTurn.l0]; rw [if_neg (by omega)]⟩
  | succ d ih =>
    intro x8 h h1
    by_cases c : x8 < x2
    · obtain ⟨k, r, hr⟩ := ih (wrap64 (x8 + 1)) (by unfold wrap64; omega) (by unfold wrap64; omega)
      refine ⟨k + 1, ?_⟩
      simp only [impl_CanTurn.l0]; rw [if_pos c]
      split
      · exact ⟨_, rfl⟩
      · exact ⟨r, hr⟩
    · refine ⟨1, (true, true), ?_⟩
      simp only [impl_CanTurn.l0]; rw [if_neg c]
theorem law_of (k : Nat) (a b c : Int) (r : Bool × Bool) (h : impl_CanTurn.f k a b c = some r) (h' : spec_CanTurn.f k a b c = some r) : laws_FnExactCanTurn.f k a b c = some true := by
  unfold laws_FnExactCanTurn.f
  rw [h, h']; simp

theorem FnExactCanTurn : laws_FnExactCanTurn.Pure := by
  intro a b c _ _ _
  have main : ∃ k r, impl_CanTurn.f k a b c = some r ∧ spec_CanTurn.f k a b c = some r := by
    unfold impl_CanTurn.f spec_CanTurn.f
    rw [cnDitch_eq, isDitch_eq, cnDitch_eq, isDitch_eq, cnPlank_eq, isPlankLong_eq]
    by_cases h : (1 ≤ a ∧ a ≤ 100) ∧ (1 ≤ b ∧ b ≤ 100) ∧ (1 ≤ c ∧ c ≤ 200)
    · obtain ⟨k, r, hr⟩ := l0_ends a b c h.2.2.2 300 (wrap64 (a + 1)) (by unfold wrap64; omega) (by unfold wrap64; omega)
      refine ⟨k + 1, r, ?_, ?_⟩
      · rw [decide_eq_true h.1, decide_eq_true h.2.1, decide_eq_true h.2.2]; simpa [impl_CanTurn.j0] using hr
      · rw [decide_eq_true h.1, decide_eq_true h.2.1, decide_eq_true h.2.2, ← l0_eq] at *; simpa [spec_CanTurn.j0] using hr
    · refine ⟨1, (false, false), ?_, ?_⟩
      · cases ha : decide (1 ≤ a ∧ a ≤ 100) <;> cases hb : decide (1 ≤ b ∧ b ≤ 100) <;> cases hc : decide (1 ≤ c ∧ c ≤ 200) <;> simp [impl_CanTurn.j0]
        simp only [decide_eq_true_eq] at ha hb hc
        exact absurd ⟨ha, hb, hc⟩ h
      · cases ha : decide (1 ≤ a ∧ a ≤ 100) <;> cases hb : decide (1 ≤ b ∧ b ≤ 100) <;> cases hc : decide (1 ≤ c ∧ c ≤ 200) <;> simp [spec_CanTurn.j0]
        simp only [decide_eq_true_eq] at ha hb hc
        exact absurd ⟨ha, hb, hc⟩ h
  obtain ⟨k, r, h, h'⟩ := main
  exact ⟨k, law_of k a b c r h h'⟩

end Go.Proofs.Ytcbjamkhnjpijaa.Pure
