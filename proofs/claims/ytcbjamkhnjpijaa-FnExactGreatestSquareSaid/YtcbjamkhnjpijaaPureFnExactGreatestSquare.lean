/- The pure law FnExactGreatestSquare: for all arguments the printed function of the law answers true. No condition. -/
import Derived.Test.YtcbjamkhnjpijaaPFnExactGreatestSquarex1
namespace Go.Proofs.Ytcbjamkhnjpijaa.Pure
open Go.RowKit Go.Proofs.Ytcbjamkhnjpijaa.PFnExactGreatestSquare Go.Proofs.YtcbjamkhnjpijaaW.PrintWords Go.Proofs.YtcbjamkhnjpijaaW.PrintLast Go.Proofs.YtcbjamkhnjpijaaW.PrintMore
set_option linter.unusedVariables false
set_option linter.unusedSimpArgs false

theorem l1In_eq (a lo hi : Int) : spec_l1In.f a lo hi = some (decide (lo ≤ a ∧ a ≤ hi)) := by
  unfold spec_l1In.f
  by_cases h : lo ≤ a
  · rw [if_pos h]; simp [h]
  · rw [if_neg h]; simp [h]
theorem within_eq (a lo hi : Int) : impl_within.f a lo hi = some (decide (lo ≤ a ∧ a ≤ hi)) := by
  unfold impl_within.f
  by_cases h : lo ≤ a
  · rw [if_pos h]; simp [h]
  · rw [if_neg h]; simp [h]

theorem cnPlank_eq (a : Int) : spec_cnPlank.f a = some (decide (1 ≤ a ∧ a ≤ 200)) := by
  unfold spec_cnPlank.f; rw [l1In_eq]; rfl
theorem isPlankLong_eq (a : Int) : impl_isPlankLong.f a = some (decide (1 ≤ a ∧ a ≤ 200)) := by
  unfold impl_isPlankLong.f; rw [within_eq]; rfl

theorem tab : (List.range 201).all (fun n => (laws_FnExactGreatestSquare.f 300 (n : Int)) == some true) = true := by decide +kernel

theorem FnExactGreatestSquare : laws_FnExactGreatestSquare.Pure := by
  intro a _
  by_cases h : 1 ≤ a ∧ a ≤ 200
  · refine ⟨300, ?_⟩
    have := List.all_eq_true.mp tab a.toNat (List.mem_range.mpr (by omega))
    rw [show ((a.toNat : Nat) : Int) = a by omega] at this
    exact eq_of_beq this
  · refine ⟨1, ?_⟩
    unfold laws_FnExactGreatestSquare.f spec_GreatestSquare.f impl_GreatestSquare.f
    rw [cnPlank_eq, isPlankLong_eq, decide_eq_false h]; rfl

end Go.Proofs.Ytcbjamkhnjpijaa.Pure
