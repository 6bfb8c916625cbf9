/- The pure law FnExactCountWithCycles: for all arguments the printed function of the law answers true. No condition. -/
import Derived.Test.YtcbjamkhnjpijaaPFnExactCountWithCyclesx2
namespace Go.Proofs.Ytcbjamkhnjpijaa.Pure
open Go.RowKit Go.Proofs.Ytcbjamkhnjpijaa.PFnExactCountWithCycles Go.Proofs.YtcbjamkhnjpijaaW.PrintWords Go.Proofs.YtcbjamkhnjpijaaW.PrintLast Go.Proofs.YtcbjamkhnjpijaaW.PrintMore
set_option linter.unusedVariables false
set_option linter.unusedSimpArgs false

theorem l1In_eq (a lo hi : Int) : spec_l1In.f a lo hi = some (decide (lo ≤ a ∧ a ≤ hi)) := by
  unfold spec_l1In.f
  by_cases h : lo ≤ a
  · rw [if_pos h]; simp [h]
  · rw [if_neg h]; simp [h]
theorem within_eq (a lo hi : Int) : impl_within.f a lo hi = some (decide (lo ≤ a ∧ a ≤ hi)) := by
  unfold impl_within.f
  by_cases h : lo ≤ a
  · rw [if_pos h]; simp [h]
  · rw [if_neg h]; simp [h]

theorem ptBoats_eq (a : Int) : spec_ptBoats.f a = some (decide (1 ≤ a ∧ a ≤ 8)) := by
  unfold spec_ptBoats.f; rw [l1In_eq]; rfl
theorem areBoats_eq (a : Int) : impl_areBoats.f a = some (decide (1 ≤ a ∧ a ≤ 8)) := by
  unfold impl_areBoats.f; rw [within_eq]; rfl
theorem impl1 (x : Int) : impl_CountWithCycles.j0 300 1 x false = (if x ≥ 2 then (some (0, true)) else (if 0 ≤ x then (if x < 2 then (some (rd [0, 1] x, true)) else (none)) else (none))) := by kernel_rfl
theorem spec1 (x : Int) : spec_CountWithCycles.j0 300 1 x false = (if x > 1 then (some (0, true)) else (if 0 ≤ x then (if x < 2 then (some (rd [0, 1] x, true)) else (none)) else (none))) := by kernel_rfl
theorem both1 (x : Int) (h : 0 ≤ x) : ∃ r, impl_CountWithCycles.j0 300 1 x false = some r ∧ spec_CountWithCycles.j0 300 1 x false = some r := by
  rw [impl1, spec1]
  by_cases c : x < 2
  · refine ⟨(rd [0, 1] x, true), ?_, ?_⟩
    · rw [if_neg (by omega), if_pos h, if_pos c]
    · rw [if_neg (by omega), if_pos h, if_pos c]
  · exact ⟨(0, true), by rw [if_pos (by omega)], by rw [if_pos (by omega)]⟩
theorem impl2 (x : Int) : impl_CountWithCycles.j0 300 2 x false = (if x ≥ 3 then (some (0, true)) else (if 0 ≤ x then (if x < 3 then (some (rd [0, 1, 1] x, true)) else (none)) else (none))) := by kernel_rfl
theorem spec2 (x : Int) : spec_CountWithCycles.j0 300 2 x false = (if x > 2 then (some (0, true)) else (if 0 ≤ x then (if x < 3 then (some (rd [0, 1, 1] x, true)) else (none)) else (none))) := by kernel_rfl
theorem both2 (x : Int) (h : 0 ≤ x) : ∃ r, impl_CountWithCycles.j0 300 2 x false = some r ∧ spec_CountWithCycles.j0 300 2 x false = some r := by
  rw [impl2, spec2]
  by_cases c : x < 3
  · refine ⟨(rd [0, 1, 1] x, true), ?_, ?_⟩
    · rw [if_neg (by omega), if_pos h, if_pos c]
    · rw [if_neg (by omega), if_pos h, if_pos c]
  · exact ⟨(0, true), by rw [if_pos (by omega)], by rw [if_pos (by omega)]⟩
theorem impl3 (x : Int) : impl_CountWithCycles.j0 300 3 x false = (if x ≥ 4 then (some (0, true)) else (if 0 ≤ x then (if x < 4 then (some (rd [0, 2, 3, 1] x, true)) else (none)) else (none))) := by kernel_rfl
theorem spec3 (x : Int) : spec_CountWithCycles.j0 300 3 x false = (if x > 3 then (some (0, true)) else (if 0 ≤ x then (if x < 4 then (some (rd [0, 2, 3, 1] x, true)) else (none)) else (none))) := by kernel_rfl
theorem both3 (x : Int) (h : 0 ≤ x) : ∃ r, impl_CountWithCycles.j0 300 3 x false = some r ∧ spec_CountWithCycles.j0 300 3 x false = some r := by
  rw [impl3, spec3]
  by_cases c : x < 4
  · refine ⟨(rd [0, 2, 3, 1] x, true), ?_, ?_⟩
    · rw [if_neg (by omega), if_pos h, if_pos c]
    · rw [if_neg (by omega), if_pos h, if_pos c]
  · exact ⟨(0, true), by rw [if_pos (by omega)], by rw [if_pos (by omega)]⟩
theorem impl4 (x : Int) : impl_CountWithCycles.j0 300 4 x false = (if x ≥ 5 then (some (0, true)) else (if 0 ≤ x then (if x < 5 then (some (rd [0, 6, 11, 6, 1] x, true)) else (none)) else (none))) := by kernel_rfl
theorem spec4 (x : Int) : spec_CountWithCycles.j0 300 4 x false = (if x > 4 then (some (0, true)) else (if 0 ≤ x then (if x < 5 then (some (rd [0, 6, 11, 6, 1] x, true)) else (none)) else (none))) := by kernel_rfl
theorem both4 (x : Int) (h : 0 ≤ x) : ∃ r, impl_CountWithCycles.j0 300 4 x false = some r ∧ spec_CountWithCycles.j0 300 4 x false = some r := by
  rw [impl4, spec4]
  by_cases c : x < 5
  · refine ⟨(rd [0, 6, 11, 6, 1] x, true), ?_, ?_⟩
    · rw [if_neg (by omega), if_pos h, if_pos c]
    · rw [if_neg (by omega), if_pos h, if_pos c]
  · exact ⟨(0, true), by rw [if_pos (by omega)], by rw [if_pos (by omega)]⟩
theorem impl5 (x : Int) : impl_CountWithCycles.j0 300 5 x false = (if x ≥ 6 then (some (0, true)) else (if 0 ≤ x then (if x < 6 then (some (rd [0, 24, 50, 35, 10, 1] x, true)) else (none)) else (none))) := by kernel_rfl
theorem spec5 (x : Int) : spec_CountWithCycles.j0 300 5 x false = (if x > 5 then (some (0, true)) else (if 0 ≤ x then (if x < 6 then (some (rd [0, 24, 50, 35, 10, 1] x, true)) else (none)) else (none))) := by kernel_rfl
theorem both5 (x : Int) (h : 0 ≤ x) : ∃ r, impl_CountWithCycles.j0 300 5 x false = some r ∧ spec_CountWithCycles.j0 300 5 x false = some r := by
  rw [impl5, spec5]
  by_cases c : x < 6
  · refine ⟨(rd [0, 24, 50, 35, 10, 1] x, true), ?_, ?_⟩
    · rw [if_neg (by omega), if_pos h, if_pos c]
    · rw [if_neg (by omega), if_pos h, if_pos c]
  · exact ⟨(0, true), by rw [if_pos (by omega)], by rw [if_pos (by omega)]⟩
theorem impl6 (x : Int) : impl_CountWithCycles.j0 300 6 x false = (if x ≥ 7 then (some (0, true)) else (if 0 ≤ x then (if x < 7 then (some (rd [0, 120, 274, 225, 85, 15, 1] x, true)) else (none)) else (none))) := by kernel_rfl
theorem spec6 (x : Int) : spec_CountWithCycles.j0 300 6 x false = (if x > 6 then (some (0, true)) else (if 0 ≤ x then (if x < 7 then (some (rd [0, 120, 274, 225, 85, 15, 1] x, true)) else (none)) else (none))) := by kernel_rfl
theorem both6 (x : Int) (h : 0 ≤ x) : ∃ r, impl_CountWithCycles.j0 300 6 x false = some r ∧ spec_CountWithCycles.j0 300 6 x false = some r := by
  rw [impl6, spec6]
  by_cases c : x < 7
  · refine ⟨(rd [0, 120, 274, 225, 85, 15, 1] x, true), ?_, ?_⟩
    · rw [if_neg (by omega), if_pos h, if_pos c]
    · rw [if_neg (by omega), if_pos h, if_pos c]
  · exact ⟨(0, true), by rw [if_pos (by omega)], by rw [if_pos (by omega)]⟩
theorem impl7 (x : Int) : impl_CountWithCycles.j0 300 7 x false = (if x ≥ 8 then (some (0, true)) else (if 0 ≤ x then (if x < 8 then (some (rd [0, 720, 1764, 1624, 735, 175, 21, 1] x, true)) else (none)) else (none))) := by kernel_rfl
theorem spec7 (x : Int) : spec_CountWithCycles.j0 300 7 x false = (if x > 7 then (some (0, true)) else (if 0 ≤ x then (if x < 8 then (some (rd [0, 720, 1764, 1624, 735, 175, 21, 1] x, true)) else (none)) else (none))) := by kernel_rfl
theorem both7 (x : Int) (h : 0 ≤ x) : ∃ r, impl_CountWithCycles.j0 300 7 x false = some r ∧ spec_CountWithCycles.j0 300 7 x false = some r := by
  rw [impl7, spec7]
  by_cases c : x < 8
  · refine ⟨(rd [0, 720, 1764, 1624, 735, 175, 21, 1] x, true), ?_, ?_⟩
    · rw [if_neg (by omega), if_pos h, if_pos c]
    · rw [if_neg (by omega), if_pos h, if_pos c]
  · exact ⟨(0, true), by rw [if_pos (by omega)], by rw [if_pos (by omega)]⟩
theorem impl8 (x : Int) : impl_CountWithCycles.j0 300 8 x false = (if x ≥ 9 then (some (0, true)) else (if 0 ≤ x then (if x < 9 then (some (rd [0, 5040, 13068, 13132, 6769, 1960, 322, 28, 1] x, true)) else (none)) else (none))) := by kernel_rfl
theorem spec8 (x : Int) : spec_CountWithCycles.j0 300 8 x false = (if x > 8 then (some (0, true)) else (if 0 ≤ x then (if x < 9 then (some (rd [0, 5040, 13068, 13132, 6769, 1960, 322, 28, 1] x, true)) else (none)) else (none))) := by kernel_rfl
theorem both8 (x : Int) (h : 0 ≤ x) : ∃ r, impl_CountWithCycles.j0 300 8 x false = some r ∧ spec_CountWithCycles.j0 300 8 x false = some r := by
  rw [impl8, spec8]
  by_cases c : x < 9
  · refine ⟨(rd [0, 5040, 13068, 13132, 6769, 1960, 322, 28, 1] x, true), ?_, ?_⟩
    · rw [if_neg (by omega), if_pos h, if_pos c]
    · rw [if_neg (by omega), if_pos h, if_pos c]
  · exact ⟨(0, true), by rw [if_pos (by omega)], by rw [if_pos (by omega)]⟩

theorem FnExactCountWithCycles : laws_FnExactCountWithCycles.Pure := by
  intro a x _ _
  have fin : ∀ r, impl_CountWithCycles.f 300 a x = some r → spec_CountWithCycles.f 300 a x = some r → laws_FnExactCountWithCycles.f 300 a x = some true := by
    intro r h h'
    unfold laws_FnExactCountWithCycles.f
    rw [h, h']; simp
  refine ⟨300, ?_⟩
  have hi : impl_CountWithCycles.f 300 a x = impl_CountWithCycles.j0 300 a x (if 1 ≤ a ∧ a ≤ 8 then decide (x < 0) else true) := by
    unfold impl_CountWithCycles.f; rw [areBoats_eq]; by_cases h : 1 ≤ a ∧ a ≤ 8 <;> simp [h]
  have hs : spec_CountWithCycles.f 300 a x = spec_CountWithCycles.j0 300 a x (if 1 ≤ a ∧ a ≤ 8 then decide (x < 0) else true) := by
    unfold spec_CountWithCycles.f; rw [ptBoats_eq]; by_cases h : 1 ≤ a ∧ a ≤ 8 <;> simp [h]
  by_cases h : (1 ≤ a ∧ a ≤ 8) ∧ ¬ x < 0
  · rw [if_pos h.1, decide_eq_false h.2] at hi hs
    have h0 : 0 ≤ x := by omega
    have : ∃ r, impl_CountWithCycles.j0 300 a x false = some r ∧ spec_CountWithCycles.j0 300 a x false = some r := by
      have : a = 1 ∨ a = 2 ∨ a = 3 ∨ a = 4 ∨ a = 5 ∨ a = 6 ∨ a = 7 ∨ a = 8 := by omega
      rcases this with rfl | rfl | rfl | rfl | rfl | rfl | rfl | rfl
      · exact both1 x h0
      · exact both2 x h0
      · exact both3 x h0
      · exact both4 x h0
      · exact both5 x h0
      · exact both6 x h0
      · exact both7 x h0
      · exact both8 x h0
    obtain ⟨r, h1, h2⟩ := this
    exact fin r (hi.trans h1) (hs.trans h2)
  · have e : (if 1 ≤ a ∧ a ≤ 8 then decide (x < 0) else true) = true := by
      by_cases h1 : 1 ≤ a ∧ a ≤ 8
      · rw [if_pos h1, decide_eq_true]
        by_cases h2 : x < 0
        · exact h2
        · exact absurd ⟨h1, h2⟩ h
      · rw [if_neg h1]
    rw [e] at hi hs
    exact fin (0, false) (hi.trans (by simp [impl_CountWithCycles.j0])) (hs.trans (by simp [spec_CountWithCycles.j0]))

end Go.Proofs.Ytcbjamkhnjpijaa.Pure
