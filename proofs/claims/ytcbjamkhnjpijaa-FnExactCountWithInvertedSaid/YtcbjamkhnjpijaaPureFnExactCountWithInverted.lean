/- The pure law FnExactCountWithInverted: for all arguments the printed function of the law answers true. No condition. -/
import Derived.Test.YtcbjamkhnjpijaaPFnExactCountWithInvertedx2
namespace Go.Proofs.Ytcbjamkhnjpijaa.Pure
open Go.RowKit Go.Proofs.Ytcbjamkhnjpijaa.PFnExactCountWithInverted Go.Proofs.YtcbjamkhnjpijaaW.PrintWords Go.Proofs.YtcbjamkhnjpijaaW.PrintLast Go.Proofs.YtcbjamkhnjpijaaW.PrintMore
set_option linter.unusedVariables false
set_option linter.unusedSimpArgs false

theorem l1In_eq (a lo hi : Int) : spec_l1In.f a lo hi = some (decide (lo ≤ a ∧ a ≤ hi)) := by
  unfold spec_l1In.f
  by_cases h : lo ≤ a
  · rw [if_pos h]; simp [h]
  · rw [if_neg h]; simp [h]
theorem within_eq (a lo hi : Int) : impl_within.f a lo hi = some (decide (lo ≤ a ∧ a ≤ hi)) := by
  unfold impl_within.f
  by_cases h : lo ≤ a
  · rw [if_pos h]; simp [h]
  · rw [if_neg h]; simp [h]

theorem ptBoats_eq (a : Int) : spec_ptBoats.f a = some (decide (1 ≤ a ∧ a ≤ 8)) := by
  unfold spec_ptBoats.f; rw [l1In_eq]; rfl
theorem areBoats_eq (a : Int) : impl_areBoats.f a = some (decide (1 ≤ a ∧ a ≤ 8)) := by
  unfold impl_areBoats.f; rw [within_eq]; rfl
theorem impl1 (x : Int) : impl_CountWithInverted.j0 600 1 x false = (if x ≥ 1 then (some (0, true)) else (if 0 ≤ x then (if x < 1 then (some (rd [1] x, true)) else (none)) else (none))) := by kernel_rfl
theorem spec1 (x : Int) : spec_CountWithInverted.j0 600 1 x false = (if x ≥ 1 then (some (0, true)) else (if 0 ≤ x then (if x < 1 then (some (rd [1] x, true)) else (none)) else (none))) := by kernel_rfl
theorem both1 (x : Int) (h : 0 ≤ x) : ∃ r, impl_CountWithInverted.j0 600 1 x false = some r ∧ spec_CountWithInverted.j0 600 1 x false = some r := by
  rw [impl1, spec1]
  by_cases c : x < 1
  · refine ⟨(rd [1] x, true), ?_, ?_⟩
    · rw [if_neg (by omega), if_pos h, if_pos c]
    · rw [if_neg (by omega), if_pos h, if_pos c]
  · exact ⟨(0, true), by rw [if_pos (by omega)], by rw [if_pos (by omega)]⟩
theorem impl2 (x : Int) : impl_CountWithInverted.j0 600 2 x false = (if x ≥ 2 then (some (0, true)) else (if 0 ≤ x then (if x < 2 then (some (rd [1, 1] x, true)) else (none)) else (none))) := by kernel_rfl
theorem spec2 (x : Int) : spec_CountWithInverted.j0 600 2 x false = (if x ≥ 2 then (some (0, true)) else (if 0 ≤ x then (if x < 2 then (some (rd [1, 1] x, true)) else (none)) else (none))) := by kernel_rfl
theorem both2 (x : Int) (h : 0 ≤ x) : ∃ r, impl_CountWithInverted.j0 600 2 x false = some r ∧ spec_CountWithInverted.j0 600 2 x false = some r := by
  rw [impl2, spec2]
  by_cases c : x < 2
  · refine ⟨(rd [1, 1] x, true), ?_, ?_⟩
    · rw [if_neg (by omega), if_pos h, if_pos c]
    · rw [if_neg (by omega), if_pos h, if_pos c]
  · exact ⟨(0, true), by rw [if_pos (by omega)], by rw [if_pos (by omega)]⟩
theorem impl3 (x : Int) : impl_CountWithInverted.j0 600 3 x false = (if x ≥ 4 then (some (0, true)) else (if 0 ≤ x then (if x < 4 then (some (rd [1, 2, 2, 1] x, true)) else (none)) else (none))) := by kernel_rfl
theorem spec3 (x : Int) : spec_CountWithInverted.j0 600 3 x false = (if x ≥ 4 then (some (0, true)) else (if 0 ≤ x then (if x < 4 then (some (rd [1, 2, 2, 1] x, true)) else (none)) else (none))) := by kernel_rfl
theorem both3 (x : Int) (h : 0 ≤ x) : ∃ r, impl_CountWithInverted.j0 600 3 x false = some r ∧ spec_CountWithInverted.j0 600 3 x false = some r := by
  rw [impl3, spec3]
  by_cases c : x < 4
  · refine ⟨(rd [1, 2, 2, 1] x, true), ?_, ?_⟩
    · rw [if_neg (by omega), if_pos h, if_pos c]
    · rw [if_neg (by omega), if_pos h, if_pos c]
  · exact ⟨(0, true), by rw [if_pos (by omega)], by rw [if_pos (by omega)]⟩
theorem impl4 (x : Int) : impl_CountWithInverted.j0 600 4 x false = (if x ≥ 7 then (some (0, true)) else (if 0 ≤ x then (if x < 7 then (some (rd [1, 3, 5, 6, 5, 3, 1] x, true)) else (none)) else (none))) := by kernel_rfl
theorem spec4 (x : Int) : spec_CountWithInverted.j0 600 4 x false = (if x ≥ 7 then (some (0, true)) else (if 0 ≤ x then (if x < 7 then (some (rd [1, 3, 5, 6, 5, 3, 1] x, true)) else (none)) else (none))) := by kernel_rfl
theorem both4 (x : Int) (h : 0 ≤ x) : ∃ r, impl_CountWithInverted.j0 600 4 x false = some r ∧ spec_CountWithInverted.j0 600 4 x false = some r := by
  rw [impl4, spec4]
  by_cases c : x < 7
  · refine ⟨(rd [1, 3, 5, 6, 5, 3, 1] x, true), ?_, ?_⟩
    · rw [if_neg (by omega), if_pos h, if_pos c]
    · rw [if_neg (by omega), if_pos h, if_pos c]
  · exact ⟨(0, true), by rw [if_pos (by omega)], by rw [if_pos (by omega)]⟩
theorem impl5 (x : Int) : impl_CountWithInverted.j0 600 5 x false = (if x ≥ 11 then (some (0, true)) else (if 0 ≤ x then (if x < 11 then (some (rd [1, 4, 9, 15, 20, 22, 20, 15, 9, 4, 1] x, true)) else (none)) else (none))) := by kernel_rfl
theorem spec5 (x : Int) : spec_CountWithInverted.j0 600 5 x false = (if x ≥ 11 then (some (0, true)) else (if 0 ≤ x then (if x < 11 then (some (rd [1, 4, 9, 15, 20, 22, 20, 15, 9, 4, 1] x, true)) else (none)) else (none))) := by kernel_rfl
theorem both5 (x : Int) (h : 0 ≤ x) : ∃ r, impl_CountWithInverted.j0 600 5 x false = some r ∧ spec_CountWithInverted.j0 600 5 x false = some r := by
  rw [impl5, spec5]
  by_cases c : x < 11
  · refine ⟨(rd [1, 4, 9, 15, 20, 22, 20, 15, 9, 4, 1] x, true), ?_, ?_⟩
    · rw [if_neg (by omega), if_pos h, if_pos c]
    · rw [if_neg (by omega), if_pos h, if_pos c]
  · exact ⟨(0, true), by rw [if_pos (by omega)], by rw [if_pos (by omega)]⟩
theorem impl6 (x : Int) : impl_CountWithInverted.j0 600 6 x false = (if x ≥ 16 then (some (0, true)) else (if 0 ≤ x then (if x < 16 then (some (rd [1, 5, 14, 29, 49, 71, 90, 101, 101, 90, 71, 49, 29, 14, 5, 1] x, true)) else (none)) else (none))) := by kernel_rfl
theorem spec6 (x : Int) : spec_CountWithInverted.j0 600 6 x false = (if x ≥ 16 then (some (0, true)) else (if 0 ≤ x then (if x < 16 then (some (rd [1, 5, 14, 29, 49, 71, 90, 101, 101, 90, 71, 49, 29, 14, 5, 1] x, true)) else (none)) else (none))) := by kernel_rfl
theorem both6 (x : Int) (h : 0 ≤ x) : ∃ r, impl_CountWithInverted.j0 600 6 x false = some r ∧ spec_CountWithInverted.j0 600 6 x false = some r := by
  rw [impl6, spec6]
  by_cases c : x < 16
  · refine ⟨(rd [1, 5, 14, 29, 49, 71, 90, 101, 101, 90, 71, 49, 29, 14, 5, 1] x, true), ?_, ?_⟩
    · rw [if_neg (by omega), if_pos h, if_pos c]
    · rw [if_neg (by omega), if_pos h, if_pos c]
  · exact ⟨(0, true), by rw [if_pos (by omega)], by rw [if_pos (by omega)]⟩
theorem impl7 (x : Int) : impl_CountWithInverted.j0 600 7 x false = (if x ≥ 22 then (some (0, true)) else (if 0 ≤ x then (if x < 22 then (some (rd [1, 6, 20, 49, 98, 169, 259, 359, 455, 531, 573, 573, 531, 455, 359, 259, 169, 98, 49, 20, 6, 1] x, true)) else (none)) else (none))) := by kernel_rfl
theorem spec7 (x : Int) : spec_CountWithInverted.j0 600 7 x false = (if x ≥ 22 then (some (0, true)) else (if 0 ≤ x then (if x < 22 then (some (rd [1, 6, 20, 49, 98, 169, 259, 359, 455, 531, 573, 573, 531, 455, 359, 259, 169, 98, 49, 20, 6, 1] x, true)) else (none)) else (none))) := by kernel_rfl
theorem both7 (x : Int) (h : 0 ≤ x) : ∃ r, impl_CountWithInverted.j0 600 7 x false = some r ∧ spec_CountWithInverted.j0 600 7 x false = some r := by
  rw [impl7, spec7]
  by_cases c : x < 22
  · refine ⟨(rd [1, 6, 20, 49, 98, 169, 259, 359, 455, 531, 573, 573, 531, 455, 359, 259, 169, 98, 49, 20, 6, 1] x, true), ?_, ?_⟩
    · rw [if_neg (by omega), if_pos h, if_pos c]
    · rw [if_neg (by omega), if_pos h, if_pos c]
  · exact ⟨(0, true), by rw [if_pos (by omega)], by rw [if_pos (by omega)]⟩
theorem impl8 (x : Int) : impl_CountWithInverted.j0 600 8 x false = (if x ≥ 29 then (some (0, true)) else (if 0 ≤ x then (if x < 29 then (some (rd [1, 7, 27, 76, 174, 343, 602, 961, 1415, 1940, 2493, 3017, 3450, 3736, 3836, 3736, 3450, 3017, 2493, 1940, 1415, 961, 602, 343, 174, 76, 27, 7, 1] x, true)) else (none)) else (none))) := by kernel_rfl
theorem spec8 (x : Int) : spec_CountWithInverted.j0 600 8 x false = (if x ≥ 29 then (some (0, true)) else (if 0 ≤ x then (if x < 29 then (some (rd [1, 7, 27, 76, 174, 343, 602, 961, 1415, 1940, 2493, 3017, 3450, 3736, 3836, 3736, 3450, 3017, 2493, 1940, 1415, 961, 602, 343, 174, 76, 27, 7, 1] x, true)) else (none)) else (none))) := by kernel_rfl
theorem both8 (x : Int) (h : 0 ≤ x) : ∃ r, impl_CountWithInverted.j0 600 8 x false = some r ∧ spec_CountWithInverted.j0 600 8 x false = some r := by
  rw [impl8, spec8]
  by_cases c : x < 29
  · refine ⟨(rd [1, 7, 27, 76, 174, 343, 602, 961, 1415, 1940, 2493, 3017, 3450, 3736, 3836, 3736, 3450, 3017, 2493, 1940, 1415, 961, 602, 343, 174, 76, 27, 7, 1] x, true), ?_, ?_⟩
    · rw [if_neg (by omega), if_pos h, if_pos c]
    · rw [if_neg (by omega), if_pos h, if_pos c]
  · exact ⟨(0, true), by rw [if_pos (by omega)], by rw [if_pos (by omega)]⟩

theorem FnExactCountWithInverted : laws_FnExactCountWithInverted.Pure := by
  intro a x _ _
  have fin : ∀ r, impl_CountWithInverted.f 600 a x = some r → spec_CountWithInverted.f 600 a x = some r → laws_FnExactCountWithInverted.f 600 a x = some true := by
    intro r h h'
    unfold laws_FnExactCountWithInverted.f
    rw [h, h']; simp
  refine ⟨600, ?_⟩
  have hi : impl_CountWithInverted.f 600 a x = impl_CountWithInverted.j0 600 a x (if 1 ≤ a ∧ a ≤ 8 then decide (x < 0) else true) := by
    unfold impl_CountWithInverted.f; rw [areBoats_eq]; by_cases h : 1 ≤ a ∧ a ≤ 8 <;> simp [h]
  have hs : spec_CountWithInverted.f 600 a x = spec_CountWithInverted.j0 600 a x (if 1 ≤ a ∧ a ≤ 8 then decide (x < 0) else true) := by
    unfold spec_CountWithInverted.f; rw [ptBoats_eq]; by_cases h : 1 ≤ a ∧ a ≤ 8 <;> simp [h]
  by_cases h : (1 ≤ a ∧ a ≤ 8) ∧ ¬ x < 0
  · rw [if_pos h.1, decide_eq_false h.2] at hi hs
    have h0 : 0 ≤ x := by omega
    have : ∃ r, impl_CountWithInverted.j0 600 a x false = some r ∧ spec_CountWithInverted.j0 600 a x false = some r := by
      have : a = 1 ∨ a = 2 ∨ a = 3 ∨ a = 4 ∨ a = 5 ∨ a = 6 ∨ a = 7 ∨ a = 8 := by omega
      rcases this with rfl | rfl | rfl | rfl | rfl | rfl | rfl | rfl
      · exact both1 x h0
      · exact both2 x h0
      · exact both3 x h0
      · exact both4 x h0
      · exact both5 x h0
      · exact both6 x h0
      · exact both7 x h0
      · exact both8 x h0
    obtain ⟨r, h1, h2⟩ := this
    exact fin r (hi.trans h1) (hs.trans h2)
  · have e : (if 1 ≤ a ∧ a ≤ 8 then decide (x < 0) else true) = true := by
      by_cases h1 : 1 ≤ a ∧ a ≤ 8
      · rw [if_pos h1, decide_eq_true]
        by_cases h2 : x < 0
        · exact h2
        · exact absurd ⟨h1, h2⟩ h
      · rw [if_neg h1]
    rw [e] at hi hs
    exact fin (0, false) (hi.trans (by simp [impl_CountWithInverted.j0])) (hs.trans (by simp [spec_CountWithInverted.j0]))

end Go.Proofs.Ytcbjamkhnjpijaa.Pure
