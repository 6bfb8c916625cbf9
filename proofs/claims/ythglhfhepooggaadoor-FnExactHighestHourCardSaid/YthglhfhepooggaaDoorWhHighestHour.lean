/- laws.FnExactHighestHour answers true for all arguments; nothing that lay before is turned. No condition. -/
import Derived.Test.YthglhfhepooggaaDoorLwHighestHour
import Derived.Test.YthglhfhepooggaaDoorWkHighestHour
namespace Go.Proofs.YthglhfhepooggaaDoor.LwHighestHour
set_option linter.unusedVariables false
set_option linter.unusedSimpArgs false
open Go.RowKit Go.Proofs.YthglhfhepooggaaDoorW.PrintWords Go.Proofs.YthglhfhepooggaaDoorW.PrintLast Go.Proofs.YthglhfhepooggaaDoorW.PrintMore PFnExactHighestHour Sh
open WkHighestHour
theorem l1In_eq (a lo hi : Int) : spec_l1In.f a lo hi = some (decide (lo ≤ a ∧ a ≤ hi)) := by
  unfold spec_l1In.f
  by_cases h : lo ≤ a
  · rw [if_pos h]; simp [h]
  · rw [if_neg h]; simp [h]
theorem tdText_l0 (s : ByteArray) (hs : s.size ≤ 9223372036854775806) (d : Nat) : ∀ n, n + d = s.size → ∀ k, d < k → spec_tdText.l0 k s (n : Int) = some ((s.data.toList.drop n).all isDig) := by
  induction d with
  | zero =>
    intro n hn k hk
    obtain ⟨k, rfl⟩ : ∃ m, k = m + 1 := ⟨k - 1, by omega⟩
    simp only [spec_tdText.l0]
    rw [if_neg (by omega), List.drop_of_length_le (by rw [size_list]; omega)]; rfl
  | succ d ih =>
    intro n hn k hk
    obtain ⟨k, rfl⟩ : ∃ m, k = m + 1 := ⟨k - 1, by omega⟩
    have hlt : n < s.data.toList.length := by rw [size_list]; omega
    simp only [spec_tdText.l0]
    rw [if_pos (show (n : Int) < (s.size : Int) by omega), if_pos (by omega), bt_list s n (by omega), List.drop_eq_getElem_cons hlt, List.all_cons]
    have hi := isDig_iff (s.data.toList[n]'hlt)
    have hw : wrap64 ((n : Int) + 1) = ((n + 1 : Nat) : Int) := by unfold wrap64; omega
    cases hd : isDig (s.data.toList[n]'hlt) with
    | true =>
      have := hi.mp hd
      rw [if_neg this.1, if_neg this.2, hw, ih (n + 1) (by omega) k (by omega)]; simp
    | false =>
      by_cases c : ((s.data.toList[n]'hlt).toNat : Int) < 48
      · rw [if_pos c]; simp
      · by_cases c' : ((s.data.toList[n]'hlt).toNat : Int) > 57
        · rw [if_neg c, if_pos c']; simp
        · have := hi.mpr ⟨c, c'⟩; rw [hd] at this; cases this
theorem tdText_eq (s : ByteArray) (hs : s.size ≤ 9223372036854775806) (m : Int) (k : Nat) (hk : s.size < k) : spec_tdText.f k s m = some (decide (1 ≤ (s.size : Int) ∧ (s.size : Int) ≤ m) && digs s) := by
  unfold spec_tdText.f
  rw [l1In_eq]
  by_cases h : 1 ≤ (s.size : Int) ∧ (s.size : Int) ≤ m
  · rw [decide_eq_true h]
    have := tdText_l0 s hs s.size 0 (by omega) k hk
    simp only [Option.bind_some, if_true, Bool.true_and]
    simpa [digs] using this
  · rw [decide_eq_false h]; simp

theorem bt_at (s : ByteArray) (n : Nat) (h : n < s.size) : bt s (n : Int) = (at_ s.data.toList n : Int) := by
  rw [bt_list s n h]
  unfold at_
  rw [List.getD_eq_getElem?_getD, List.getElem?_eq_getElem (by rw [size_list]; exact h)]
  rfl
theorem high_l0 (s : ByteArray) (hs : s.size ≤ 12) (hd : digs s = true) (d : Nat) : ∀ (i k : Nat), i + 1 + d = s.size → d < k → spec_HighestHour.l0 k s (best s.data.toList i : Nat) ((i + 1 : Nat) : Int) = some ((at_ s.data.toList (best s.data.toList (s.size - 1)) : Int) - 48, (best s.data.toList (s.size - 1) : Int), true) := by
  induction d with
  | zero =>
    intro i k hi hk
    obtain ⟨k, rfl⟩ : ∃ m, k = m + 1 := ⟨k - 1, by omega⟩
    obtain rfl : i = s.size - 1 := by omega
    have hb := best_le s.data.toList (s.size - 1)
    have hdg := dig_at hd (best s.data.toList (s.size - 1)) (by omega)
    simp only [spec_HighestHour.l0]
    rw [if_neg (by omega), if_pos (by omega), if_pos (by omega), bt_at s _ (by omega)]
    congr 2
    omega
  | succ d ih =>
    intro i k hi hk
    obtain ⟨k, rfl⟩ : ∃ m, k = m + 1 := ⟨k - 1, by omega⟩
    have hb := best_le s.data.toList i
    have ih2 := ih (i + 1) k (by omega) (by omega)
    simp only [best] at ih2
    simp only [spec_HighestHour.l0]
    rw [if_pos (by omega), if_pos (by omega), if_pos (by omega), if_pos (by omega), bt_at s _ (by omega), bt_at s _ (by omega), show wrap64 (((i + 1 : Nat) : Int) + 1) = ((i + 1 + 1 : Nat) : Int) by unfold wrap64; omega]
    by_cases hc : at_ s.data.toList (best s.data.toList i) < at_ s.data.toList (i + 1)
    · rw [if_pos (by omega)]
      rw [if_pos hc] at ih2
      exact ih2
    · rw [if_neg (by omega)]
      rw [if_neg hc] at ih2
      exact ih2
theorem spec_eq (s : ByteArray) (hs : s.size ≤ 9223372036854775806) : spec_HighestHour.f (s.size + 20) s = some (val s) := by
  unfold spec_HighestHour.f val
  rw [tdText_eq s hs _ _ (by omega)]
  show (some (okTide s)).bind _ = _
  rw [Option.bind_some]
  cases h : okTide s with
  | false => rw [if_neg (by decide), if_neg (by simp)]
  | true =>
    have hz := okTide_size h
    have hd : digs s = true := by unfold okTide at h; simp only [Bool.and_eq_true] at h; exact h.2
    rw [if_pos rfl, if_pos rfl]
    exact high_l0 s hz.2 hd (s.size - 1) 0 _ (by omega) (by omega)
theorem whole (s : ByteArray) (w : World) (hs : s.size ≤ 140737488351232) : Calls Tryd.prog 8 #[.string s] w fun e w' => e = .returned (.bool true) ∧ Below w.heap.size w w' := by
  refine law (s.size + 20) s _ _ _ w hs (fun W => ?_) (fun W => WkHighestHour.impl s W hs)
  refine (spec_HighestHour.calls (s.size + 20) s _ _ _ W (spec_eq s (by omega))).mono ?_
  rintro e w' ⟨rfl, ⟨nd, rfl⟩⟩
  exact ⟨rfl, pw_below_drewN (Below.refl _ _) nd⟩
end Go.Proofs.YthglhfhepooggaaDoor.LwHighestHour
