/- spec.tdGood, tdLeap and tdAsked at this program: whether a shore, a tide, a leap and an hour are right. Condition: the texts lie within the reach. -/
import Derived.Test.YteijbohbdhemoaaDoorFn
import Derived.Test.YteijbohbdhemoaaDoorPFnExactEarliestAtx1
namespace Go.Proofs.YteijbohbdhemoaaDoor.Aq
set_option linter.unusedVariables false
set_option linter.unusedSimpArgs false
open Go.RowKit Go.Proofs.YteijbohbdhemoaaDoorW.PrintWords Go.Proofs.YteijbohbdhemoaaDoorW.PrintLast Go.Proofs.YteijbohbdhemoaaDoorW.PrintMore Sh Cr Sm PFnExactEarliestAt
theorem l1In_eq (a lo hi : Int) : spec_l1In.f a lo hi = some (decide (lo ≤ a ∧ a ≤ hi)) := by
  unfold spec_l1In.f
  by_cases h : lo ≤ a
  · rw [if_pos h]; simp [h]
  · rw [if_neg h]; simp [h]
theorem tdText_l0 (s : ByteArray) (hs : s.size ≤ 9223372036854775806) (d : Nat) : ∀ n, n + d = s.size → ∀ k, d < k → spec_tdText.l0 k s (n : Int) = some ((s.data.toList.drop n).all isDig) := by
  induction d with
  | zero =>
    intro n hn k hk
    obtain ⟨k, rfl⟩ : ∃ m, k = m + 1 := ⟨k - 1, by omega⟩
    simp only [spec_tdText.l0]
    rw [if_neg (by omega), List.drop_of_length_le (by rw [size_list]; omega)]; rfl
  | succ d ih =>
    intro n hn k hk
    obtain ⟨k, rfl⟩ : ∃ m, k = m + 1 := ⟨k - 1, by omega⟩
    have hlt : n < s.data.toList.length := by rw [size_list]; omega
    simp only [spec_tdText.l0]
    rw [if_pos (show (n : Int) < (s.size : Int) by omega), if_pos (by omega), bt_list s n (by omega), List.drop_eq_getElem_cons hlt, List.all_cons]
    have hi := isDig_iff (s.data.toList[n]'hlt)
    have hw : wrap64 ((n : Int) + 1) = ((n + 1 : Nat) : Int) := by unfold wrap64; omega
    cases hd : isDig (s.data.toList[n]'hlt) with
    | true =>
      have := hi.mp hd
      rw [if_neg this.1, if_neg this.2, hw, ih (n + 1) (by omega) k (by omega)]; simp
    | false =>
      by_cases c : ((s.data.toList[n]'hlt).toNat : Int) < 48
      · rw [if_pos c]; simp
      · by_cases c' : ((s.data.toList[n]'hlt).toNat : Int) > 57
        · rw [if_neg c, if_pos c']; simp
        · have := hi.mpr ⟨c, c'⟩; rw [hd] at this; cases this
theorem tdText_eq (s : ByteArray) (hs : s.size ≤ 9223372036854775806) (m : Int) (k : Nat) (hk : s.size < k) : spec_tdText.f k s m = some (decide (1 ≤ (s.size : Int) ∧ (s.size : Int) ≤ m) && digs s) := by
  unfold spec_tdText.f
  rw [l1In_eq]
  by_cases h : 1 ≤ (s.size : Int) ∧ (s.size : Int) ≤ m
  · rw [decide_eq_true h]
    have := tdText_l0 s hs s.size 0 (by omega) k hk
    simp only [Option.bind_some, if_true, Bool.true_and]
    simpa [digs] using this
  · rw [decide_eq_false h]; simp
theorem tdGood_eq (s t : ByteArray) (hs : s.size ≤ 9223372036854775806) (ht : t.size ≤ 9223372036854775806) (k : Nat) (h1 : s.size < k) (h2 : t.size < k) : spec_tdGood.f k s t = some (okShore s && okTide t) := by
  unfold spec_tdGood.f
  rw [tdText_eq s hs _ k h1, tdText_eq t ht _ k h2]
  show (some (okShore s)).bind _ = _
  cases okShore s <;> simp [okTide]

theorem tdLeap_eq (s t : ByteArray) (p : Int) (hs : s.size ≤ 9223372036854775806) (ht : t.size ≤ 9223372036854775806) (k : Nat) (h1 : s.size < k) (h2 : t.size < k) : spec_tdLeap.f k s t p = some ((okShore s && okTide t) && okLeap p) := by
  unfold spec_tdLeap.f
  rw [tdGood_eq s t hs ht k h1 h2, l1In_eq]
  unfold okLeap
  cases (okShore s && okTide t) <;> simp

theorem asked_eq (s t : ByteArray) (p h : Int) (hs : s.size ≤ 9223372036854775806) (ht : t.size ≤ 9223372036854775806) (k : Nat) (h1 : s.size < k) (h2 : t.size < k) : spec_tdAsked.f k s t p h = some (((okShore s && okTide t) && okLeap p) && okHour h) := by
  unfold spec_tdAsked.f spec_tdHour.f
  rw [tdLeap_eq s t p hs ht k h1 h2, l1In_eq]
  unfold okHour
  cases ((okShore s && okTide t) && okLeap p) <;> simp

/-- Whether a crossing and an hour are right. -/
def okAsked (s t : ByteArray) (l h : Int) : Bool := ((okShore s && okTide t) && okLeap l) && okHour h
theorem asked (s t : ByteArray) (l h : Int) (w : World) (hs : s.size ≤ 140737488351232) (ht : t.size ≤ 140737488351232) : Calls Tryd.prog 30 #[.string s, .string t, .int .i64 l, .int .i64 h] w fun e w' => e = .returned (.bool (okAsked s t l h)) ∧ Below w.heap.size w w' := by
  refine (spec_tdAsked.calls (s.size + t.size + 1) s t l h _ w (asked_eq s t l h (by omega) (by omega) _ (by omega) (by omega))).mono ?_
  rintro e w' ⟨rfl, hd⟩
  exact ⟨rfl, hd.below⟩
theorem leapS (s t : ByteArray) (l : Int) (w : World) (hs : s.size ≤ 140737488351232) (ht : t.size ≤ 140737488351232) : Calls Tryd.prog 43 #[.string s, .string t, .int .i64 l] w fun e w' => e = .returned (.bool (okRight s t l)) ∧ Below w.heap.size w w' := by
  refine (spec_tdLeap.calls (s.size + t.size + 1) s t l _ w (tdLeap_eq s t l (by omega) (by omega) _ (by omega) (by omega))).mono ?_
  rintro e w' ⟨rfl, hd⟩
  exact ⟨rfl, hd.below⟩
theorem goodS (s t : ByteArray) (w : World) (hs : s.size ≤ 140737488351232) (ht : t.size ≤ 140737488351232) : Calls Tryd.prog 44 #[.string s, .string t] w fun e w' => e = .returned (.bool (okShore s && okTide t)) ∧ Below w.heap.size w w' := by
  refine (spec_tdGood.calls (s.size + t.size + 1) s t _ w (tdGood_eq s t (by omega) (by omega) _ (by omega) (by omega))).mono ?_
  rintro e w' ⟨rfl, hd⟩
  exact ⟨rfl, hd.below⟩
theorem asked_is {s t : ByteArray} {l h : Int} (hk : okAsked s t l h = true) : okRight s t l = true ∧ okHour h = true ∧ ∃ L st : Nat, l = (L : Int) ∧ h = (st : Int) ∧ (1 ≤ s.size ∧ s.size ≤ 14) ∧ (1 ≤ t.size ∧ t.size ≤ 12) ∧ (1 ≤ L ∧ L ≤ 15) ∧ st ≤ 1000 := by
  unfold okAsked at hk
  simp only [Bool.and_eq_true] at hk
  have z1 := okShore_size hk.1.1.1
  have z2 := okTide_size hk.1.1.2
  have hl := hk.1.2
  have hh := hk.2
  unfold okLeap at hl
  unfold okHour at hh
  simp only [decide_eq_true_eq] at hl hh
  refine ⟨by unfold okRight; simp only [Bool.and_eq_true]; exact hk.1, hk.2, l.toNat, h.toNat, by omega, by omega, z1, z2, by omega, by omega⟩
end Go.Proofs.YteijbohbdhemoaaDoor.Aq
