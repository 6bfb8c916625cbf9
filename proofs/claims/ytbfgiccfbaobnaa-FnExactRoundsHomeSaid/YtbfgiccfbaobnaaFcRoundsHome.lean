/- The plain facts on the callees of laws.FnExactRoundsHome. Condition: a list is no longer than 2^20. -/
import Derived.Test.YtbfgiccfbaobnaaOrd
import Derived.Test.YtbfgiccfbaobnaaPFnExactRoundsHomex1
namespace Go.Proofs.Ytbfgiccfbaobnaa.FcRoundsHome
set_option linter.unusedVariables false
set_option linter.unusedSimpArgs false
open Go.RowKit Go.Proofs.YtbfgiccfbaobnaaW.PrintWords Go.Proofs.YtbfgiccfbaobnaaW.PrintLast Go.Proofs.YtbfgiccfbaobnaaW.PrintMore PFnExactRoundsHome

theorem toInt_l0 (l : List Int) (hl : l.length ≤ 1099511627776) : ∀ (q p z : List Int), l = p ++ q → z.length = q.length → ∀ k, q.length < k → laws_toIntS.l0 k l (p ++ z) (p.length : Int) = some l
  | [], p, z, h, hz, k, hk => by
    obtain ⟨k, rfl⟩ : ∃ m, k = m + 1 := ⟨k - 1, by omega⟩
    simp only [List.append_nil] at h
    obtain rfl : z = [] := List.eq_nil_of_length_eq_zero (by simpa using hz)
    simp only [laws_toIntS.l0]
    rw [if_neg (by rw [h]; omega), List.append_nil, h]
  | a :: q, p, z, h, hz, k, hk => by
    obtain ⟨k, rfl⟩ : ∃ m, k = m + 1 := ⟨k - 1, by omega⟩
    match z, hz with
    | b :: z, hz =>
      have hlen : l.length = p.length + (q.length + 1) := by rw [h]; simp
      have hr : rd l (p.length : Int) = a := by
        unfold rd; rw [h, List.getD_eq_getElem?_getD]; simp
      have e : (p ++ b :: z).set ((p.length : Int)).toNat (rd l (p.length : Int)) = (p ++ [a]) ++ z := by
        rw [hr, show ((p.length : Int)).toNat = p.length by omega, List.set_append_right _ _ (Nat.le_refl _)]; simp
      have e2 : wrap64 ((p.length : Int) + 1) = ((p ++ [a]).length : Int) := by rw [List.length_append]; simp only [List.length_cons, List.length_nil]; unfold wrap64; omega
      simp only [laws_toIntS.l0]
      rw [if_pos (by omega), if_pos (by omega), if_pos (by simp; omega), e, e2]
      exact toInt_l0 l hl q (p ++ [a]) z (by rw [h]; simp) (by simpa using hz) k (by simp at hk; omega)
theorem toInt_eq (l : List Int) (hl : l.length ≤ 1099511627776) (k : Nat) (hk : l.length < k) : laws_toIntS.f k l = some l := by
  unfold laws_toIntS.f
  rw [if_pos (by omega), if_pos (by omega)]
  have := toInt_l0 l hl l [] (List.replicate ((l.length : Int)).toNat 0) (by simp) (by simp) k hk
  simpa using this
theorem eq_l0 (l : List Int) (hl : l.length ≤ 1099511627776) (d : Nat) : ∀ i, i + d = l.length → ∀ k, d < k → laws_eqIntS.l0 k l l (i : Int) = some true := by
  induction d with
  | zero =>
    intro i hi k hk
    obtain ⟨k, rfl⟩ : ∃ m, k = m + 1 := ⟨k - 1, by omega⟩
    simp only [laws_eqIntS.l0]; rw [if_neg (by omega)]
  | succ d ih =>
    intro i hi k hk
    obtain ⟨k, rfl⟩ : ∃ m, k = m + 1 := ⟨k - 1, by omega⟩
    simp only [laws_eqIntS.l0]
    rw [if_pos (by omega), if_pos (by omega), if_pos (by omega), if_pos trivial, show wrap64 ((i : Int) + 1) = ((i + 1 : Nat) : Int) by unfold wrap64; omega]
    exact ih (i + 1) (by omega) k (by omega)
theorem eq_self (l : List Int) (hl : l.length ≤ 1099511627776) (k : Nat) (hk : l.length < k) : laws_eqIntS.f k l l = some true := by
  unfold laws_eqIntS.f
  rw [if_pos rfl]; exact eq_l0 l hl l.length 0 (by omega) k hk
theorem in_eq (a lo hi : Int) : spec_l1In.f a lo hi = some (decide (lo ≤ a ∧ a ≤ hi)) := by
  unfold spec_l1In.f
  by_cases h : a ≥ lo
  · rw [if_pos h]; congr 1; apply decide_eq_decide.mpr; omega
  · rw [if_neg h]; congr 1; symm; apply decide_eq_false; omega
theorem rd_drop {l : List Int} {i : Nat} (h : i < l.length) : l.drop i = rd l (i : Int) :: l.drop (i + 1) := by
  rw [List.drop_eq_getElem_cons h]
  congr 1
  unfold rd
  rw [List.getD_eq_getElem?_getD, show ((i : Int)).toNat = i by omega, List.getElem?_eq_getElem h]
  rfl
theorem w_up {i : Nat} (h : i < 1099511627776) : wrap64 ((i : Int) + 1) = ((i + 1 : Nat) : Int) := by unfold wrap64; omega
theorem all_l0 (l : List Int) (hl : l.length ≤ 1048576) (lo up : Int) (d : Nat) : ∀ i, i + d = l.length → ∀ k, d < k → spec_l1All.l0 k lo up l (l.length : Int) (i : Int) = some ((l.drop i).all fun x => decide (lo ≤ x ∧ x ≤ up)) := by
  induction d with
  | zero =>
    intro i hi k hk
    obtain ⟨k, rfl⟩ : ∃ m, k = m + 1 := ⟨k - 1, by omega⟩
    simp only [spec_l1All.l0]
    rw [if_neg (by omega), List.drop_eq_nil_of_le (by omega)]; rfl
  | succ d ih =>
    intro i hi k hk
    obtain ⟨k, rfl⟩ : ∃ m, k = m + 1 := ⟨k - 1, by omega⟩
    simp only [spec_l1All.l0]
    rw [if_pos (by omega), if_pos (by omega), if_pos (by omega), in_eq, Option.bind_some, rd_drop (by omega), List.all_cons, w_up (by omega), ih (i + 1) (by omega) k (by omega)]
    cases decide (lo ≤ rd l (i : Int) ∧ rd l (i : Int) ≤ up) with
    | true => rw [if_pos rfl, Bool.true_and]
    | false => rw [if_neg (by decide), Bool.false_and]
theorem has_l0 (l : List Int) (hl : l.length ≤ 1048576) (x : Int) (d : Nat) : ∀ i, i + d = l.length → ∀ k, d < k → spec_l1Has.l0 k x l (l.length : Int) (i : Int) = some ((l.drop i).any fun y => decide (y = x)) := by
  induction d with
  | zero =>
    intro i hi k hk
    obtain ⟨k, rfl⟩ : ∃ m, k = m + 1 := ⟨k - 1, by omega⟩
    simp only [spec_l1Has.l0]
    rw [if_neg (by omega), List.drop_eq_nil_of_le (by omega)]; rfl
  | succ d ih =>
    intro i hi k hk
    obtain ⟨k, rfl⟩ : ∃ m, k = m + 1 := ⟨k - 1, by omega⟩
    simp only [spec_l1Has.l0]
    rw [if_pos (by omega), if_pos (by omega), if_pos (by omega), rd_drop (by omega), List.any_cons, w_up (by omega), ih (i + 1) (by omega) k (by omega)]
    by_cases h : rd l (i : Int) = x
    · rw [if_pos h, decide_eq_true h, Bool.true_or]
    · rw [if_neg h, decide_eq_false h, Bool.false_or]
theorem has_eq (l : List Int) (hl : l.length ≤ 1048576) (x : Int) (k : Nat) (hk : l.length < k) : spec_l1Has.f k l x = some (decide (x ∈ l)) := by
  unfold spec_l1Has.f
  rw [show (0 : Int) = ((0 : Nat) : Int) from rfl, has_l0 l hl x l.length 0 (by omega) k hk, List.drop_zero]
  congr 1
  rw [Bool.eq_iff_iff]
  simp
/-- From place i on no number stands further ahead. -/
def Once (l : List Int) (i : Nat) : Prop := ∀ j, i ≤ j → j < l.length → rd l (j : Int) ∉ l.take j
theorem good_l0 (l : List Int) (hl : l.length ≤ 1048576) (K : Nat) (hK : l.length < K) (d : Nat) : ∀ i, i + d = l.length → ∀ k, K + d < k → ∃ b, spec_ptGood.l0 k l l (l.length : Int) (i : Int) = some b ∧ (b = true ↔ Once l i) := by
  induction d with
  | zero =>
    intro i hi k hk
    obtain ⟨k, rfl⟩ : ∃ m, k = m + 1 := ⟨k - 1, by omega⟩
    refine ⟨true, ?_, by simp; intro j h1 h2; omega⟩
    simp only [spec_ptGood.l0]
    rw [if_neg (by omega)]
  | succ d ih =>
    intro i hi k hk
    obtain ⟨k, rfl⟩ : ∃ m, k = m + 1 := ⟨k - 1, by omega⟩
    obtain ⟨b, hb, hiff⟩ := ih (i + 1) (by omega) k (by omega)
    have ht : (l.take ((i : Int)).toNat).length ≤ 1048576 := by rw [List.length_take]; omega
    have ht2 : (l.take ((i : Int)).toNat).length < k := by rw [List.length_take]; omega
    by_cases h : rd l (i : Int) ∈ l.take i
    · refine ⟨false, ?_, by simp; exact fun g => g i (Nat.le_refl _) (by omega) h⟩
      simp only [spec_ptGood.l0]
      rw [if_pos (by omega), if_pos (by omega), if_pos (by omega), if_pos (by omega), has_eq _ ht _ k ht2, Option.bind_some, show ((i : Int)).toNat = i by omega, decide_eq_true h, if_pos rfl]
    · refine ⟨b, ?_, ?_⟩
      · simp only [spec_ptGood.l0]
        rw [if_pos (by omega), if_pos (by omega), if_pos (by omega), if_pos (by omega), has_eq _ ht _ k ht2, Option.bind_some, show ((i : Int)).toNat = i by omega, decide_eq_false h, if_neg (by decide), w_up (by omega)]
        exact hb
      · rw [hiff]
        constructor
        · intro g j h1 h2
          rcases Nat.eq_or_lt_of_le h1 with rfl | h3
          · exact h
          · exact g j h3 h2
        · intro g j h1 h2
          exact g j (by omega) h2
theorem once_nodup (l : List Int) : Once l 0 ↔ l.Nodup := by
  unfold Once List.Nodup
  rw [List.pairwise_iff_getElem]
  have hrd : ∀ j (h : j < l.length), rd l (j : Int) = l[j] := by
    intro j h
    unfold rd
    rw [List.getD_eq_getElem?_getD, show ((j : Int)).toNat = j by omega, List.getElem?_eq_getElem h]
    rfl
  constructor
  · intro g i j hi hj hij e
    refine g j (Nat.zero_le _) hj ?_
    rw [hrd j hj, ← e]
    exact List.mem_take_iff_getElem.mpr ⟨i, by omega, rfl⟩
  · intro g j _ hj hm
    rw [hrd j hj] at hm
    obtain ⟨i, hi, e⟩ := List.mem_take_iff_getElem.mp hm
    exact g i j (by omega) hj (by omega) e
theorem good_eq (l : List Int) (hl : l.length ≤ 1048576) (k : Nat) (hk : 2 * l.length + 3 < k) : spec_ptGood.f k l = some (Ord.ord l) := by
  unfold spec_ptGood.f
  have key := Ord.ord_iff l
  rw [in_eq, Option.bind_some]
  by_cases h1 : (1 : Int) ≤ (l.length : Int) ∧ (l.length : Int) ≤ 8
  · rw [decide_eq_true h1, if_pos rfl]
    unfold spec_l1All.f
    rw [show (0 : Int) = ((0 : Nat) : Int) from rfl, all_l0 l hl 1 (l.length : Int) l.length 0 (by omega) k (by omega), Option.bind_some, List.drop_zero]
    obtain ⟨k, rfl⟩ : ∃ m, k = m + 1 := ⟨k - 1, by omega⟩
    simp only [spec_ptGood.j0]
    cases h2 : l.all fun x => decide (1 ≤ x ∧ x ≤ (l.length : Int)) with
    | false =>
      rw [if_pos (by decide)]
      congr 1
      symm
      cases ho : Ord.ord l with
      | false => rfl
      | true =>
        have := (key.mp ho).2.2.1
        rw [List.all_eq_true.mpr (fun x hx => decide_eq_true (this x hx))] at h2
        cases h2
    | true =>
      rw [if_neg (by decide)]
      obtain ⟨b, hb, hiff⟩ := good_l0 l hl (l.length + 1) (by omega) l.length 0 (by omega) k (by omega)
      rw [show (0 : Int) = ((0 : Nat) : Int) from rfl, hb]
      congr 1
      rw [Bool.eq_iff_iff, hiff, once_nodup, key]
      have h3 : ∀ x ∈ l, 1 ≤ x ∧ x ≤ (l.length : Int) := fun x hx => of_decide_eq_true (List.all_eq_true.mp h2 x hx)
      exact ⟨fun h => ⟨by omega, by omega, h3, h⟩, fun h => h.2.2.2⟩
  · rw [decide_eq_false h1, if_neg (by decide)]
    obtain ⟨k, rfl⟩ : ∃ m, k = m + 1 := ⟨k - 1, by omega⟩
    simp only [spec_ptGood.j0]
    rw [if_pos trivial]
    congr 1
    symm
    cases ho : Ord.ord l with
    | false => rfl
    | true =>
      have := key.mp ho
      exact absurd ⟨by omega, by omega⟩ h1
end Go.Proofs.Ytbfgiccfbaobnaa.FcRoundsHome
