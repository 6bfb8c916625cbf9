/- The plain law of an order: a list is sorted to 1, .., n just where it holds each of these once. No condition. -/
namespace Go.Proofs.Ytbfgiccfbaobnaa
namespace Ord
/-- 1, .., n. -/
def upto (n : Nat) : List Int := (List.range n).map (fun i : Nat => (i : Int) + 1)
theorem length_upto (n : Nat) : (upto n).length = n := by simp [upto]
theorem mem_upto {n : Nat} {x : Int} : x ∈ upto n ↔ 1 ≤ x ∧ x ≤ n := by
  unfold upto
  rw [List.mem_map]
  constructor
  · rintro ⟨i, hi, rfl⟩
    have := List.mem_range.mp hi
    omega
  · rintro ⟨h1, h2⟩
    exact ⟨(x - 1).toNat, List.mem_range.mpr (by omega), by omega⟩
theorem upto_succ (n : Nat) : upto (n + 1) = upto n ++ [((n : Int) + 1)] := by simp [upto, List.range_succ]
theorem nodup_upto : ∀ n, (upto n).Nodup
  | 0 => by simp [upto]
  | n + 1 => by
    rw [upto_succ, List.nodup_append]
    refine ⟨nodup_upto n, by simp, ?_⟩
    intro a ha b hb e
    have := (mem_upto.mp ha).2
    simp at hb
    omega
theorem sorted_upto : ∀ n, (upto n).Pairwise (· ≤ ·)
  | 0 => by simp [upto]
  | n + 1 => by
    rw [upto_succ, List.pairwise_append]
    refine ⟨sorted_upto n, by simp, ?_⟩
    intro a ha b hb
    have := (mem_upto.mp ha).2
    simp at hb
    omega
/-- A list without a number twice, all in 1, .., n: at most n numbers; with n numbers it holds just these. -/
theorem pigeon : ∀ (n : Nat) (l : List Int), l.Nodup → (∀ x ∈ l, 1 ≤ x ∧ x ≤ n) → l.length ≤ n ∧ (l.length = n → l.Perm (upto n))
  | 0, l, _, h => by
    cases l with
    | nil => exact ⟨by simp, fun _ => by simp [upto]⟩
    | cons a t => exact absurd (h a (by simp)) (by omega)
  | n + 1, l, hd, h => by
    by_cases hm : ((n : Int) + 1) ∈ l
    · have hp := List.perm_cons_erase hm
      have hd2 : (l.erase ((n : Int) + 1)).Nodup := hd.erase _
      have hl := List.length_erase_of_mem hm
      have hpos : 0 < l.length := List.length_pos_of_mem hm
      have ih := pigeon n (l.erase ((n : Int) + 1)) hd2 (fun x hx => by
        have h1 := (hd.mem_erase_iff.mp hx)
        have := h x h1.2
        have := h1.1
        omega)
      refine ⟨by omega, fun e => ?_⟩
      have := ih.2 (by omega)
      rw [upto_succ]
      exact hp.trans ((List.Perm.cons _ this).trans (List.perm_append_comm (l₁ := [((n : Int) + 1)]) (l₂ := upto n)))
    · have ih := pigeon n l hd (fun x hx => by
        have := h x hx
        have hne : x ≠ (n : Int) + 1 := fun e => hm (e ▸ hx)
        omega)
      exact ⟨by omega, fun e => by omega⟩
def ord (l : List Int) : Bool := decide (1 ≤ l.length) && decide (l.length ≤ 8) && decide (l.mergeSort (fun x y => decide (x ≤ y)) = upto l.length)
theorem sorted_ms (l : List Int) : (l.mergeSort (fun x y => decide (x ≤ y))).Pairwise (· ≤ ·) := by
  have := List.pairwise_mergeSort (le := fun x y : Int => decide (x ≤ y)) (by intro a b c; simp; omega) (by intro a b; simp; omega) l
  exact this.imp (by intro a b h; simpa using h)
theorem ord_iff (l : List Int) : ord l = true ↔ 1 ≤ l.length ∧ l.length ≤ 8 ∧ (∀ x ∈ l, 1 ≤ x ∧ x ≤ l.length) ∧ l.Nodup := by
  unfold ord
  simp only [Bool.and_eq_true, decide_eq_true_eq]
  have hp := List.mergeSort_perm l (fun x y => decide (x ≤ y))
  constructor
  · rintro ⟨⟨h1, h2⟩, h3⟩
    rw [h3] at hp
    exact ⟨h1, h2, fun x hx => mem_upto.mp (hp.mem_iff.mpr hx), hp.nodup_iff.mp (nodup_upto _)⟩
  · rintro ⟨h1, h2, h3, h4⟩
    refine ⟨⟨h1, h2⟩, ?_⟩
    have hq := (pigeon l.length l h4 h3).2 rfl
    exact (hp.trans hq).eq_of_pairwise (by intro a b _ _ x y; omega) (sorted_ms l) (sorted_upto _)
end Ord
end Go.Proofs.Ytbfgiccfbaobnaa
