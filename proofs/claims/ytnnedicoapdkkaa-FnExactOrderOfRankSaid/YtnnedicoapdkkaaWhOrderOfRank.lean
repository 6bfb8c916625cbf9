/- laws.FnExactOrderOfRank answers true for all arguments; nothing that lay before is turned. No condition. -/
import Derived.Test.YtnnedicoapdkkaaLwOrderOfRank
namespace Go.Proofs.Ytnnedicoapdkkaa.LwOrderOfRank
set_option linter.unusedVariables false
set_option linter.unusedSimpArgs false
open Go.RowKit Go.Proofs.YtnnedicoapdkkaaW.PrintWords Go.Proofs.YtnnedicoapdkkaaW.PrintLast PFnExactOrderOfRank
open WkOrderOfRank hiding R R_len
open Del
def R (n : Nat) : List Int := (List.range n).map fun j => ((j + 1 : Nat) : Int)
theorem R_len (n : Nat) : (R n).length = n := by simp [R]
theorem R_succ (n : Nat) : R (n + 1) = R n ++ [((n + 1 : Nat) : Int)] := by simp [R, List.range_succ]
theorem R_rd {n i : Nat} (h : i < n) : rd (R n) (i : Int) = ((i + 1 : Nat) : Int) := by
  unfold rd R
  rw [List.getD_eq_getElem?_getD, show ((i : Int)).toNat = i by omega, List.getElem?_map, List.getElem?_range h]
  rfl
theorem eq_l0 (l : List Int) (hl : l.length ≤ 1099511627776) (d : Nat) : ∀ i, i + d = l.length → ∀ k, d < k → laws_eqIntS.l0 k l l (i : Int) = some true := by
  induction d with
  | zero =>
    intro i hi k hk
    obtain ⟨k, rfl⟩ : ∃ m, k = m + 1 := ⟨k - 1, by omega⟩
    simp only [laws_eqIntS.l0]; rw [if_neg (by omega)]
  | succ d ih =>
    intro i hi k hk
    obtain ⟨k, rfl⟩ : ∃ m, k = m + 1 := ⟨k - 1, by omega⟩
    simp only [laws_eqIntS.l0]
    rw [if_pos (by omega), if_pos (by omega), if_pos (by omega), if_pos trivial, show wrap64 ((i : Int) + 1) = ((i + 1 : Nat) : Int) by unfold wrap64; omega]
    exact ih (i + 1) (by omega) k (by omega)
theorem eq_self (l : List Int) (hl : l.length ≤ 1099511627776) (k : Nat) (hk : l.length < k) : laws_eqIntS.f k l l = some true := by
  unfold laws_eqIntS.f
  rw [if_pos rfl]; exact eq_l0 l hl l.length 0 (by omega) k hk
theorem mark_l0 : ∀ (y : List Int) (i k : Nat), y.length < k → i + y.length ≤ 1099511627776 → laws_markIntS.l0 k (R i ++ y) ((i + 1 : Nat) : Int) (i : Int) = some (((i + y.length + 1 : Nat) : Int), R (i + y.length))
  | [], i, k, hk, hl => by
    obtain ⟨k, rfl⟩ : ∃ m, k = m + 1 := ⟨k - 1, by simp at hk; omega⟩
    simp only [laws_markIntS.l0]
    rw [if_neg (by simp [R_len])]; simp
  | a :: y, i, k, hk, hl => by
    simp only [List.length_cons] at hk hl
    obtain ⟨k, rfl⟩ : ∃ m, k = m + 1 := ⟨k - 1, by omega⟩
    simp only [laws_markIntS.l0]
    rw [if_pos (by simp [R_len]; omega), if_pos (by omega), show wrap64 (((i + 1 : Nat) : Int) + 1) = ((i + 1 + 1 : Nat) : Int) by unfold wrap64; omega, show wrap64 ((i : Int) + 1) = ((i + 1 : Nat) : Int) by unfold wrap64; omega]
    have e : (R i ++ a :: y).set ((i : Int)).toNat ((i + 1 : Nat) : Int) = R (i + 1) ++ y := by
      rw [show ((i : Int)).toNat = i by omega, List.set_append_right _ _ (by rw [R_len]; omega), R_len, R_succ]; simp
    rw [e, mark_l0 y (i + 1) k (by omega) (by omega)]
    simp only [List.length_cons]
    rw [show i + 1 + y.length = i + (y.length + 1) by omega]
theorem held_l0 (n : Nat) (hn : n ≤ 1099511627776) (d : Nat) : ∀ i, i + d = n → ∀ k, d < k → laws_heldIntS.l0 k (R n) ((i + 1 : Nat) : Int) (i : Int) = some ((n + 1 : Nat) : Int) := by
  induction d with
  | zero =>
    intro i hi k hk
    obtain ⟨k, rfl⟩ : ∃ m, k = m + 1 := ⟨k - 1, by omega⟩
    simp only [laws_heldIntS.l0]; rw [if_neg (by rw [R_len]; omega)]
    rw [show i = n by omega]
  | succ d ih =>
    intro i hi k hk
    obtain ⟨k, rfl⟩ : ∃ m, k = m + 1 := ⟨k - 1, by omega⟩
    simp only [laws_heldIntS.l0]
    rw [if_pos (by rw [R_len]; omega), if_pos (by omega), R_rd (by omega), if_pos rfl, show wrap64 (((i + 1 : Nat) : Int) + 1) = ((i + 1 + 1 : Nat) : Int) by unfold wrap64; omega, show wrap64 ((i : Int) + 1) = ((i + 1 : Nat) : Int) by unfold wrap64; omega]
    exact ih (i + 1) (by omega) k (by omega)
theorem mark_ok (l : List Int) (hl : l.length ≤ 1099511627776) (k : Nat) (hk : l.length < k) : laws_markIntS.f k l 1 = some (((l.length + 1 : Nat) : Int), R l.length) := by
  unfold laws_markIntS.f
  have := mark_l0 l 0 k hk (by omega)
  simpa [R] using this
theorem held_ok (n : Nat) (hn : n ≤ 1099511627776) (k : Nat) (hk : n < k) : laws_heldIntS.f k (R n) 1 = some ((n + 1 : Nat) : Int) := by
  unfold laws_heldIntS.f
  have := held_l0 n hn n 0 (by omega) k hk
  simpa using this

theorem in_eq (a lo hi : Int) : spec_l1In.f a lo hi = some (decide (lo ≤ a ∧ a ≤ hi)) := by
  unfold spec_l1In.f
  by_cases h : lo ≤ a
  · rw [if_pos h]; simp [h]
  · rw [if_neg h]; simp [h]
theorem own_eq (l : List Int) (h : l.length ≤ 8) : spec_l1Own.f l = some l := by
  unfold spec_l1Own.f
  rw [Option.bind_some, if_pos (by simp; omega)]; simp
theorem wr {n : Nat} (h : n ≤ 1000000) : wrap64 (n : Int) = (n : Int) := by unfold wrap64; omega
theorem code_len : ∀ n l q, (code n l q).length = n
  | 0, _, _ => rfl
  | n + 1, l, q => by simp [code, code_len n]
theorem l1_eq : ∀ (m q : Nat) (left out : List Int) (k : Nat), left.length = m → out.length + m ≤ 8 → q < fct m → m < k → spec_OrderOfRank.l1 k (q : Int) (fct m : Int) left out (m : Int) = some (out ++ code m left q, true)
  | 0, q, left, out, k, hl, ho, hq, hk => by
    obtain ⟨k, rfl⟩ : ∃ j, k = j + 1 := ⟨k - 1, by omega⟩
    simp only [spec_OrderOfRank.l1]
    rw [if_neg (by omega)]; simp [code]
  | m + 1, q, left, out, k, hl, ho, hq, hk => by
    obtain ⟨k, rfl⟩ : ∃ j, k = j + 1 := ⟨k - 1, by omega⟩
    have hf := fct_le m (by omega)
    have hp := fct_pos m
    have hf2 : (m + 1) * fct m ≤ 9 * 40320 := Nat.mul_le_mul (by omega) hf
    have hq' : q < (m + 1) * fct m := hq
    have e1 : wrap64 (Int.tdiv (fct (m + 1) : Int) ((m + 1 : Nat) : Int)) = (fct m : Int) := by
      rw [← Int.ofNat_tdiv, show fct (m + 1) = (m + 1) * fct m from rfl, Nat.mul_div_cancel_left _ (Nat.succ_pos m)]
      exact wr (by omega)
    have hi : q / fct m < m + 1 := Nat.div_lt_of_lt_mul (by rw [Nat.mul_comm]; exact hq')
    have hr : q % fct m < fct m := Nat.mod_lt _ hp
    have e2 : wrap64 (Int.tdiv (q : Int) (fct m : Int)) = ((q / fct m : Nat) : Int) := by
      rw [← Int.ofNat_tdiv]; exact wr (Nat.le_trans (Nat.le_of_lt hi) (by omega))
    have e4 : Int.tmod (q : Int) (fct m : Int) = ((q % fct m : Nat) : Int) := (Int.ofNat_tmod q (fct m)).symm
    have e3 : wrap64 (((q / fct m : Nat) : Int) + 1) = ((q / fct m + 1 : Nat) : Int) := by
      rw [show ((q / fct m : Nat) : Int) + 1 = ((q / fct m + 1 : Nat) : Int) from (Int.natCast_add _ _).symm]; exact wr (Nat.le_trans (Nat.succ_le_of_lt hi) (by omega))
    have e5 : wrap64 (((m + 1 : Nat) : Int) - 1) = (m : Int) := by
      rw [show ((m + 1 : Nat) : Int) - 1 = (m : Int) by omega]; exact wr (by omega)
    have hp2 : ¬ (fct m : Int) = 0 := by omega
    have hc : code (m + 1) left q = rd left ((q / fct m : Nat) : Int) :: code m (gone left (q / fct m)) (q % fct m) := rfl
    rw [hc]
    unfold spec_OrderOfRank.l1
    rw [e1, e2, e3, e4, e5]
    clear e1 e2 e3 e4 e5 hq hq' hf hf2 hc
    generalize q / fct m = i at hi ⊢
    generalize q % fct m = q2 at hr ⊢
    have ih := l1_eq m q2 (gone left i) (out ++ [rd left (i : Int)]) k (by rw [gone_len (by omega), hl]; rfl) (by simp; omega) hr (by omega)
    rw [if_pos (by omega), if_neg (by omega), if_neg hp2, if_pos (by omega), if_pos (by omega), if_pos (by omega), if_pos (by omega), Int.toNat_natCast, own_eq _ (by simp; omega), Option.bind_some, if_pos (by omega), if_pos (by omega), Option.bind_some, Int.toNat_natCast, if_pos (by simp; omega)]
    rw [show left.take i ++ left.drop (i + 1) = gone left i from rfl, ih]
    simp
theorem R_up (n : Nat) : WkOrderOfRank.R (n + 1) = WkOrderOfRank.R n ++ [((n + 1 : Nat) : Int)] := by simp [WkOrderOfRank.R, List.range_succ]
theorem l0_eq (n : Nat) (hn : n ≤ 8) (p : Int) (hp : 0 ≤ p) (d : Nat) : ∀ i k, i + d = n → d + n + 2 < k → spec_OrderOfRank.l0 k (n : Int) p (fct i : Int) (WkOrderOfRank.R i) ((i + 1 : Nat) : Int) = some (if p < (fct n : Int) then (code n (WkOrderOfRank.R n) p.toNat, true) else ([], false)) := by
  induction d with
  | zero =>
    intro i k hi hk
    obtain ⟨k, rfl⟩ : ∃ j, k = j + 1 := ⟨k - 1, by omega⟩
    obtain rfl : i = n := by omega
    simp only [spec_OrderOfRank.l0]
    rw [if_neg (by omega)]
    by_cases h : p < (fct i : Int)
    · obtain ⟨q, rfl⟩ : ∃ q : Nat, p = (q : Int) := ⟨p.toNat, by omega⟩
      rw [if_neg (by omega), if_pos h, l1_eq i q _ [] k (WkOrderOfRank.R_len i) (by simpa using hn) (by omega) (by omega)]
      simp
    · rw [if_pos (by omega), if_neg h]
  | succ d ih =>
    intro i k hi hk
    obtain ⟨k, rfl⟩ : ∃ j, k = j + 1 := ⟨k - 1, by omega⟩
    have ih2 := ih (i + 1) k (by omega) (by omega)
    have hf := fct_le i (by omega)
    have hf2 : (i + 1) * fct i ≤ 9 * 40320 := Nat.mul_le_mul (by omega) hf
    have e1 : wrap64 ((fct i : Int) * ((i + 1 : Nat) : Int)) = (fct (i + 1) : Int) := by
      rw [show (fct i : Int) * ((i + 1 : Nat) : Int) = (((i + 1) * fct i : Nat) : Int) by rw [Nat.mul_comm]; exact (Int.natCast_mul _ _).symm]; exact wr (by omega)
    have e2 : wrap64 (((i + 1 : Nat) : Int) + 1) = ((i + 1 + 1 : Nat) : Int) := by
      rw [show ((i + 1 : Nat) : Int) + 1 = ((i + 1 + 1 : Nat) : Int) by omega]; exact wr (by omega)
    simp only [spec_OrderOfRank.l0]
    rw [if_pos (by omega), if_pos (by rw [WkOrderOfRank.R_len]; omega), e1, e2, ← R_up]
    exact ih2
theorem spec_eq (a p : Int) : spec_OrderOfRank.f 40 a p = some (WkOrderOfRank.val a p) := by
  unfold spec_OrderOfRank.f spec_ptBoats.f WkOrderOfRank.val
  rw [in_eq, Option.bind_some, Option.bind_some]
  by_cases h : 1 ≤ a ∧ a ≤ 8
  · rw [decide_eq_true h, if_pos rfl]
    simp only [spec_OrderOfRank.j0]
    by_cases h2 : p < 0
    · rw [if_pos (decide_eq_true h2), if_neg (fun q => by omega)]
    · rw [if_neg (by simpa using h2)]
      obtain ⟨n, rfl⟩ : ∃ n : Nat, a = (n : Int) := ⟨a.toNat, by omega⟩
      have := l0_eq n (by omega) p (by omega) n 0 39 (by omega) (by omega)
      rw [Int.toNat_natCast]
      refine Eq.trans this ?_
      by_cases h3 : p < (fct n : Int)
      · rw [if_pos h3, if_pos ⟨h.1, h.2, by omega, h3⟩]
      · rw [if_neg h3, if_neg (fun q => h3 q.2.2.2)]
  · rw [decide_eq_false h, if_neg (by decide), if_neg (fun q => h ⟨q.1, q.2.1⟩)]
    simp only [spec_OrderOfRank.j0]
    rw [if_pos trivial]
theorem val_len (a p : Int) : (WkOrderOfRank.val a p).1.length ≤ 8 := by
  unfold WkOrderOfRank.val
  split
  · next h => rw [code_len]; omega
  · simp
theorem whole (a p : Int) (w : World) (_ : (Lit.int .i64 a).wf = true) (_ : (Lit.int .i64 p).wf = true) : Calls Try.prog 10 #[.int .i64 a, .int .i64 p] w fun e w' => e = .returned (.bool true) ∧ Below w.heap.size w w' := by
  have hl := val_len a p
  have hS := spec_eq a p
  have hI := fun W => WkOrderOfRank.impl a p W
  generalize WkOrderOfRank.val a p = r at hl hS hI
  obtain ⟨r, b⟩ := r
  replace hl : r.length ≤ 8 := hl
  exact law 40 a p r b _ _ w (fun W => spec_OrderOfRank.calls 40 a p r b W hS) hI (eq_self _ (by omega) _ (by omega)) (mark_ok _ (by omega) _ (by omega)) (held_ok _ (by omega) _ (by omega)) (by omega)
end Go.Proofs.Ytnnedicoapdkkaa.LwOrderOfRank
