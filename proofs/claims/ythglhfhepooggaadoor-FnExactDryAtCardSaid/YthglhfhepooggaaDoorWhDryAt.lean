/- laws.FnExactDryAt answers true for all arguments; nothing that lay before is turned. No condition. -/
import Derived.Test.YthglhfhepooggaaDoorLwDryAt
import Derived.Test.YthglhfhepooggaaDoorWkDryAt
namespace Go.Proofs.YthglhfhepooggaaDoor.LwDryAt
set_option linter.unusedVariables false
set_option linter.unusedSimpArgs false
open Go.RowKit Go.Proofs.YthglhfhepooggaaDoorW.PrintWords Go.Proofs.YthglhfhepooggaaDoorW.PrintLast Go.Proofs.YthglhfhepooggaaDoorW.PrintMore PFnExactDryAt Sh
open WkDryAt
theorem l1In_eq (a lo hi : Int) : spec_l1In.f a lo hi = some (decide (lo ≤ a ∧ a ≤ hi)) := by
  unfold spec_l1In.f
  by_cases h : lo ≤ a
  · rw [if_pos h]; simp [h]
  · rw [if_neg h]; simp [h]
theorem tdText_l0 (s : ByteArray) (hs : s.size ≤ 9223372036854775806) (d : Nat) : ∀ n, n + d = s.size → ∀ k, d < k → spec_tdText.l0 k s (n : Int) = some ((s.data.toList.drop n).all isDig) := by
  induction d with
  | zero =>
    intro n hn k hk
    obtain ⟨k, rfl⟩ : ∃ m, k = m + 1 := ⟨k - 1, by omega⟩
    simp only [spec_tdText.l0]
    rw [if_neg (by omega), List.drop_of_length_le (by rw [size_list]; omega)]; rfl
  | succ d ih =>
    intro n hn k hk
    obtain ⟨k, rfl⟩ : ∃ m, k = m + 1 := ⟨k - 1, by omega⟩
    have hlt : n < s.data.toList.length := by rw [size_list]; omega
    simp only [spec_tdText.l0]
    rw [if_pos (show (n : Int) < (s.size : Int) by omega), if_pos (by omega), bt_list s n (by omega), List.drop_eq_getElem_cons hlt, List.all_cons]
    have hi := isDig_iff (s.data.toList[n]'hlt)
    have hw : wrap64 ((n : Int) + 1) = ((n + 1 : Nat) : Int) := by unfold wrap64; omega
    cases hd : isDig (s.data.toList[n]'hlt) with
    | true =>
      have := hi.mp hd
      rw [if_neg this.1, if_neg this.2, hw, ih (n + 1) (by omega) k (by omega)]; simp
    | false =>
      by_cases c : ((s.data.toList[n]'hlt).toNat : Int) < 48
      · rw [if_pos c]; simp
      · by_cases c' : ((s.data.toList[n]'hlt).toNat : Int) > 57
        · rw [if_neg c, if_pos c']; simp
        · have := hi.mpr ⟨c, c'⟩; rw [hd] at this; cases this
theorem tdText_eq (s : ByteArray) (hs : s.size ≤ 9223372036854775806) (m : Int) (k : Nat) (hk : s.size < k) : spec_tdText.f k s m = some (decide (1 ≤ (s.size : Int) ∧ (s.size : Int) ≤ m) && digs s) := by
  unfold spec_tdText.f
  rw [l1In_eq]
  by_cases h : 1 ≤ (s.size : Int) ∧ (s.size : Int) ≤ m
  · rw [decide_eq_true h]
    have := tdText_l0 s hs s.size 0 (by omega) k hk
    simp only [Option.bind_some, if_true, Bool.true_and]
    simpa [digs] using this
  · rw [decide_eq_false h]; simp
theorem tdGood_eq (s t : ByteArray) (hs : s.size ≤ 9223372036854775806) (ht : t.size ≤ 9223372036854775806) (k : Nat) (h1 : s.size < k) (h2 : t.size < k) : spec_tdGood.f k s t = some (okShore s && okTide t) := by
  unfold spec_tdGood.f
  rw [tdText_eq s hs _ k h1, tdText_eq t ht _ k h2]
  show (some (okShore s)).bind _ = _
  cases okShore s <;> simp [okTide]

theorem dry_eq (s t : ByteArray) (p h : Int) : impl_isDry.f s t p h = spec_tdDry.f s t p h := by
  unfold impl_isDry.f spec_tdDry.f; rfl
/-- Whether a place is dry at an hour. -/
def dryB (s t : ByteArray) (p h : Int) : Bool := decide (p = 0) || decide (p = (s.size : Int) + 1) || decide ((bt s (p - 1)) > (bt t (h % (t.size : Int))))
theorem dry_is (s t : ByteArray) (p h : Int) (hs : s.size ≤ 14) (ht : 1 ≤ t.size ∧ t.size ≤ 12) (hp : 0 ≤ p ∧ p ≤ (s.size : Int) + 1) (hh : 0 ≤ h) : spec_tdDry.f s t p h = some (dryB s t p h) := by
  unfold spec_tdDry.f dryB
  have e1 : wrap64 ((s.size : Int) + 1) = (s.size : Int) + 1 := by unfold wrap64; omega
  have e2 : wrap64 (p - 1) = p - 1 := by unfold wrap64; omega
  have e3 : Int.tmod h (t.size : Int) = h % (t.size : Int) := Int.tmod_eq_emod_of_nonneg hh
  have e4 : 0 ≤ h % (t.size : Int) ∧ h % (t.size : Int) < (t.size : Int) := ⟨Int.emod_nonneg _ (by omega), Int.emod_lt_of_pos _ (by omega)⟩
  rw [e1, e2, e3]
  by_cases c0 : p = 0
  · rw [if_pos c0]; simp [c0]
  · rw [if_neg c0]
    by_cases c1 : p = (s.size : Int) + 1
    · rw [if_pos c1]; simp [c1]
    · rw [if_neg c1, if_pos (by omega), if_pos (by omega), if_neg (by omega), if_pos e4.1, if_pos e4.2]
      simp [c0, c1]

def dk (s t : ByteArray) (h : Int) (k : Nat) : Bool := dryB s t ((k : Int) + 1) h
theorem row_succ (n : Nat) (D : Nat → Bool) : row (n + 1) D = row n D ++ [if D n = true then 111 else 46] := by simp [row, List.range_succ]
theorem dry_l0 (s t : ByteArray) (h : Int) (hs : 1 ≤ s.size ∧ s.size ≤ 14) (ht : 1 ≤ t.size ∧ t.size ≤ 12) (hh : 0 ≤ h) (d : Nat) : ∀ (i k : Nat), i + d = s.size → d < k → spec_DryAt.l0 k s t h ⟨(row i (dk s t h)).toArray⟩ ((i + 1 : Nat) : Int) = some (⟨(row s.size (dk s t h)).toArray⟩, true) := by
  induction d with
  | zero =>
    intro i k hi hk
    obtain ⟨k, rfl⟩ : ∃ m, k = m + 1 := ⟨k - 1, by omega⟩
    obtain rfl : i = s.size := by omega
    simp only [spec_DryAt.l0]
    rw [if_neg (by omega)]
  | succ d ih =>
    intro i k hi hk
    obtain ⟨k, rfl⟩ : ∃ m, k = m + 1 := ⟨k - 1, by omega⟩
    have ih2 := ih (i + 1) k (by omega) (by omega)
    have e1 := dry_is s t ((i : Int) + 1) h hs.2 ht (by omega) hh
    have hlen : (⟨(row i (dk s t h)).toArray⟩ : ByteArray).size = i := by show (row i (dk s t h)).toArray.size = i; simp [row]
    rw [row_succ] at ih2
    simp only [spec_DryAt.l0]
    rw [if_pos (by omega), show (((i + 1 : Nat) : Int)) = (i : Int) + 1 by omega, e1, Option.bind_some, show wrap64 ((i : Int) + 1 + 1) = ((i + 1 + 1 : Nat) : Int) by unfold wrap64; omega, hlen]
    cases hd : dk s t h i with
    | true =>
      rw [hd] at ih2
      have hd2 : dryB s t ((i : Int) + 1) h = true := hd
      rw [hd2, if_pos rfl, if_pos (by omega)]
      rw [if_pos rfl] at ih2
      rw [← ih2]
      congr 1
    | false =>
      rw [hd] at ih2
      have hd2 : dryB s t ((i : Int) + 1) h = false := hd
      rw [hd2, if_neg (by decide), if_pos (by omega)]
      rw [if_neg (by decide)] at ih2
      rw [← ih2]
      congr 1
theorem spec_eq (s t : ByteArray) (h : Int) (hs : s.size ≤ 9223372036854775806) (ht : t.size ≤ 9223372036854775806) : spec_DryAt.f (s.size + t.size + 20) s t h = some (val s t h (dk s t h)) := by
  unfold spec_DryAt.f val
  rw [tdGood_eq s t hs ht _ (by omega) (by omega), Option.bind_some]
  cases ho : (okShore s && okTide t) with
  | false => rw [if_neg (by decide), if_neg (by simp)]; simp only [spec_DryAt.j0]; rw [if_pos trivial]
  | true =>
    have h1 := okShore_size (Bool.and_eq_true _ _ |>.mp ho).1
    have h2 := okTide_size (Bool.and_eq_true _ _ |>.mp ho).2
    rw [if_pos rfl]
    unfold spec_tdHour.f
    rw [l1In_eq, Option.bind_some, Option.bind_some]
    by_cases hh : 0 ≤ h ∧ h ≤ 1000
    · rw [decide_eq_true hh, if_pos ⟨rfl, hh⟩]
      simp only [spec_DryAt.j0]
      rw [if_neg (by decide)]
      exact dry_l0 s t h h1 h2 hh.1 s.size 0 _ (by omega) (by omega)
    · rw [decide_eq_false hh, if_neg (fun q => hh q.2)]
      simp only [spec_DryAt.j0]
      rw [if_pos (by decide)]
theorem whole (s t : ByteArray) (h : Int) (w : World) (hs : s.size ≤ 140737488351232) (ht : t.size ≤ 140737488351232) (_ : (Lit.int .i64 h).wf = true) : Calls Tryd.prog 9 #[.string s, .string t, .int .i64 h] w fun e w' => e = .returned (.bool true) ∧ Below w.heap.size w w' := by
  refine law (s.size + t.size + 20) s t h _ _ w hs ht (fun W => ?_) (fun W => WkDryAt.impl s t h (dk s t h) W hs ht (fun ho h0 _ k hk => ?_))
  · refine (spec_DryAt.calls (s.size + t.size + 20) s t h _ _ W (spec_eq s t h (by omega) (by omega))).mono ?_
    rintro e w' ⟨rfl, ⟨nd, rfl⟩⟩
    exact ⟨rfl, pw_below_drewN (Below.refl _ _) nd⟩
  · have h1 := okShore_size (Bool.and_eq_true _ _ |>.mp ho).1
    have h2 := okTide_size (Bool.and_eq_true _ _ |>.mp ho).2
    rw [dry_eq]
    exact dry_is s t ((k : Int) + 1) h h1.2 h2 (by omega) h0
end Go.Proofs.YthglhfhepooggaaDoor.LwDryAt
