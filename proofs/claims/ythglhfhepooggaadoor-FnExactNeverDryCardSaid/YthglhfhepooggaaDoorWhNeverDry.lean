/- laws.FnExactNeverDry answers true for all arguments; nothing that lay before is turned. No condition. -/
import Derived.Test.YthglhfhepooggaaDoorLwNeverDry
import Derived.Test.YthglhfhepooggaaDoorWkNeverDry
namespace Go.Proofs.YthglhfhepooggaaDoor.LwNeverDry
set_option linter.unusedVariables false
set_option linter.unusedSimpArgs false
open Go.RowKit Go.Proofs.YthglhfhepooggaaDoorW.PrintWords Go.Proofs.YthglhfhepooggaaDoorW.PrintLast Go.Proofs.YthglhfhepooggaaDoorW.PrintMore PFnExactNeverDry Sh
theorem l1In_eq (a lo hi : Int) : spec_l1In.f a lo hi = some (decide (lo ≤ a ∧ a ≤ hi)) := by
  unfold spec_l1In.f
  by_cases h : lo ≤ a
  · rw [if_pos h]; simp [h]
  · rw [if_neg h]; simp [h]
theorem tdText_l0 (s : ByteArray) (hs : s.size ≤ 9223372036854775806) (d : Nat) : ∀ n, n + d = s.size → ∀ k, d < k → spec_tdText.l0 k s (n : Int) = some ((s.data.toList.drop n).all isDig) := by
  induction d with
  | zero =>
    intro n hn k hk
    obtain ⟨k, rfl⟩ : ∃ m, k = m + 1 := ⟨k - 1, by omega⟩
    simp only [spec_tdText.l0]
    rw [if_neg (by omega), List.drop_of_length_le (by rw [size_list]; omega)]; rfl
  | succ d ih =>
    intro n hn k hk
    obtain ⟨k, rfl⟩ : ∃ m, k = m + 1 := ⟨k - 1, by omega⟩
    have hlt : n < s.data.toList.length := by rw [size_list]; omega
    simp only [spec_tdText.l0]
    rw [if_pos (show (n : Int) < (s.size : Int) by omega), if_pos (by omega), bt_list s n (by omega), List.drop_eq_getElem_cons hlt, List.all_cons]
    have hi := isDig_iff (s.data.toList[n]'hlt)
    have hw : wrap64 ((n : Int) + 1) = ((n + 1 : Nat) : Int) := by unfold wrap64; omega
    cases hd : isDig (s.data.toList[n]'hlt) with
    | true =>
      have := hi.mp hd
      rw [if_neg this.1, if_neg this.2, hw, ih (n + 1) (by omega) k (by omega)]; simp
    | false =>
      by_cases c : ((s.data.toList[n]'hlt).toNat : Int) < 48
      · rw [if_pos c]; simp
      · by_cases c' : ((s.data.toList[n]'hlt).toNat : Int) > 57
        · rw [if_neg c, if_pos c']; simp
        · have := hi.mpr ⟨c, c'⟩; rw [hd] at this; cases this
theorem tdText_eq (s : ByteArray) (hs : s.size ≤ 9223372036854775806) (m : Int) (k : Nat) (hk : s.size < k) : spec_tdText.f k s m = some (decide (1 ≤ (s.size : Int) ∧ (s.size : Int) ≤ m) && digs s) := by
  unfold spec_tdText.f
  rw [l1In_eq]
  by_cases h : 1 ≤ (s.size : Int) ∧ (s.size : Int) ≤ m
  · rw [decide_eq_true h]
    have := tdText_l0 s hs s.size 0 (by omega) k hk
    simp only [Option.bind_some, if_true, Bool.true_and]
    simpa [digs] using this
  · rw [decide_eq_false h]; simp
theorem tdGood_eq (s t : ByteArray) (hs : s.size ≤ 9223372036854775806) (ht : t.size ≤ 9223372036854775806) (k : Nat) (h1 : s.size < k) (h2 : t.size < k) : spec_tdGood.f k s t = some (okShore s && okTide t) := by
  unfold spec_tdGood.f
  rw [tdText_eq s hs _ k h1, tdText_eq t ht _ k h2]
  show (some (okShore s)).bind _ = _
  cases okShore s <;> simp [okTide]
def R (n : Nat) : List Int := (List.range n).map fun j => ((j + 1 : Nat) : Int)
theorem R_len (n : Nat) : (R n).length = n := by simp [R]
theorem R_succ (n : Nat) : R (n + 1) = R n ++ [((n + 1 : Nat) : Int)] := by simp [R, List.range_succ]
theorem R_rd {n i : Nat} (h : i < n) : rd (R n) (i : Int) = ((i + 1 : Nat) : Int) := by
  unfold rd R
  rw [List.getD_eq_getElem?_getD, show ((i : Int)).toNat = i by omega, List.getElem?_map, List.getElem?_range h]
  rfl
theorem eq_l0 (l : List Int) (hl : l.length ≤ 1099511627776) (d : Nat) : ∀ i, i + d = l.length → ∀ k, d < k → laws_eqIntS.l0 k l l (i : Int) = some true := by
  induction d with
  | zero =>
    intro i hi k hk
    obtain ⟨k, rfl⟩ : ∃ m, k = m + 1 := ⟨k - 1, by omega⟩
    simp only [laws_eqIntS.l0]; rw [if_neg (by omega)]
  | succ d ih =>
    intro i hi k hk
    obtain ⟨k, rfl⟩ : ∃ m, k = m + 1 := ⟨k - 1, by omega⟩
    simp only [laws_eqIntS.l0]
    rw [if_pos (by omega), if_pos (by omega), if_pos (by omega), if_pos trivial, show wrap64 ((i : Int) + 1) = ((i + 1 : Nat) : Int) by unfold wrap64; omega]
    exact ih (i + 1) (by omega) k (by omega)
theorem eq_self (l : List Int) (hl : l.length ≤ 1099511627776) (k : Nat) (hk : l.length < k) : laws_eqIntS.f k l l = some true := by
  unfold laws_eqIntS.f
  rw [if_pos rfl]; exact eq_l0 l hl l.length 0 (by omega) k hk
theorem mark_l0 : ∀ (y : List Int) (i k : Nat), y.length < k → i + y.length ≤ 1099511627776 → laws_markIntS.l0 k (R i ++ y) ((i + 1 : Nat) : Int) (i : Int) = some (((i + y.length + 1 : Nat) : Int), R (i + y.length))
  | [], i, k, hk, hl => by
    obtain ⟨k, rfl⟩ : ∃ m, k = m + 1 := ⟨k - 1, by simp at hk; omega⟩
    simp only [laws_markIntS.l0]
    rw [if_neg (by simp [R_len])]; simp
  | a :: y, i, k, hk, hl => by
    simp only [List.length_cons] at hk hl
    obtain ⟨k, rfl⟩ : ∃ m, k = m + 1 := ⟨k - 1, by omega⟩
    simp only [laws_markIntS.l0]
    rw [if_pos (by simp [R_len]; omega), if_pos (by omega), show wrap64 (((i + 1 : Nat) : Int) + 1) = ((i + 1 + 1 : Nat) : Int) by unfold wrap64; omega, show wrap64 ((i : Int) + 1) = ((i + 1 : Nat) : Int) by unfold wrap64; omega]
    have e : (R i ++ a :: y).set ((i : Int)).toNat ((i + 1 : Nat) : Int) = R (i + 1) ++ y := by
      rw [show ((i : Int)).toNat = i by omega, List.set_append_right _ _ (by rw [R_len]; omega), R_len, R_succ]; simp
    rw [e, mark_l0 y (i + 1) k (by omega) (by omega)]
    simp only [List.length_cons]
    rw [show i + 1 + y.length = i + (y.length + 1) by omega]
theorem held_l0 (n : Nat) (hn : n ≤ 1099511627776) (d : Nat) : ∀ i, i + d = n → ∀ k, d < k → laws_heldIntS.l0 k (R n) ((i + 1 : Nat) : Int) (i : Int) = some ((n + 1 : Nat) : Int) := by
  induction d with
  | zero =>
    intro i hi k hk
    obtain ⟨k, rfl⟩ : ∃ m, k = m + 1 := ⟨k - 1, by omega⟩
    simp only [laws_heldIntS.l0]; rw [if_neg (by rw [R_len]; omega)]
    rw [show i = n by omega]
  | succ d ih =>
    intro i hi k hk
    obtain ⟨k, rfl⟩ : ∃ m, k = m + 1 := ⟨k - 1, by omega⟩
    simp only [laws_heldIntS.l0]
    rw [if_pos (by rw [R_len]; omega), if_pos (by omega), R_rd (by omega), if_pos rfl, show wrap64 (((i + 1 : Nat) : Int) + 1) = ((i + 1 + 1 : Nat) : Int) by unfold wrap64; omega, show wrap64 ((i : Int) + 1) = ((i + 1 : Nat) : Int) by unfold wrap64; omega]
    exact ih (i + 1) (by omega) k (by omega)
theorem mark_ok (l : List Int) (hl : l.length ≤ 1099511627776) (k : Nat) (hk : l.length < k) : laws_markIntS.f k l 1 = some (((l.length + 1 : Nat) : Int), R l.length) := by
  unfold laws_markIntS.f
  have := mark_l0 l 0 k hk (by omega)
  simpa [R] using this
theorem held_ok (n : Nat) (hn : n ≤ 1099511627776) (k : Nat) (hk : n < k) : laws_heldIntS.f k (R n) 1 = some ((n + 1 : Nat) : Int) := by
  unfold laws_heldIntS.f
  have := held_l0 n hn n 0 (by omega) k hk
  simpa using this

theorem dry_eq (s t : ByteArray) (p h : Int) : impl_isDry.f s t p h = spec_tdDry.f s t p h := by
  unfold impl_isDry.f spec_tdDry.f; rfl
/-- Whether a place is dry at an hour. -/
def dryB (s t : ByteArray) (p h : Int) : Bool := decide (p = 0) || decide (p = (s.size : Int) + 1) || decide ((bt s (p - 1)) > (bt t (h % (t.size : Int))))
theorem dry_is (s t : ByteArray) (p h : Int) (hs : s.size ≤ 14) (ht : 1 ≤ t.size ∧ t.size ≤ 12) (hp : 0 ≤ p ∧ p ≤ (s.size : Int) + 1) (hh : 0 ≤ h) : spec_tdDry.f s t p h = some (dryB s t p h) := by
  unfold spec_tdDry.f dryB
  have e1 : wrap64 ((s.size : Int) + 1) = (s.size : Int) + 1 := by unfold wrap64; omega
  have e2 : wrap64 (p - 1) = p - 1 := by unfold wrap64; omega
  have e3 : Int.tmod h (t.size : Int) = h % (t.size : Int) := Int.tmod_eq_emod_of_nonneg hh
  have e4 : 0 ≤ h % (t.size : Int) ∧ h % (t.size : Int) < (t.size : Int) := ⟨Int.emod_nonneg _ (by omega), Int.emod_lt_of_pos _ (by omega)⟩
  rw [e1, e2, e3]
  by_cases c0 : p = 0
  · rw [if_pos c0]; simp [c0]
  · rw [if_neg c0]
    by_cases c1 : p = (s.size : Int) + 1
    · rw [if_pos c1]; simp [c1]
    · rw [if_neg c1, if_pos (by omega), if_pos (by omega), if_neg (by omega), if_pos e4.1, if_pos e4.2]
      simp [c0, c1]

/-- The hours of one tide at which a place is dry, from an hour on. -/
theorem hours_l0 (s t : ByteArray) (p : Int) (hs : s.size ≤ 14) (ht : 1 ≤ t.size ∧ t.size ≤ 12) (hp : 0 ≤ p ∧ p ≤ (s.size : Int) + 1) (d : Nat) : ∀ (i : Nat) (acc : List Int), i + d = t.size → acc.length ≤ i → ∃ l, l.length ≤ t.size ∧ ∀ k, d < k →
    spec_tdHours.l0 k s t p acc (i : Int) = some l ∧ impl_dryHours.l0 k s t p acc (t.size : Int) (i : Int) = some l := by
  induction d with
  | zero =>
    intro i acc hi ha
    refine ⟨acc, by omega, fun k hk => ?_⟩
    obtain ⟨k, rfl⟩ : ∃ m, k = m + 1 := ⟨k - 1, by omega⟩
    simp only [spec_tdHours.l0, impl_dryHours.l0]
    rw [if_neg (by omega), if_neg (by omega)]; exact ⟨rfl, rfl⟩
  | succ d ih =>
    intro i acc hi ha
    have hw : wrap64 ((i : Int) + 1) = ((i + 1 : Nat) : Int) := by unfold wrap64; omega
    obtain ⟨l1, a1, b1⟩ := ih (i + 1) (acc ++ [(i : Int)]) (by omega) (by simp; omega)
    obtain ⟨l2, a2, b2⟩ := ih (i + 1) acc (by omega) (by omega)
    refine ⟨if dryB s t p (i : Int) = true then l1 else l2, by split <;> assumption, fun k hk => ?_⟩
    obtain ⟨k, rfl⟩ : ∃ m, k = m + 1 := ⟨k - 1, by omega⟩
    have ci : (i : Int) < (t.size : Int) := by omega
    simp only [spec_tdHours.l0, impl_dryHours.l0, if_pos ci]
    rw [dry_eq, dry_is s t p (i : Int) hs ht hp (by omega)]
    simp only [Option.bind_some]
    cases dryB s t p (i : Int) with
    | true => simp only [if_true]; rw [if_pos (by omega), if_pos (by omega), hw]; exact b1 k (by omega)
    | false => simp only [Bool.false_eq_true, if_false]; rw [hw]; exact b2 k (by omega)
theorem hours_ok (s t : ByteArray) (p : Int) (hs : s.size ≤ 14) (ht : 1 ≤ t.size ∧ t.size ≤ 12) (hp : 0 ≤ p ∧ p ≤ (s.size : Int) + 1) : ∃ l, l.length ≤ t.size ∧ ∀ k, t.size < k → spec_tdHours.f k s t p = some l ∧ impl_dryHours.f k s t p = some l := by
  obtain ⟨l, a, b⟩ := hours_l0 s t p hs ht hp t.size 0 [] (by omega) (by simp)
  refine ⟨l, a, fun k hk => ?_⟩
  have := b k hk
  unfold spec_tdHours.f impl_dryHours.f
  exact ⟨by simpa using this.1, by simpa using this.2⟩

theorem hours_same (s t : ByteArray) (p : Int) : ∀ k acc i, impl_dryHours.l0 k s t p acc (t.size : Int) i = spec_tdHours.l0 k s t p acc i
  | 0, _, _ => by simp only [impl_dryHours.l0, spec_tdHours.l0]
  | k + 1, acc, i => by simp only [impl_dryHours.l0, spec_tdHours.l0, dry_eq, hours_same s t p k]
theorem stones_same (s t : ByteArray) (h : Int) : ∀ k acc i, impl_stonesDry.l0 k s t h acc i = spec_tdBy.l0 k s t h acc i
  | 0, _, _ => by simp only [impl_stonesDry.l0, spec_tdBy.l0]
  | k + 1, acc, i => by simp only [impl_stonesDry.l0, spec_tdBy.l0, stones_same s t h k, impl_dryHours.f, spec_tdHours.f, hours_same]
theorem by_l0 (s t : ByteArray) (h : Int) (hs : s.size ≤ 14) (ht : 1 ≤ t.size ∧ t.size ≤ 12) (d : Nat) : ∀ (i : Nat) (acc : List Int), i + d = s.size → acc.length ≤ i → ∃ l, l.length ≤ s.size ∧ ∀ k, d + t.size + 1 < k → spec_tdBy.l0 k s t h acc ((i + 1 : Nat) : Int) = some l := by
  induction d with
  | zero =>
    intro i acc hi ha
    refine ⟨acc, by omega, fun k hk => ?_⟩
    obtain ⟨k, rfl⟩ : ∃ m, k = m + 1 := ⟨k - 1, by omega⟩
    simp only [spec_tdBy.l0]
    rw [if_neg (by omega)]
  | succ d ih =>
    intro i acc hi ha
    have hw : wrap64 (((i + 1 : Nat) : Int) + 1) = ((i + 1 + 1 : Nat) : Int) := by unfold wrap64; omega
    have hw2 : wrap64 (((i + 1 : Nat) : Int) - 1) = (i : Int) := by unfold wrap64; omega
    obtain ⟨l1, a1, b1⟩ := ih (i + 1) (acc ++ [((i + 1 : Nat) : Int)]) (by omega) (by simp; omega)
    obtain ⟨l2, a2, b2⟩ := ih (i + 1) acc (by omega) (by omega)
    obtain ⟨hl, _, hh⟩ := hours_ok s t ((i + 1 : Nat) : Int) hs ht (by omega)
    have c1 : ((i + 1 : Nat) : Int) ≤ (s.size : Int) := by omega
    refine ⟨if bt s (i : Int) > 48 then (if (hl.length : Int) = h then l1 else l2) else l2, ?_, fun k hk => ?_⟩
    · split
      · split
        · exact a1
        · exact a2
      · exact a2
    obtain ⟨k, rfl⟩ : ∃ m, k = m + 1 := ⟨k - 1, by omega⟩
    simp only [spec_tdBy.l0, if_pos c1, hw2]
    rw [if_pos (by omega), if_pos (by omega), hw, (hh k (by omega)).1]
    simp only [Option.bind_some]
    by_cases c : bt s (i : Int) > 48
    · rw [if_pos c, if_pos c]
      by_cases c2 : (hl.length : Int) = h
      · rw [if_pos c2, if_pos c2, if_pos (by omega)]; exact b1 k (by omega)
      · rw [if_neg c2, if_neg c2]; exact b2 k (by omega)
    · rw [if_neg c, if_neg c]; exact b2 k (by omega)
theorem stones_ok (s t : ByteArray) (h : Int) (hs : s.size ≤ 14) (ht : 1 ≤ t.size ∧ t.size ≤ 12) : ∃ l, l.length ≤ s.size ∧ ∀ k, 40 < k → spec_tdBy.f k s t h = some l ∧ impl_stonesDry.f k s t h = some l := by
  obtain ⟨l, a, b⟩ := by_l0 s t h hs ht s.size 0 [] (by omega) (by simp)
  refine ⟨l, a, fun k hk => ?_⟩
  have := b k (by omega)
  unfold spec_tdBy.f impl_stonesDry.f
  rw [stones_same]
  exact ⟨this, this⟩

theorem both (s t : ByteArray) (hs : s.size ≤ 9223372036854775806) (ht : t.size ≤ 9223372036854775806) : ∃ (r : List Int) (b : Bool), r.length ≤ 64 ∧ spec_NeverDry.f (s.size + t.size + 200) s t = some (r, b) ∧ ((b = true ∧ okShore s = true ∧ okTide t = true ∧ impl_stonesDry.f (s.size + t.size + 200) s t 0 = some r) ∨ (b = false ∧ r = [] ∧ ¬ (okShore s = true ∧ okTide t = true))) := by
  unfold spec_NeverDry.f
  rw [tdGood_eq s t hs ht _ (by omega) (by omega), Option.bind_some]
  cases hg : (okShore s && okTide t) with
  | false => exact ⟨[], false, by simp, by rw [if_neg (by decide)], Or.inr ⟨rfl, rfl, fun q => by rw [q.1, q.2] at hg; cases hg⟩⟩
  | true =>
    have hg' := Bool.and_eq_true _ _ |>.mp hg
    have z1 := okShore_size hg'.1
    have z2 := okTide_size hg'.2
    obtain ⟨l, hl, hh⟩ := stones_ok s t 0 z1.2 z2
    have := hh (s.size + t.size + 200) (by omega)
    refine ⟨l, true, by omega, ?_, Or.inl ⟨rfl, hg'.1, hg'.2, this.2⟩⟩
    rw [if_pos rfl, this.1, Option.bind_some]
theorem whole (s t : ByteArray) (w : World) (hs : s.size ≤ 140737488351232) (ht : t.size ≤ 140737488351232) : Calls Tryd.prog 12 #[.string s, .string t] w fun e w' => e = .returned (.bool true) ∧ Below w.heap.size w w' := by
  obtain ⟨r, b, hr, h1, h2⟩ := both s t (by omega) (by omega)
  exact law (s.size + t.size + 200) s t r b _ _ w hs ht (fun W => spec_NeverDry.calls (s.size + t.size + 200) s t r b W h1) (fun W => WkNeverDry.impl (s.size + t.size + 200) s t r b W hs ht h2) (eq_self r (by omega) _ (by omega)) (mark_ok r (by omega) _ (by omega)) (held_ok r.length (by omega) _ (by omega)) (by omega)
end Go.Proofs.YthglhfhepooggaaDoor.LwNeverDry
