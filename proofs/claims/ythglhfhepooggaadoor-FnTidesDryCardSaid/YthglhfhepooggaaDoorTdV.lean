/- The functions of tides at this program, impl and spec alike, with what they give told outright. Condition: the texts lie within the reach. -/
import Derived.Test.YthglhfhepooggaaDoorRiver
import Derived.Test.YthglhfhepooggaaDoorPFnExactAlwaysDryx3
import Derived.Test.YthglhfhepooggaaDoorWkDryAt
import Derived.Test.YthglhfhepooggaaDoorWkRaiseStone
import Derived.Test.YthglhfhepooggaaDoorWkTurnTide
import Derived.Test.YthglhfhepooggaaDoorWkHighestHour
import Derived.Test.YthglhfhepooggaaDoorWkMirrorShore
import Derived.Test.YthglhfhepooggaaDoorPFnTidesDryx1
import Derived.Test.YthglhfhepooggaaDoorPFnExactDryAtx2
import Derived.Test.YthglhfhepooggaaDoorPFnExactHighestHourx1
namespace Go.Proofs.YthglhfhepooggaaDoor.Td
set_option linter.unusedVariables false
set_option linter.unusedSimpArgs false
open Go.RowKit Go.Proofs.YthglhfhepooggaaDoorW.PrintWords Go.Proofs.YthglhfhepooggaaDoorW.PrintLast Go.Proofs.YthglhfhepooggaaDoorW.PrintMore Sh 
/-- Whether a place is dry at an hour. -/
def dryB (s t : ByteArray) (p h : Int) : Bool := decide (p = 0) || decide (p = (s.size : Int) + 1) || decide ((bt s (p - 1)) > (bt t (h % (t.size : Int))))
def hoursFrom (s t : ByteArray) (p : Int) (i d : Nat) : List Int := ((List.range' i d).filter fun h => dryB s t p ((h : Nat) : Int)).map fun n => ((n : Nat) : Int)
/-- The hours of one tide at which a place is dry. -/
def hoursL (s t : ByteArray) (p : Int) : List Int := hoursFrom s t p 0 t.size
def stoneB (s t : ByteArray) (n : Int) (i : Nat) : Bool := decide (bt s (i : Int) > 48) && decide (((hoursL s t ((i + 1 : Nat) : Int)).length : Int) = n)
def stonesFrom (s t : ByteArray) (n : Int) (i d : Nat) : List Int := ((List.range' i d).filter fun h => stoneB s t n h).map fun n => ((n + 1 : Nat) : Int)
/-- The places of the stones that are dry at so many hours. -/
def stonesL (s t : ByteArray) (n : Int) : List Int := stonesFrom s t n 0 s.size
def alwV (s t : ByteArray) (n : Int) : List Int × Bool := if (okShore s && okTide t) = true then (stonesL s t n, true) else ([], false)
def hrsV (s t : ByteArray) (p : Int) : List Int × Bool := if (okShore s && okTide t) = true ∧ 1 ≤ p ∧ p ≤ (s.size : Int) then (hoursL s t p, true) else ([], false)
theorem hoursFrom_succ (s t : ByteArray) (p : Int) (i d : Nat) : hoursFrom s t p i (d + 1) = (if dryB s t p ((i : Nat) : Int) = true then [((i : Nat) : Int)] else []) ++ hoursFrom s t p (i + 1) d := by
  unfold hoursFrom
  rw [List.range'_succ, List.filter_cons]
  split <;> simp
theorem stonesFrom_succ (s t : ByteArray) (n : Int) (i d : Nat) : stonesFrom s t n i (d + 1) = (if stoneB s t n i = true then [((i + 1 : Nat) : Int)] else []) ++ stonesFrom s t n (i + 1) d := by
  unfold stonesFrom
  rw [List.range'_succ, List.filter_cons]
  split <;> simp
theorem hoursFrom_len (s t : ByteArray) (p : Int) (i d : Nat) : (hoursFrom s t p i d).length ≤ d := by
  unfold hoursFrom
  rw [List.length_map]
  exact Nat.le_trans (List.length_filter_le _ _) (by simp)
theorem stonesFrom_len (s t : ByteArray) (n : Int) (i d : Nat) : (stonesFrom s t n i d).length ≤ d := by
  unfold stonesFrom
  rw [List.length_map]
  exact Nat.le_trans (List.length_filter_le _ _) (by simp)
end Go.Proofs.YthglhfhepooggaaDoor.Td
namespace Go.Proofs.YthglhfhepooggaaDoor.TdT
set_option linter.unusedVariables false
set_option linter.unusedSimpArgs false
open Go.RowKit Go.Proofs.YthglhfhepooggaaDoorW.PrintWords Go.Proofs.YthglhfhepooggaaDoorW.PrintLast Go.Proofs.YthglhfhepooggaaDoorW.PrintMore Sh PFnTidesDry Td
theorem l1In_eq (a lo hi : Int) : spec_l1In.f a lo hi = some (decide (lo ≤ a ∧ a ≤ hi)) := by
  unfold spec_l1In.f
  by_cases h : lo ≤ a
  · rw [if_pos h]; simp [h]
  · rw [if_neg h]; simp [h]
theorem tdText_l0 (s : ByteArray) (hs : s.size ≤ 9223372036854775806) (d : Nat) : ∀ n, n + d = s.size → ∀ k, d < k → spec_tdText.l0 k s (n : Int) = some ((s.data.toList.drop n).all isDig) := by
  induction d with
  | zero =>
    intro n hn k hk
    obtain ⟨k, rfl⟩ : ∃ m, k = m + 1 := ⟨k - 1, by omega⟩
    simp only [spec_tdText.l0]
    rw [if_neg (by omega), List.drop_of_length_le (by rw [size_list]; omega)]; rfl
  | succ d ih =>
    intro n hn k hk
    obtain ⟨k, rfl⟩ : ∃ m, k = m + 1 := ⟨k - 1, by omega⟩
    have hlt : n < s.data.toList.length := by rw [size_list]; omega
    simp only [spec_tdText.l0]
    rw [if_pos (show (n : Int) < (s.size : Int) by omega), if_pos (by omega), bt_list s n (by omega), List.drop_eq_getElem_cons hlt, List.all_cons]
    have hi := isDig_iff (s.data.toList[n]'hlt)
    have hw : wrap64 ((n : Int) + 1) = ((n + 1 : Nat) : Int) := by unfold wrap64; omega
    cases hd : isDig (s.data.toList[n]'hlt) with
    | true =>
      have := hi.mp hd
      rw [if_neg this.1, if_neg this.2, hw, ih (n + 1) (by omega) k (by omega)]; simp
    | false =>
      by_cases c : ((s.data.toList[n]'hlt).toNat : Int) < 48
      · rw [if_pos c]; simp
      · by_cases c' : ((s.data.toList[n]'hlt).toNat : Int) > 57
        · rw [if_neg c, if_pos c']; simp
        · have := hi.mpr ⟨c, c'⟩; rw [hd] at this; cases this
theorem tdText_eq (s : ByteArray) (hs : s.size ≤ 9223372036854775806) (m : Int) (k : Nat) (hk : s.size < k) : spec_tdText.f k s m = some (decide (1 ≤ (s.size : Int) ∧ (s.size : Int) ≤ m) && digs s) := by
  unfold spec_tdText.f
  rw [l1In_eq]
  by_cases h : 1 ≤ (s.size : Int) ∧ (s.size : Int) ≤ m
  · rw [decide_eq_true h]
    have := tdText_l0 s hs s.size 0 (by omega) k hk
    simp only [Option.bind_some, if_true, Bool.true_and]
    simpa [digs] using this
  · rw [decide_eq_false h]; simp
theorem turn_eq (s : ByteArray) (a : Int) (hs : s.size ≤ 9223372036854775806) : spec_TurnTide.f (s.size + 1) s a = some (WkTurnTide.val s a) := by
  unfold spec_TurnTide.f WkTurnTide.val
  rw [tdText_eq s hs _ _ (by omega)]
  show (some (okTide s)).bind _ = _
  rw [Option.bind_some]
  cases h : okTide s with
  | false => rw [if_neg (by decide), if_neg (by simp)]
  | true =>
    have hz := okTide_size h
    rw [if_pos rfl, l1In_eq, Option.bind_some, show wrap64 ((s.size : Int) - 1) = (s.size : Int) - 1 by unfold wrap64; omega]
    by_cases h2 : 0 ≤ a ∧ a ≤ (s.size : Int) - 1
    · rw [decide_eq_true h2, if_pos rfl, if_pos (by omega), if_pos (by omega), if_pos (by rw [ByteArray.size_extract, ByteArray.size_extract]; omega), if_pos ⟨rfl, h2⟩]
    · rw [decide_eq_false h2, if_neg (by decide), if_neg (fun h => h2 h.2)]
theorem ext_list {a b : ByteArray} (h : a.data.toList = b.data.toList) : a = b := by
  cases a; cases b
  simp at h
  rw [h]
theorem one_at (s : ByteArray) (i : Nat) (h : i < s.size) : (s.extract i (i + 1)).data.toList = [s.data.toList[i]'(by rw [size_list]; exact h)] := by
  have h2 : i < s.data.toList.length := by rw [size_list]; exact h
  simp only [ByteArray.data_extract, Array.toList_extract, List.extract_eq_take_drop]
  rw [List.drop_eq_getElem_cons h2]
  simp
theorem mirror_l0 (s : ByteArray) (hs : s.size ≤ 14) : ∀ (i k : Nat) (out : ByteArray), i ≤ s.size → i < k → out.size + i ≤ 14 → spec_MirrorShore.l0 k s out ((i : Int) - 1) = some (⟨(out.data.toList ++ (s.data.toList.take i).reverse).toArray⟩, true)
  | 0, k, out, hi, hk, ho => by
    obtain ⟨k, rfl⟩ : ∃ m, k = m + 1 := ⟨k - 1, by omega⟩
    simp only [spec_MirrorShore.l0]
    rw [if_neg (by omega)]
    simp
  | i + 1, k, out, hi, hk, ho => by
    obtain ⟨k, rfl⟩ : ∃ m, k = m + 1 := ⟨k - 1, by omega⟩
    have e1 : (((i + 1 : Nat) : Int) - 1) = (i : Int) := by omega
    have e2 : wrap64 ((i : Int) + 1) = ((i + 1 : Nat) : Int) := by unfold wrap64; omega
    have e3 : wrap64 ((i : Int) - 1) = (i : Int) - 1 := by unfold wrap64; omega
    have hsz : (s.extract i (i + 1)).size = 1 := by rw [ByteArray.size_extract]; omega
    simp only [spec_MirrorShore.l0]
    rw [e1, e2, e3, show ((i : Int)).toNat = i by omega, show (((i + 1 : Nat) : Int)).toNat = i + 1 by omega, if_pos (by omega), if_pos (by omega), if_pos (by omega), if_pos (by omega), if_pos (by rw [hsz]; omega)]
    rw [mirror_l0 s hs i k (out ++ s.extract i (i + 1)) (by omega) (by omega) (by rw [ByteArray.size_append, hsz]; omega)]
    congr 2
    apply ext_list
    have h2 : i < s.data.toList.length := by rw [size_list]; omega
    simp only [ByteArray.data_append, Array.toList_append]
    rw [one_at s i (by omega), List.take_succ_eq_append_getElem h2, List.reverse_append]
    simp only [List.reverse_cons, List.reverse_nil, List.nil_append, List.append_assoc, List.cons_append]
theorem mirror_eq (s : ByteArray) (hs : s.size ≤ 9223372036854775806) : spec_MirrorShore.f (s.size + 20) s = some (WkMirrorShore.val s) := by
  unfold spec_MirrorShore.f WkMirrorShore.val
  rw [tdText_eq s hs _ _ (by omega)]
  show (some (okShore s)).bind _ = _
  rw [Option.bind_some]
  cases h : okShore s with
  | false => rw [if_neg (by decide), if_neg (by simp)]
  | true =>
    have hz := okShore_size h
    rw [if_pos rfl, if_pos rfl, show wrap64 ((s.size : Int) - 1) = (s.size : Int) - 1 by unfold wrap64; omega, mirror_l0 s hz.2 s.size _ _ (Nat.le_refl _) (by omega) (by show 0 + s.size ≤ 14; omega), List.take_of_length_le (by rw [size_list]; omega)]
    simp
theorem turnI (s : ByteArray) (a : Int) (w : World) (hs : s.size ≤ 140737488351232) : Calls Tryd.prog 20 #[.string s, .int .i64 a] w fun e w' => e = .returned (.tuple #[.string (WkTurnTide.val s a).1, .bool (WkTurnTide.val s a).2]) ∧ Below w.heap.size w w' := WkTurnTide.impl s a w hs
theorem turnS (s : ByteArray) (a : Int) (w : World) (hs : s.size ≤ 140737488351232) : Calls Tryd.prog 19 #[.string s, .int .i64 a] w fun e w' => e = .returned (.tuple #[.string (WkTurnTide.val s a).1, .bool (WkTurnTide.val s a).2]) ∧ Below w.heap.size w w' := by
  refine (spec_TurnTide.calls (s.size + 1) s a _ _ w (turn_eq s a (by omega))).mono ?_
  rintro e w' ⟨rfl, ⟨nd, rfl⟩⟩
  exact ⟨rfl, pw_below_drewN (Below.refl _ _) nd⟩
theorem mirI (s : ByteArray) (w : World) (hs : s.size ≤ 140737488351232) : Calls Tryd.prog 22 #[.string s] w fun e w' => e = .returned (.tuple #[.string (WkMirrorShore.val s).1, .bool (WkMirrorShore.val s).2]) ∧ Below w.heap.size w w' := WkMirrorShore.impl s w hs
theorem mirS (s : ByteArray) (w : World) (hs : s.size ≤ 140737488351232) : Calls Tryd.prog 21 #[.string s] w fun e w' => e = .returned (.tuple #[.string (WkMirrorShore.val s).1, .bool (WkMirrorShore.val s).2]) ∧ Below w.heap.size w w' := by
  refine (spec_MirrorShore.calls (s.size + 20) s _ _ w (mirror_eq s (by omega))).mono ?_
  rintro e w' ⟨rfl, ⟨nd, rfl⟩⟩
  exact ⟨rfl, pw_below_drewN (Below.refl _ _) nd⟩
theorem textS (s : ByteArray) (m : Int) (w : World) (hs : s.size ≤ 140737488351232) : Calls Tryd.prog 51 #[.string s, .int .i64 m] w fun e w' => e = .returned (.bool (decide (1 ≤ (s.size : Int) ∧ (s.size : Int) ≤ m) && digs s)) ∧ Below w.heap.size w w' := by
  refine (spec_tdText.calls (s.size + 20) s m _ w (tdText_eq s (by omega) m _ (by omega))).mono ?_
  rintro e w' ⟨rfl, ⟨nd, rfl⟩⟩
  exact ⟨rfl, pw_below_drewN (Below.refl _ _) nd⟩
theorem shoreS (s : ByteArray) (w : World) (hs : s.size ≤ 140737488351232) : Calls Tryd.prog 15 #[.string s] w fun e w' => e = .returned (.bool (okShore s)) ∧ Below w.heap.size w w' := by
  refine (spec_IsShore.calls (s.size + 20) s (okShore s) w ?_).mono ?_
  · unfold spec_IsShore.f
    rw [tdText_eq s (by omega) _ _ (by omega)]
    rfl
  · rintro e w' ⟨rfl, ⟨nd, rfl⟩⟩
    exact ⟨rfl, pw_below_drewN (Below.refl _ _) nd⟩
theorem tideS (s : ByteArray) (w : World) (hs : s.size ≤ 140737488351232) : Calls Tryd.prog 17 #[.string s] w fun e w' => e = .returned (.bool (okTide s)) ∧ Below w.heap.size w w' := by
  refine (spec_IsTide.calls (s.size + 20) s (okTide s) w ?_).mono ?_
  · unfold spec_IsTide.f
    rw [tdText_eq s (by omega) _ _ (by omega)]
    rfl
  · rintro e w' ⟨rfl, ⟨nd, rfl⟩⟩
    exact ⟨rfl, pw_below_drewN (Below.refl _ _) nd⟩
theorem raiseI (s : ByteArray) (a b : Int) (w : World) (hs : s.size ≤ 140737488351232) : Calls Tryd.prog 24 #[.string s, .int .i64 a, .int .i64 b] w fun e w' => e = .returned (.tuple #[.string (WkRaiseStone.val s a b).1, .bool (WkRaiseStone.val s a b).2]) ∧ Below w.heap.size w w' := WkRaiseStone.impl s a b w hs
theorem raiseS (s : ByteArray) (a b : Int) (w : World) (hs : s.size ≤ 140737488351232) : Calls Tryd.prog 23 #[.string s, .int .i64 a, .int .i64 b] w fun e w' => e = .returned (.tuple #[.string (WkRaiseStone.val s a b).1, .bool (WkRaiseStone.val s a b).2]) ∧ Below w.heap.size w w' := WkRaiseStone.spec s a b w hs (textS s 14 w hs)
end Go.Proofs.YthglhfhepooggaaDoor.TdT
namespace Go.Proofs.YthglhfhepooggaaDoor.TdH
set_option linter.unusedVariables false
set_option linter.unusedSimpArgs false
open Go.RowKit Go.Proofs.YthglhfhepooggaaDoorW.PrintWords Go.Proofs.YthglhfhepooggaaDoorW.PrintLast Go.Proofs.YthglhfhepooggaaDoorW.PrintMore Sh PFnExactHighestHour WkHighestHour Td
theorem l1In_eq (a lo hi : Int) : spec_l1In.f a lo hi = some (decide (lo ≤ a ∧ a ≤ hi)) := by
  unfold spec_l1In.f
  by_cases h : lo ≤ a
  · rw [if_pos h]; simp [h]
  · rw [if_neg h]; simp [h]
theorem tdText_l0 (s : ByteArray) (hs : s.size ≤ 9223372036854775806) (d : Nat) : ∀ n, n + d = s.size → ∀ k, d < k → spec_tdText.l0 k s (n : Int) = some ((s.data.toList.drop n).all isDig) := by
  induction d with
  | zero =>
    intro n hn k hk
    obtain ⟨k, rfl⟩ : ∃ m, k = m + 1 := ⟨k - 1, by omega⟩
    simp only [spec_tdText.l0]
    rw [if_neg (by omega), List.drop_of_length_le (by rw [size_list]; omega)]; rfl
  | succ d ih =>
    intro n hn k hk
    obtain ⟨k, rfl⟩ : ∃ m, k = m + 1 := ⟨k - 1, by omega⟩
    have hlt : n < s.data.toList.length := by rw [size_list]; omega
    simp only [spec_tdText.l0]
    rw [if_pos (show (n : Int) < (s.size : Int) by omega), if_pos (by omega), bt_list s n (by omega), List.drop_eq_getElem_cons hlt, List.all_cons]
    have hi := isDig_iff (s.data.toList[n]'hlt)
    have hw : wrap64 ((n : Int) + 1) = ((n + 1 : Nat) : Int) := by unfold wrap64; omega
    cases hd : isDig (s.data.toList[n]'hlt) with
    | true =>
      have := hi.mp hd
      rw [if_neg this.1, if_neg this.2, hw, ih (n + 1) (by omega) k (by omega)]; simp
    | false =>
      by_cases c : ((s.data.toList[n]'hlt).toNat : Int) < 48
      · rw [if_pos c]; simp
      · by_cases c' : ((s.data.toList[n]'hlt).toNat : Int) > 57
        · rw [if_neg c, if_pos c']; simp
        · have := hi.mpr ⟨c, c'⟩; rw [hd] at this; cases this
theorem tdText_eq (s : ByteArray) (hs : s.size ≤ 9223372036854775806) (m : Int) (k : Nat) (hk : s.size < k) : spec_tdText.f k s m = some (decide (1 ≤ (s.size : Int) ∧ (s.size : Int) ≤ m) && digs s) := by
  unfold spec_tdText.f
  rw [l1In_eq]
  by_cases h : 1 ≤ (s.size : Int) ∧ (s.size : Int) ≤ m
  · rw [decide_eq_true h]
    have := tdText_l0 s hs s.size 0 (by omega) k hk
    simp only [Option.bind_some, if_true, Bool.true_and]
    simpa [digs] using this
  · rw [decide_eq_false h]; simp
theorem bt_at (s : ByteArray) (n : Nat) (h : n < s.size) : bt s (n : Int) = (at_ s.data.toList n : Int) := by
  rw [bt_list s n h]
  unfold at_
  rw [List.getD_eq_getElem?_getD, List.getElem?_eq_getElem (by rw [size_list]; exact h)]
  rfl
theorem high_l0 (s : ByteArray) (hs : s.size ≤ 12) (hd : digs s = true) (d : Nat) : ∀ (i k : Nat), i + 1 + d = s.size → d < k → spec_HighestHour.l0 k s (best s.data.toList i : Nat) ((i + 1 : Nat) : Int) = some ((at_ s.data.toList (best s.data.toList (s.size - 1)) : Int) - 48, (best s.data.toList (s.size - 1) : Int), true) := by
  induction d with
  | zero =>
    intro i k hi hk
    obtain ⟨k, rfl⟩ : ∃ m, k = m + 1 := ⟨k - 1, by omega⟩
    obtain rfl : i = s.size - 1 := by omega
    have hb := best_le s.data.toList (s.size - 1)
    have hdg := dig_at hd (best s.data.toList (s.size - 1)) (by omega)
    simp only [spec_HighestHour.l0]
    rw [if_neg (by omega), if_pos (by omega), if_pos (by omega), bt_at s _ (by omega)]
    congr 2
    omega
  | succ d ih =>
    intro i k hi hk
    obtain ⟨k, rfl⟩ : ∃ m, k = m + 1 := ⟨k - 1, by omega⟩
    have hb := best_le s.data.toList i
    have ih2 := ih (i + 1) k (by omega) (by omega)
    simp only [best] at ih2
    simp only [spec_HighestHour.l0]
    rw [if_pos (by omega), if_pos (by omega), if_pos (by omega), if_pos (by omega), bt_at s _ (by omega), bt_at s _ (by omega), show wrap64 (((i + 1 : Nat) : Int) + 1) = ((i + 1 + 1 : Nat) : Int) by unfold wrap64; omega]
    by_cases hc : at_ s.data.toList (best s.data.toList i) < at_ s.data.toList (i + 1)
    · rw [if_pos (by omega)]
      rw [if_pos hc] at ih2
      exact ih2
    · rw [if_neg (by omega)]
      rw [if_neg hc] at ih2
      exact ih2
theorem spec_eq (s : ByteArray) (hs : s.size ≤ 9223372036854775806) : spec_HighestHour.f (s.size + 20) s = some (val s) := by
  unfold spec_HighestHour.f val
  rw [tdText_eq s hs _ _ (by omega)]
  show (some (okTide s)).bind _ = _
  rw [Option.bind_some]
  cases h : okTide s with
  | false => rw [if_neg (by decide), if_neg (by simp)]
  | true =>
    have hz := okTide_size h
    have hd : digs s = true := by unfold okTide at h; simp only [Bool.and_eq_true] at h; exact h.2
    rw [if_pos rfl, if_pos rfl]
    exact high_l0 s hz.2 hd (s.size - 1) 0 _ (by omega) (by omega)
theorem highI (s : ByteArray) (w : World) (hs : s.size ≤ 140737488351232) : Calls Tryd.prog 26 #[.string s] w fun e w' => e = .returned (.tuple #[.int .i64 (val s).1, .int .i64 (val s).2.1, .bool (val s).2.2]) ∧ Below w.heap.size w w' := WkHighestHour.impl s w hs
theorem highS (s : ByteArray) (w : World) (hs : s.size ≤ 140737488351232) : Calls Tryd.prog 25 #[.string s] w fun e w' => e = .returned (.tuple #[.int .i64 (val s).1, .int .i64 (val s).2.1, .bool (val s).2.2]) ∧ Below w.heap.size w w' := by
  refine (spec_HighestHour.calls (s.size + 20) s _ _ _ w (spec_eq s (by omega))).mono ?_
  rintro e w' ⟨rfl, ⟨nd, rfl⟩⟩
  exact ⟨rfl, pw_below_drewN (Below.refl _ _) nd⟩
end Go.Proofs.YthglhfhepooggaaDoor.TdH
namespace Go.Proofs.YthglhfhepooggaaDoor.TdA
set_option linter.unusedVariables false
set_option linter.unusedSimpArgs false
open Go.RowKit Go.Proofs.YthglhfhepooggaaDoorW.PrintWords Go.Proofs.YthglhfhepooggaaDoorW.PrintLast Go.Proofs.YthglhfhepooggaaDoorW.PrintMore Sh PFnExactDryAt WkDryAt Td
theorem l1In_eq (a lo hi : Int) : spec_l1In.f a lo hi = some (decide (lo ≤ a ∧ a ≤ hi)) := by
  unfold spec_l1In.f
  by_cases h : lo ≤ a
  · rw [if_pos h]; simp [h]
  · rw [if_neg h]; simp [h]
theorem tdText_l0 (s : ByteArray) (hs : s.size ≤ 9223372036854775806) (d : Nat) : ∀ n, n + d = s.size → ∀ k, d < k → spec_tdText.l0 k s (n : Int) = some ((s.data.toList.drop n).all isDig) := by
  induction d with
  | zero =>
    intro n hn k hk
    obtain ⟨k, rfl⟩ : ∃ m, k = m + 1 := ⟨k - 1, by omega⟩
    simp only [spec_tdText.l0]
    rw [if_neg (by omega), List.drop_of_length_le (by rw [size_list]; omega)]; rfl
  | succ d ih =>
    intro n hn k hk
    obtain ⟨k, rfl⟩ : ∃ m, k = m + 1 := ⟨k - 1, by omega⟩
    have hlt : n < s.data.toList.length := by rw [size_list]; omega
    simp only [spec_tdText.l0]
    rw [if_pos (show (n : Int) < (s.size : Int) by omega), if_pos (by omega), bt_list s n (by omega), List.drop_eq_getElem_cons hlt, List.all_cons]
    have hi := isDig_iff (s.data.toList[n]'hlt)
    have hw : wrap64 ((n : Int) + 1) = ((n + 1 : Nat) : Int) := by unfold wrap64; omega
    cases hd : isDig (s.data.toList[n]'hlt) with
    | true =>
      have := hi.mp hd
      rw [if_neg this.1, if_neg this.2, hw, ih (n + 1) (by omega) k (by omega)]; simp
    | false =>
      by_cases c : ((s.data.toList[n]'hlt).toNat : Int) < 48
      · rw [if_pos c]; simp
      · by_cases c' : ((s.data.toList[n]'hlt).toNat : Int) > 57
        · rw [if_neg c, if_pos c']; simp
        · have := hi.mpr ⟨c, c'⟩; rw [hd] at this; cases this
theorem tdText_eq (s : ByteArray) (hs : s.size ≤ 9223372036854775806) (m : Int) (k : Nat) (hk : s.size < k) : spec_tdText.f k s m = some (decide (1 ≤ (s.size : Int) ∧ (s.size : Int) ≤ m) && digs s) := by
  unfold spec_tdText.f
  rw [l1In_eq]
  by_cases h : 1 ≤ (s.size : Int) ∧ (s.size : Int) ≤ m
  · rw [decide_eq_true h]
    have := tdText_l0 s hs s.size 0 (by omega) k hk
    simp only [Option.bind_some, if_true, Bool.true_and]
    simpa [digs] using this
  · rw [decide_eq_false h]; simp
theorem tdGood_eq (s t : ByteArray) (hs : s.size ≤ 9223372036854775806) (ht : t.size ≤ 9223372036854775806) (k : Nat) (h1 : s.size < k) (h2 : t.size < k) : spec_tdGood.f k s t = some (okShore s && okTide t) := by
  unfold spec_tdGood.f
  rw [tdText_eq s hs _ k h1, tdText_eq t ht _ k h2]
  show (some (okShore s)).bind _ = _
  cases okShore s <;> simp [okTide]

theorem dry_eq (s t : ByteArray) (p h : Int) : impl_isDry.f s t p h = spec_tdDry.f s t p h := by
  unfold impl_isDry.f spec_tdDry.f; rfl
theorem dry_is (s t : ByteArray) (p h : Int) (hs : s.size ≤ 14) (ht : 1 ≤ t.size ∧ t.size ≤ 12) (hp : 0 ≤ p ∧ p ≤ (s.size : Int) + 1) (hh : 0 ≤ h) : spec_tdDry.f s t p h = some (dryB s t p h) := by
  unfold spec_tdDry.f dryB
  have e1 : wrap64 ((s.size : Int) + 1) = (s.size : Int) + 1 := by unfold wrap64; omega
  have e2 : wrap64 (p - 1) = p - 1 := by unfold wrap64; omega
  have e3 : Int.tmod h (t.size : Int) = h % (t.size : Int) := Int.tmod_eq_emod_of_nonneg hh
  have e4 : 0 ≤ h % (t.size : Int) ∧ h % (t.size : Int) < (t.size : Int) := ⟨Int.emod_nonneg _ (by omega), Int.emod_lt_of_pos _ (by omega)⟩
  rw [e1, e2, e3]
  by_cases c0 : p = 0
  · rw [if_pos c0]; simp [c0]
  · rw [if_neg c0]
    by_cases c1 : p = (s.size : Int) + 1
    · rw [if_pos c1]; simp [c1]
    · rw [if_neg c1, if_pos (by omega), if_pos (by omega), if_neg (by omega), if_pos e4.1, if_pos e4.2]
      simp [c0, c1]

def dk (s t : ByteArray) (h : Int) (k : Nat) : Bool := dryB s t ((k : Int) + 1) h
theorem row_succ (n : Nat) (D : Nat → Bool) : row (n + 1) D = row n D ++ [if D n = true then 111 else 46] := by simp [row, List.range_succ]
theorem dry_l0 (s t : ByteArray) (h : Int) (hs : 1 ≤ s.size ∧ s.size ≤ 14) (ht : 1 ≤ t.size ∧ t.size ≤ 12) (hh : 0 ≤ h) (d : Nat) : ∀ (i k : Nat), i + d = s.size → d < k → spec_DryAt.l0 k s t h ⟨(row i (dk s t h)).toArray⟩ ((i + 1 : Nat) : Int) = some (⟨(row s.size (dk s t h)).toArray⟩, true) := by
  induction d with
  | zero =>
    intro i k hi hk
    obtain ⟨k, rfl⟩ : ∃ m, k = m + 1 := ⟨k - 1, by omega⟩
    obtain rfl : i = s.size := by omega
    simp only [spec_DryAt.l0]
    rw [if_neg (by omega)]
  | succ d ih =>
    intro i k hi hk
    obtain ⟨k, rfl⟩ : ∃ m, k = m + 1 := ⟨k - 1, by omega⟩
    have ih2 := ih (i + 1) k (by omega) (by omega)
    have e1 := dry_is s t ((i : Int) + 1) h hs.2 ht (by omega) hh
    have hlen : (⟨(row i (dk s t h)).toArray⟩ : ByteArray).size = i := by show (row i (dk s t h)).toArray.size = i; simp [row]
    rw [row_succ] at ih2
    simp only [spec_DryAt.l0]
    rw [if_pos (by omega), show (((i + 1 : Nat) : Int)) = (i : Int) + 1 by omega, e1, Option.bind_some, show wrap64 ((i : Int) + 1 + 1) = ((i + 1 + 1 : Nat) : Int) by unfold wrap64; omega, hlen]
    cases hd : dk s t h i with
    | true =>
      rw [hd] at ih2
      have hd2 : dryB s t ((i : Int) + 1) h = true := hd
      rw [hd2, if_pos rfl, if_pos (by omega)]
      rw [if_pos rfl] at ih2
      rw [← ih2]
      congr 1
    | false =>
      rw [hd] at ih2
      have hd2 : dryB s t ((i : Int) + 1) h = false := hd
      rw [hd2, if_neg (by decide), if_pos (by omega)]
      rw [if_neg (by decide)] at ih2
      rw [← ih2]
      congr 1
theorem spec_eq (s t : ByteArray) (h : Int) (hs : s.size ≤ 9223372036854775806) (ht : t.size ≤ 9223372036854775806) : spec_DryAt.f (s.size + t.size + 20) s t h = some (val s t h (dk s t h)) := by
  unfold spec_DryAt.f val
  rw [tdGood_eq s t hs ht _ (by omega) (by omega), Option.bind_some]
  cases ho : (okShore s && okTide t) with
  | false => rw [if_neg (by decide), if_neg (by simp)]; simp only [spec_DryAt.j0]; rw [if_pos trivial]
  | true =>
    have h1 := okShore_size (Bool.and_eq_true _ _ |>.mp ho).1
    have h2 := okTide_size (Bool.and_eq_true _ _ |>.mp ho).2
    rw [if_pos rfl]
    unfold spec_tdHour.f
    rw [l1In_eq, Option.bind_some, Option.bind_some]
    by_cases hh : 0 ≤ h ∧ h ≤ 1000
    · rw [decide_eq_true hh, if_pos ⟨rfl, hh⟩]
      simp only [spec_DryAt.j0]
      rw [if_neg (by decide)]
      exact dry_l0 s t h h1 h2 hh.1 s.size 0 _ (by omega) (by omega)
    · rw [decide_eq_false hh, if_neg (fun q => hh q.2)]
      simp only [spec_DryAt.j0]
      rw [if_pos (by decide)]
theorem dryI (s t : ByteArray) (h : Int) (w : World) (hs : s.size ≤ 140737488351232) (ht : t.size ≤ 140737488351232) : Calls Tryd.prog 28 #[.string s, .string t, .int .i64 h] w fun e w' => e = .returned (.tuple #[.string (val s t h (dk s t h)).1, .bool (val s t h (dk s t h)).2]) ∧ Below w.heap.size w w' := by
  refine WkDryAt.impl s t h (dk s t h) w hs ht (fun ho h0 _ k hk => ?_)
  have h1 := okShore_size (Bool.and_eq_true _ _ |>.mp ho).1
  have h2 := okTide_size (Bool.and_eq_true _ _ |>.mp ho).2
  rw [dry_eq]
  exact dry_is s t ((k : Int) + 1) h h1.2 h2 (by omega) h0
theorem dryS (s t : ByteArray) (h : Int) (w : World) (hs : s.size ≤ 140737488351232) (ht : t.size ≤ 140737488351232) : Calls Tryd.prog 27 #[.string s, .string t, .int .i64 h] w fun e w' => e = .returned (.tuple #[.string (val s t h (dk s t h)).1, .bool (val s t h (dk s t h)).2]) ∧ Below w.heap.size w w' := by
  refine (spec_DryAt.calls (s.size + t.size + 20) s t h _ _ w (spec_eq s t h (by omega) (by omega))).mono ?_
  rintro e w' ⟨rfl, ⟨nd, rfl⟩⟩
  exact ⟨rfl, pw_below_drewN (Below.refl _ _) nd⟩
end Go.Proofs.YthglhfhepooggaaDoor.TdA
namespace Go.Proofs.YthglhfhepooggaaDoor.TdS
set_option linter.unusedVariables false
set_option linter.unusedSimpArgs false
open Go.RowKit Go.Proofs.YthglhfhepooggaaDoorW.PrintWords Go.Proofs.YthglhfhepooggaaDoorW.PrintLast Go.Proofs.YthglhfhepooggaaDoorW.PrintMore Sh PFnExactAlwaysDry Td
theorem l1In_eq (a lo hi : Int) : spec_l1In.f a lo hi = some (decide (lo ≤ a ∧ a ≤ hi)) := by
  unfold spec_l1In.f
  by_cases h : lo ≤ a
  · rw [if_pos h]; simp [h]
  · rw [if_neg h]; simp [h]
theorem tdText_l0 (s : ByteArray) (hs : s.size ≤ 9223372036854775806) (d : Nat) : ∀ n, n + d = s.size → ∀ k, d < k → spec_tdText.l0 k s (n : Int) = some ((s.data.toList.drop n).all isDig) := by
  induction d with
  | zero =>
    intro n hn k hk
    obtain ⟨k, rfl⟩ : ∃ m, k = m + 1 := ⟨k - 1, by omega⟩
    simp only [spec_tdText.l0]
    rw [if_neg (by omega), List.drop_of_length_le (by rw [size_list]; omega)]; rfl
  | succ d ih =>
    intro n hn k hk
    obtain ⟨k, rfl⟩ : ∃ m, k = m + 1 := ⟨k - 1, by omega⟩
    have hlt : n < s.data.toList.length := by rw [size_list]; omega
    simp only [spec_tdText.l0]
    rw [if_pos (show (n : Int) < (s.size : Int) by omega), if_pos (by omega), bt_list s n (by omega), List.drop_eq_getElem_cons hlt, List.all_cons]
    have hi := isDig_iff (s.data.toList[n]'hlt)
    have hw : wrap64 ((n : Int) + 1) = ((n + 1 : Nat) : Int) := by unfold wrap64; omega
    cases hd : isDig (s.data.toList[n]'hlt) with
    | true =>
      have := hi.mp hd
      rw [if_neg this.1, if_neg this.2, hw, ih (n + 1) (by omega) k (by omega)]; simp
    | false =>
      by_cases c : ((s.data.toList[n]'hlt).toNat : Int) < 48
      · rw [if_pos c]; simp
      · by_cases c' : ((s.data.toList[n]'hlt).toNat : Int) > 57
        · rw [if_neg c, if_pos c']; simp
        · have := hi.mpr ⟨c, c'⟩; rw [hd] at this; cases this
theorem tdText_eq (s : ByteArray) (hs : s.size ≤ 9223372036854775806) (m : Int) (k : Nat) (hk : s.size < k) : spec_tdText.f k s m = some (decide (1 ≤ (s.size : Int) ∧ (s.size : Int) ≤ m) && digs s) := by
  unfold spec_tdText.f
  rw [l1In_eq]
  by_cases h : 1 ≤ (s.size : Int) ∧ (s.size : Int) ≤ m
  · rw [decide_eq_true h]
    have := tdText_l0 s hs s.size 0 (by omega) k hk
    simp only [Option.bind_some, if_true, Bool.true_and]
    simpa [digs] using this
  · rw [decide_eq_false h]; simp
theorem tdGood_eq (s t : ByteArray) (hs : s.size ≤ 9223372036854775806) (ht : t.size ≤ 9223372036854775806) (k : Nat) (h1 : s.size < k) (h2 : t.size < k) : spec_tdGood.f k s t = some (okShore s && okTide t) := by
  unfold spec_tdGood.f
  rw [tdText_eq s hs _ k h1, tdText_eq t ht _ k h2]
  show (some (okShore s)).bind _ = _
  cases okShore s <;> simp [okTide]

theorem dry_eq (s t : ByteArray) (p h : Int) : impl_isDry.f s t p h = spec_tdDry.f s t p h := by
  unfold impl_isDry.f spec_tdDry.f; rfl
theorem dry_is (s t : ByteArray) (p h : Int) (hs : s.size ≤ 14) (ht : 1 ≤ t.size ∧ t.size ≤ 12) (hp : 0 ≤ p ∧ p ≤ (s.size : Int) + 1) (hh : 0 ≤ h) : spec_tdDry.f s t p h = some (dryB s t p h) := by
  unfold spec_tdDry.f dryB
  have e1 : wrap64 ((s.size : Int) + 1) = (s.size : Int) + 1 := by unfold wrap64; omega
  have e2 : wrap64 (p - 1) = p - 1 := by unfold wrap64; omega
  have e3 : Int.tmod h (t.size : Int) = h % (t.size : Int) := Int.tmod_eq_emod_of_nonneg hh
  have e4 : 0 ≤ h % (t.size : Int) ∧ h % (t.size : Int) < (t.size : Int) := ⟨Int.emod_nonneg _ (by omega), Int.emod_lt_of_pos _ (by omega)⟩
  rw [e1, e2, e3]
  by_cases c0 : p = 0
  · rw [if_pos c0]; simp [c0]
  · rw [if_neg c0]
    by_cases c1 : p = (s.size : Int) + 1
    · rw [if_pos c1]; simp [c1]
    · rw [if_neg c1, if_pos (by omega), if_pos (by omega), if_neg (by omega), if_pos e4.1, if_pos e4.2]
      simp [c0, c1]

/-- What is told of a list that is given. -/
abbrev Lists (w w' : World) (e : Ending) (r : List Int × Bool) : Prop := ∃ (A : Option Addr) (c : Nat), e = .returned (.tuple #[.slice A r.1.length c, .bool r.2]) ∧ r.1.length ≤ c ∧ Kd.C (Kd.int .i64) w' A r.1.length r.1 ∧ Below w.heap.size w w'
theorem hours_l0 (s t : ByteArray) (p : Int) (hs : s.size ≤ 14) (ht : 1 ≤ t.size ∧ t.size ≤ 12) (hp : 0 ≤ p ∧ p ≤ (s.size : Int) + 1) (d : Nat) : ∀ (i : Nat) (acc : List Int), i + d = t.size → acc.length ≤ i → ∀ k, d < k →
    spec_tdHours.l0 k s t p acc (i : Int) = some (acc ++ hoursFrom s t p i d) ∧ impl_dryHours.l0 k s t p acc (t.size : Int) (i : Int) = some (acc ++ hoursFrom s t p i d) := by
  induction d with
  | zero =>
    intro i acc hi ha k hk
    obtain ⟨k, rfl⟩ : ∃ m, k = m + 1 := ⟨k - 1, by omega⟩
    simp only [spec_tdHours.l0, impl_dryHours.l0]
    rw [if_neg (by omega), if_neg (by omega)]
    simp [hoursFrom]
  | succ d ih =>
    intro i acc hi ha k hk
    have hw : wrap64 ((i : Int) + 1) = ((i + 1 : Nat) : Int) := by unfold wrap64; omega
    obtain ⟨k, rfl⟩ : ∃ m, k = m + 1 := ⟨k - 1, by omega⟩
    have b1 := ih (i + 1) (acc ++ [(i : Int)]) (by omega) (by simp; omega) k (by omega)
    have b2 := ih (i + 1) acc (by omega) (by omega) k (by omega)
    have ci : (i : Int) < (t.size : Int) := by omega
    simp only [spec_tdHours.l0, impl_dryHours.l0, if_pos ci]
    rw [dry_eq, dry_is s t p (i : Int) hs ht hp (by omega), hoursFrom_succ]
    simp only [Option.bind_some]
    cases dryB s t p (i : Int) with
    | true =>
      simp only [if_true]
      rw [if_pos (by omega), if_pos (by omega), hw]
      rw [List.append_assoc] at b1
      exact b1
    | false => simp only [Bool.false_eq_true, if_false, List.nil_append]; rw [hw]; exact b2
theorem hours_ok (s t : ByteArray) (p : Int) (hs : s.size ≤ 14) (ht : 1 ≤ t.size ∧ t.size ≤ 12) (hp : 0 ≤ p ∧ p ≤ (s.size : Int) + 1) (k : Nat) (hk : t.size < k) : spec_tdHours.f k s t p = some (hoursL s t p) ∧ impl_dryHours.f k s t p = some (hoursL s t p) := by
  have := hours_l0 s t p hs ht hp t.size 0 [] (by omega) (by simp) k hk
  unfold spec_tdHours.f impl_dryHours.f hoursL
  exact ⟨by simpa using this.1, by simpa using this.2⟩
theorem by_l0 (s t : ByteArray) (h : Int) (hs : s.size ≤ 14) (ht : 1 ≤ t.size ∧ t.size ≤ 12) (d : Nat) : ∀ (i : Nat) (acc : List Int), i + d = s.size → acc.length ≤ i → ∀ k, d + t.size + 1 < k → spec_tdBy.l0 k s t h acc ((i + 1 : Nat) : Int) = some (acc ++ stonesFrom s t h i d) ∧ impl_stonesDry.l0 k s t h acc ((i + 1 : Nat) : Int) = some (acc ++ stonesFrom s t h i d) := by
  induction d with
  | zero =>
    intro i acc hi ha k hk
    obtain ⟨k, rfl⟩ : ∃ m, k = m + 1 := ⟨k - 1, by omega⟩
    simp only [spec_tdBy.l0, impl_stonesDry.l0]
    rw [if_neg (by omega), if_neg (by omega)]
    simp [stonesFrom]
  | succ d ih =>
    intro i acc hi ha k hk
    have hw : wrap64 (((i + 1 : Nat) : Int) + 1) = ((i + 1 + 1 : Nat) : Int) := by unfold wrap64; omega
    have hw2 : wrap64 (((i + 1 : Nat) : Int) - 1) = (i : Int) := by unfold wrap64; omega
    obtain ⟨k, rfl⟩ : ∃ m, k = m + 1 := ⟨k - 1, by omega⟩
    have b1 := ih (i + 1) (acc ++ [((i + 1 : Nat) : Int)]) (by omega) (by simp; omega) k (by omega)
    have b2 := ih (i + 1) acc (by omega) (by omega) k (by omega)
    have hh := hours_ok s t ((i + 1 : Nat) : Int) hs ht (by omega) k (by omega)
    have c1 : ((i + 1 : Nat) : Int) ≤ (s.size : Int) := by omega
    simp only [spec_tdBy.l0, impl_stonesDry.l0, if_pos c1, hw2]
    rw [if_pos (by omega), if_pos (by omega), hw, hh.1, hh.2, stonesFrom_succ]
    simp only [Option.bind_some]
    by_cases c : bt s (i : Int) > 48
    · rw [if_pos c, if_pos c]
      by_cases c2 : ((hoursL s t ((i + 1 : Nat) : Int)).length : Int) = h
      · have e : stoneB s t h i = true := by unfold stoneB; rw [decide_eq_true c, decide_eq_true c2]; rfl
        rw [if_pos c2, if_pos c2, if_pos (by omega), e, if_pos rfl]
        rw [List.append_assoc] at b1
        rw [if_pos (by omega), if_pos (by omega), if_pos (by omega)]
        exact b1
      · have e : stoneB s t h i = false := by unfold stoneB; rw [decide_eq_false c2, Bool.and_false]
        rw [if_neg c2, if_neg c2, e, if_neg (by decide), List.nil_append, if_pos (by omega), if_pos (by omega)]; exact b2
    · have e : stoneB s t h i = false := by unfold stoneB; rw [decide_eq_false c, Bool.false_and]
      rw [if_neg c, if_neg c, e, if_neg (by decide), List.nil_append, if_pos (by omega), if_pos (by omega)]; exact b2
theorem stones_ok (s t : ByteArray) (h : Int) (hs : s.size ≤ 14) (ht : 1 ≤ t.size ∧ t.size ≤ 12) (k : Nat) (hk : 40 < k) : spec_tdBy.f k s t h = some (stonesL s t h) ∧ impl_stonesDry.f k s t h = some (stonesL s t h) := by
  have := by_l0 s t h hs ht s.size 0 [] (by omega) (by simp) k (by omega)
  unfold spec_tdBy.f impl_stonesDry.f stonesL
  exact ⟨by simpa using this.1, by simpa using this.2⟩
theorem goodS (s t : ByteArray) (w : World) (hs : s.size ≤ 140737488351232) (ht : t.size ≤ 140737488351232) : Calls Tryd.prog 61 #[.string s, .string t] w fun e w' => e = .returned (.bool (okShore s && okTide t)) ∧ Below w.heap.size w w' := by
  refine (spec_tdGood.calls (s.size + t.size + 20) s t _ w (tdGood_eq s t (by omega) (by omega) _ (by omega) (by omega))).mono ?_
  rintro e w' ⟨rfl, ⟨nd, rfl⟩⟩
  exact ⟨rfl, pw_below_drewN (Below.refl _ _) nd⟩
theorem dryHrsI (s t : ByteArray) (p : Int) (w : World) (hs : s.size ≤ 14) (ht : 1 ≤ t.size ∧ t.size ≤ 12) (hp : 0 ≤ p ∧ p ≤ (s.size : Int) + 1) : Calls Tryd.prog 68 #[.string s, .string t, .int .i64 p] w fun e w' => ∃ v0_ : Value, e = .returned (v0_) ∧ Kd.R (Kd.int .i64) 3 w' w.heap.size (fun _ => True) v0_ (hoursL s t p) ∧ Below w.heap.size w w' := impl_dryHours.calls 100 s t p _ w (hours_ok s t p hs ht hp 100 (by omega)).2
theorem dryHrsS (s t : ByteArray) (p : Int) (w : World) (hs : s.size ≤ 14) (ht : 1 ≤ t.size ∧ t.size ≤ 12) (hp : 0 ≤ p ∧ p ≤ (s.size : Int) + 1) : Calls Tryd.prog 67 #[.string s, .string t, .int .i64 p] w fun e w' => ∃ v0_ : Value, e = .returned (v0_) ∧ Kd.R (Kd.int .i64) 3 w' w.heap.size (fun _ => True) v0_ (hoursL s t p) ∧ Below w.heap.size w w' := spec_tdHours.calls 100 s t p _ w (hours_ok s t p hs ht hp 100 (by omega)).1
set_option maxHeartbeats 2000000 in
set_option maxRecDepth 100000 in
theorem alwI (s t : ByteArray) (w : World) (hs : s.size ≤ 140737488351232) (ht : t.size ≤ 140737488351232) : Calls Tryd.prog 35 #[.string s, .string t] w fun e w' => Lists w w' e (alwV s t (t.size : Int)) := by
  have c1 := areShore s t w hs ht
  unfold alwV
  cases h1 : (okShore s && okTide t) with
  | true =>
    have z1 := okShore_size (Bool.and_eq_true _ _ |>.mp h1).1
    have z2 := okTide_size (Bool.and_eq_true _ _ |>.mp h1).2
    have HH := Aside0.mk (fun W => impl_stonesDry.calls 100 s t (t.size : Int) _ W (stones_ok s t (t.size : Int) z1.2 z2 100 (by omega)).2)
    rw [h1] at c1
    have ht2 : t.size ≤ 9223372036854775807 := by omega
    rw [if_pos rfl]
    clear h1 z1 z2 hs ht
    go_enter Tryd.func35, Tryd.ntmps35
    go_wp2_with fail
    refine c1.mono ?_
    clear c1
    rintro e w1 ⟨rfl, hb⟩
    have HB := Aside0.mk hb
    clear hb
    go_wp2_with fail
    refine (HH.out _).mono ?_
    rintro e w2 ⟨v, rfl, h2, b2⟩
    have B2 := Aside0.mk (HB.out.trans (b2.mono HB.out.size))
    obtain ⟨A, c, rfl, hc, hC⟩ := Kd.R_reads h2
    have R2 := Aside0.mk (And.intro hc hC)
    clear h2 b2 hc hC
    go_wp2_with fail
    go_ret2
    exact ⟨A, c, rfl, R2.out.1, R2.out.2, B2.out⟩
  | false =>
    rw [h1] at c1
    rw [if_neg (by decide)]
    clear h1
    go_enter Tryd.func35, Tryd.ntmps35
    go_wp2_with fail
    refine c1.mono ?_
    clear c1
    rintro e w1 ⟨rfl, hb⟩
    have HB := Aside0.mk hb
    clear hb
    go_wp2_with fail
    go_ret2
    exact ⟨none, 0, rfl, Nat.le_refl _, Kd.C_nil _ _, HB.out⟩
set_option maxHeartbeats 2000000 in
set_option maxRecDepth 100000 in
theorem alwS (s t : ByteArray) (w : World) (hs : s.size ≤ 140737488351232) (ht : t.size ≤ 140737488351232) : Calls Tryd.prog 34 #[.string s, .string t] w fun e w' => Lists w w' e (alwV s t (t.size : Int)) := by
  have c1 := goodS s t w hs ht
  unfold alwV
  cases h1 : (okShore s && okTide t) with
  | true =>
    have z1 := okShore_size (Bool.and_eq_true _ _ |>.mp h1).1
    have z2 := okTide_size (Bool.and_eq_true _ _ |>.mp h1).2
    have HH := Aside0.mk (fun W => spec_tdBy.calls 100 s t (t.size : Int) _ W (stones_ok s t (t.size : Int) z1.2 z2 100 (by omega)).1)
    rw [h1] at c1
    have ht2 : t.size ≤ 9223372036854775807 := by omega
    rw [if_pos rfl]
    clear h1 z1 z2 hs ht
    go_enter Tryd.func34, Tryd.ntmps34
    go_wp2_with fail
    refine c1.mono ?_
    clear c1
    rintro e w1 ⟨rfl, hb⟩
    have HB := Aside0.mk hb
    clear hb
    go_wp2_with fail
    refine (HH.out _).mono ?_
    rintro e w2 ⟨v, rfl, h2, b2⟩
    have B2 := Aside0.mk (HB.out.trans (b2.mono HB.out.size))
    obtain ⟨A, c, rfl, hc, hC⟩ := Kd.R_reads h2
    have R2 := Aside0.mk (And.intro hc hC)
    clear h2 b2 hc hC
    go_wp2_with fail
    go_ret2
    exact ⟨A, c, rfl, R2.out.1, R2.out.2, B2.out⟩
  | false =>
    rw [h1] at c1
    rw [if_neg (by decide)]
    clear h1
    go_enter Tryd.func34, Tryd.ntmps34
    go_wp2_with fail
    refine c1.mono ?_
    clear c1
    rintro e w1 ⟨rfl, hb⟩
    have HB := Aside0.mk hb
    clear hb
    go_wp2_with fail
    go_ret2
    exact ⟨none, 0, rfl, Nat.le_refl _, Kd.C_nil _ _, HB.out⟩
set_option maxHeartbeats 2000000 in
set_option maxRecDepth 100000 in
theorem nevI (s t : ByteArray) (w : World) (hs : s.size ≤ 140737488351232) (ht : t.size ≤ 140737488351232) : Calls Tryd.prog 37 #[.string s, .string t] w fun e w' => Lists w w' e (alwV s t 0) := by
  have c1 := areShore s t w hs ht
  unfold alwV
  cases h1 : (okShore s && okTide t) with
  | true =>
    have z1 := okShore_size (Bool.and_eq_true _ _ |>.mp h1).1
    have z2 := okTide_size (Bool.and_eq_true _ _ |>.mp h1).2
    have HH := Aside0.mk (fun W => impl_stonesDry.calls 100 s t 0 _ W (stones_ok s t 0 z1.2 z2 100 (by omega)).2)
    rw [h1] at c1
    have ht2 : t.size ≤ 9223372036854775807 := by omega
    rw [if_pos rfl]
    clear h1 z1 z2 hs ht
    go_enter Tryd.func37, Tryd.ntmps37
    go_wp2_with fail
    refine c1.mono ?_
    clear c1
    rintro e w1 ⟨rfl, hb⟩
    have HB := Aside0.mk hb
    clear hb
    go_wp2_with fail
    refine (HH.out _).mono ?_
    rintro e w2 ⟨v, rfl, h2, b2⟩
    have B2 := Aside0.mk (HB.out.trans (b2.mono HB.out.size))
    obtain ⟨A, c, rfl, hc, hC⟩ := Kd.R_reads h2
    have R2 := Aside0.mk (And.intro hc hC)
    clear h2 b2 hc hC
    go_wp2_with fail
    go_ret2
    exact ⟨A, c, rfl, R2.out.1, R2.out.2, B2.out⟩
  | false =>
    rw [h1] at c1
    rw [if_neg (by decide)]
    clear h1
    go_enter Tryd.func37, Tryd.ntmps37
    go_wp2_with fail
    refine c1.mono ?_
    clear c1
    rintro e w1 ⟨rfl, hb⟩
    have HB := Aside0.mk hb
    clear hb
    go_wp2_with fail
    go_ret2
    exact ⟨none, 0, rfl, Nat.le_refl _, Kd.C_nil _ _, HB.out⟩
set_option maxHeartbeats 2000000 in
set_option maxRecDepth 100000 in
theorem nevS (s t : ByteArray) (w : World) (hs : s.size ≤ 140737488351232) (ht : t.size ≤ 140737488351232) : Calls Tryd.prog 36 #[.string s, .string t] w fun e w' => Lists w w' e (alwV s t 0) := by
  have c1 := goodS s t w hs ht
  unfold alwV
  cases h1 : (okShore s && okTide t) with
  | true =>
    have z1 := okShore_size (Bool.and_eq_true _ _ |>.mp h1).1
    have z2 := okTide_size (Bool.and_eq_true _ _ |>.mp h1).2
    have HH := Aside0.mk (fun W => spec_tdBy.calls 100 s t 0 _ W (stones_ok s t 0 z1.2 z2 100 (by omega)).1)
    rw [h1] at c1
    have ht2 : t.size ≤ 9223372036854775807 := by omega
    rw [if_pos rfl]
    clear h1 z1 z2 hs ht
    go_enter Tryd.func36, Tryd.ntmps36
    go_wp2_with fail
    refine c1.mono ?_
    clear c1
    rintro e w1 ⟨rfl, hb⟩
    have HB := Aside0.mk hb
    clear hb
    go_wp2_with fail
    refine (HH.out _).mono ?_
    rintro e w2 ⟨v, rfl, h2, b2⟩
    have B2 := Aside0.mk (HB.out.trans (b2.mono HB.out.size))
    obtain ⟨A, c, rfl, hc, hC⟩ := Kd.R_reads h2
    have R2 := Aside0.mk (And.intro hc hC)
    clear h2 b2 hc hC
    go_wp2_with fail
    go_ret2
    exact ⟨A, c, rfl, R2.out.1, R2.out.2, B2.out⟩
  | false =>
    rw [h1] at c1
    rw [if_neg (by decide)]
    clear h1
    go_enter Tryd.func36, Tryd.ntmps36
    go_wp2_with fail
    refine c1.mono ?_
    clear c1
    rintro e w1 ⟨rfl, hb⟩
    have HB := Aside0.mk hb
    clear hb
    go_wp2_with fail
    go_ret2
    exact ⟨none, 0, rfl, Nat.le_refl _, Kd.C_nil _ _, HB.out⟩
set_option maxHeartbeats 2000000 in
set_option maxRecDepth 100000 in
theorem hrsI (s t : ByteArray) (p : Int) (w : World) (hs : s.size ≤ 140737488351232) (ht : t.size ≤ 140737488351232) : Calls Tryd.prog 30 #[.string s, .string t, .int .i64 p] w fun e w' => Lists w w' e (hrsV s t p) := by
  have c1 := areShore s t w hs ht
  unfold hrsV
  cases h1 : (okShore s && okTide t) with
  | true =>
    have z1 := okShore_size (Bool.and_eq_true _ _ |>.mp h1).1
    have z2 := okTide_size (Bool.and_eq_true _ _ |>.mp h1).2
    rw [h1] at c1
    have hs2 : s.size ≤ 9223372036854775807 := by omega
    have CI := Aside0.mk (fun W => within_any p 1 (s.size : Int) W)
    by_cases hp : 1 ≤ p ∧ p ≤ (s.size : Int)
    · have HH := Aside0.mk (fun W => dryHrsI s t p W z1.2 z2 (by omega))
      have E1 := Aside0.mk (decide_eq_true hp)
      rw [if_pos ⟨rfl, hp⟩]
      clear h1 z1 z2 hs ht hp
      go_enter Tryd.func30, Tryd.ntmps30
      go_wp2_with fail
      refine c1.mono ?_
      clear c1
      rintro e w1 ⟨rfl, hb⟩
      have HB := Aside0.mk hb
      clear hb
      go_wp2_with fail
      refine (CI.out _).mono ?_
      rw [E1.out]
      rintro e w' ⟨rfl, rfl⟩
      go_wp2_with fail
      refine (HH.out _).mono ?_
      rintro e w2 ⟨v, rfl, h2, b2⟩
      have B2 := Aside0.mk (HB.out.trans (b2.mono HB.out.size))
      obtain ⟨A, c, rfl, hc, hC⟩ := Kd.R_reads h2
      have R2 := Aside0.mk (And.intro hc hC)
      clear h2 b2 hc hC
      go_wp2_with fail
      go_ret2
      exact ⟨A, c, rfl, R2.out.1, R2.out.2, B2.out⟩
    · have E1 := Aside0.mk (decide_eq_false hp)
      rw [if_neg (fun q => hp q.2)]
      clear h1 z1 z2 hs ht hp
      go_enter Tryd.func30, Tryd.ntmps30
      go_wp2_with fail
      refine c1.mono ?_
      clear c1
      rintro e w1 ⟨rfl, hb⟩
      have HB := Aside0.mk hb
      clear hb
      go_wp2_with fail
      refine (CI.out _).mono ?_
      rw [E1.out]
      rintro e w' ⟨rfl, rfl⟩
      go_wp2_with fail
      go_ret2
      exact ⟨none, 0, rfl, Nat.le_refl _, Kd.C_nil _ _, HB.out⟩
  | false =>
    rw [h1] at c1
    rw [if_neg (by simp)]
    clear h1
    go_enter Tryd.func30, Tryd.ntmps30
    go_wp2_with fail
    refine c1.mono ?_
    clear c1
    rintro e w1 ⟨rfl, hb⟩
    have HB := Aside0.mk hb
    clear hb
    go_wp2_with fail
    go_ret2
    exact ⟨none, 0, rfl, Nat.le_refl _, Kd.C_nil _ _, HB.out⟩
set_option maxHeartbeats 2000000 in
set_option maxRecDepth 100000 in
theorem hrsS (s t : ByteArray) (p : Int) (w : World) (hs : s.size ≤ 140737488351232) (ht : t.size ≤ 140737488351232) : Calls Tryd.prog 29 #[.string s, .string t, .int .i64 p] w fun e w' => Lists w w' e (hrsV s t p) := by
  have c1 := goodS s t w hs ht
  unfold hrsV
  cases h1 : (okShore s && okTide t) with
  | true =>
    have z1 := okShore_size (Bool.and_eq_true _ _ |>.mp h1).1
    have z2 := okTide_size (Bool.and_eq_true _ _ |>.mp h1).2
    rw [h1] at c1
    have hs2 : s.size ≤ 9223372036854775807 := by omega
    have CI := Aside0.mk (fun W => WkRaiseStone.l1In_any p 1 (s.size : Int) W)
    by_cases hp : 1 ≤ p ∧ p ≤ (s.size : Int)
    · have HH := Aside0.mk (fun W => dryHrsS s t p W z1.2 z2 (by omega))
      have E1 := Aside0.mk (decide_eq_true hp)
      rw [if_pos ⟨rfl, hp⟩]
      clear h1 z1 z2 hs ht hp
      go_enter Tryd.func29, Tryd.ntmps29
      go_wp2_with fail
      refine c1.mono ?_
      clear c1
      rintro e w1 ⟨rfl, hb⟩
      have HB := Aside0.mk hb
      clear hb
      go_wp2_with fail
      refine (CI.out _).mono ?_
      rw [E1.out]
      rintro e w' ⟨rfl, rfl⟩
      go_wp2_with fail
      refine (HH.out _).mono ?_
      rintro e w2 ⟨v, rfl, h2, b2⟩
      have B2 := Aside0.mk (HB.out.trans (b2.mono HB.out.size))
      obtain ⟨A, c, rfl, hc, hC⟩ := Kd.R_reads h2
      have R2 := Aside0.mk (And.intro hc hC)
      clear h2 b2 hc hC
      go_wp2_with fail
      go_ret2
      exact ⟨A, c, rfl, R2.out.1, R2.out.2, B2.out⟩
    · have E1 := Aside0.mk (decide_eq_false hp)
      rw [if_neg (fun q => hp q.2)]
      clear h1 z1 z2 hs ht hp
      go_enter Tryd.func29, Tryd.ntmps29
      go_wp2_with fail
      refine c1.mono ?_
      clear c1
      rintro e w1 ⟨rfl, hb⟩
      have HB := Aside0.mk hb
      clear hb
      go_wp2_with fail
      refine (CI.out _).mono ?_
      rw [E1.out]
      rintro e w' ⟨rfl, rfl⟩
      go_wp2_with fail
      go_ret2
      exact ⟨none, 0, rfl, Nat.le_refl _, Kd.C_nil _ _, HB.out⟩
  | false =>
    rw [h1] at c1
    rw [if_neg (by simp)]
    clear h1
    go_enter Tryd.func29, Tryd.ntmps29
    go_wp2_with fail
    refine c1.mono ?_
    clear c1
    rintro e w1 ⟨rfl, hb⟩
    have HB := Aside0.mk hb
    clear hb
    go_wp2_with fail
    go_ret2
    exact ⟨none, 0, rfl, Nat.le_refl _, Kd.C_nil _ _, HB.out⟩
end Go.Proofs.YthglhfhepooggaaDoor.TdS
