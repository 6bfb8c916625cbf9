/- laws.FnExactMirrorShore answers true for all arguments; nothing that lay before is turned. No condition. -/
import Derived.Test.YthglhfhepooggaaDoorLwMirrorShore
import Derived.Test.YthglhfhepooggaaDoorWkMirrorShore
namespace Go.Proofs.YthglhfhepooggaaDoor.LwMirrorShore
set_option linter.unusedVariables false
set_option linter.unusedSimpArgs false
open Go.RowKit Go.Proofs.YthglhfhepooggaaDoorW.PrintWords Go.Proofs.YthglhfhepooggaaDoorW.PrintLast Go.Proofs.YthglhfhepooggaaDoorW.PrintMore PFnExactMirrorShore Sh
theorem l1In_eq (a lo hi : Int) : spec_l1In.f a lo hi = some (decide (lo ≤ a ∧ a ≤ hi)) := by
  unfold spec_l1In.f
  by_cases h : lo ≤ a
  · rw [if_pos h]; simp [h]
  · rw [if_neg h]; simp [h]
theorem tdText_l0 (s : ByteArray) (hs : s.size ≤ 9223372036854775806) (d : Nat) : ∀ n, n + d = s.size → ∀ k, d < k → spec_tdText.l0 k s (n : Int) = some ((s.data.toList.drop n).all isDig) := by
  induction d with
  | zero =>
    intro n hn k hk
    obtain ⟨k, rfl⟩ : ∃ m, k = m + 1 := ⟨k - 1, by omega⟩
    simp only [spec_tdText.l0]
    rw [if_neg (by omega), List.drop_of_length_le (by rw [size_list]; omega)]; rfl
  | succ d ih =>
    intro n hn k hk
    obtain ⟨k, rfl⟩ : ∃ m, k = m + 1 := ⟨k - 1, by omega⟩
    have hlt : n < s.data.toList.length := by rw [size_list]; omega
    simp only [spec_tdText.l0]
    rw [if_pos (show (n : Int) < (s.size : Int) by omega), if_pos (by omega), bt_list s n (by omega), List.drop_eq_getElem_cons hlt, List.all_cons]
    have hi := isDig_iff (s.data.toList[n]'hlt)
    have hw : wrap64 ((n : Int) + 1) = ((n + 1 : Nat) : Int) := by unfold wrap64; omega
    cases hd : isDig (s.data.toList[n]'hlt) with
    | true =>
      have := hi.mp hd
      rw [if_neg this.1, if_neg this.2, hw, ih (n + 1) (by omega) k (by omega)]; simp
    | false =>
      by_cases c : ((s.data.toList[n]'hlt).toNat : Int) < 48
      · rw [if_pos c]; simp
      · by_cases c' : ((s.data.toList[n]'hlt).toNat : Int) > 57
        · rw [if_neg c, if_pos c']; simp
        · have := hi.mpr ⟨c, c'⟩; rw [hd] at this; cases this
theorem tdText_eq (s : ByteArray) (hs : s.size ≤ 9223372036854775806) (m : Int) (k : Nat) (hk : s.size < k) : spec_tdText.f k s m = some (decide (1 ≤ (s.size : Int) ∧ (s.size : Int) ≤ m) && digs s) := by
  unfold spec_tdText.f
  rw [l1In_eq]
  by_cases h : 1 ≤ (s.size : Int) ∧ (s.size : Int) ≤ m
  · rw [decide_eq_true h]
    have := tdText_l0 s hs s.size 0 (by omega) k hk
    simp only [Option.bind_some, if_true, Bool.true_and]
    simpa [digs] using this
  · rw [decide_eq_false h]; simp

theorem ext_list {a b : ByteArray} (h : a.data.toList = b.data.toList) : a = b := by
  cases a; cases b
  simp at h
  rw [h]
theorem one_at (s : ByteArray) (i : Nat) (h : i < s.size) : (s.extract i (i + 1)).data.toList = [s.data.toList[i]'(by rw [size_list]; exact h)] := by
  have h2 : i < s.data.toList.length := by rw [size_list]; exact h
  simp only [ByteArray.data_extract, Array.toList_extract, List.extract_eq_take_drop]
  rw [List.drop_eq_getElem_cons h2]
  simp
theorem mirror_l0 (s : ByteArray) (hs : s.size ≤ 14) : ∀ (i k : Nat) (out : ByteArray), i ≤ s.size → i < k → out.size + i ≤ 14 → spec_MirrorShore.l0 k s out ((i : Int) - 1) = some (⟨(out.data.toList ++ (s.data.toList.take i).reverse).toArray⟩, true)
  | 0, k, out, hi, hk, ho => by
    obtain ⟨k, rfl⟩ : ∃ m, k = m + 1 := ⟨k - 1, by omega⟩
    simp only [spec_MirrorShore.l0]
    rw [if_neg (by omega)]
    simp
  | i + 1, k, out, hi, hk, ho => by
    obtain ⟨k, rfl⟩ : ∃ m, k = m + 1 := ⟨k - 1, by omega⟩
    have e1 : (((i + 1 : Nat) : Int) - 1) = (i : Int) := by omega
    have e2 : wrap64 ((i : Int) + 1) = ((i + 1 : Nat) : Int) := by unfold wrap64; omega
    have e3 : wrap64 ((i : Int) - 1) = (i : Int) - 1 := by unfold wrap64; omega
    have hsz : (s.extract i (i + 1)).size = 1 := by rw [ByteArray.size_extract]; omega
    simp only [spec_MirrorShore.l0]
    rw [e1, e2, e3, show ((i : Int)).toNat = i by omega, show (((i + 1 : Nat) : Int)).toNat = i + 1 by omega, if_pos (by omega), if_pos (by omega), if_pos (by omega), if_pos (by omega), if_pos (by rw [hsz]; omega)]
    rw [mirror_l0 s hs i k (out ++ s.extract i (i + 1)) (by omega) (by omega) (by rw [ByteArray.size_append, hsz]; omega)]
    congr 2
    apply ext_list
    have h2 : i < s.data.toList.length := by rw [size_list]; omega
    simp only [ByteArray.data_append, Array.toList_append]
    rw [one_at s i (by omega), List.take_succ_eq_append_getElem h2, List.reverse_append]
    simp only [List.reverse_cons, List.reverse_nil, List.nil_append, List.append_assoc, List.cons_append]
theorem spec_eq (s : ByteArray) (hs : s.size ≤ 9223372036854775806) : spec_MirrorShore.f (s.size + 20) s = some (WkMirrorShore.val s) := by
  unfold spec_MirrorShore.f WkMirrorShore.val
  rw [tdText_eq s hs _ _ (by omega)]
  show (some (okShore s)).bind _ = _
  rw [Option.bind_some]
  cases h : okShore s with
  | false => rw [if_neg (by decide), if_neg (by simp)]
  | true =>
    have hz := okShore_size h
    rw [if_pos rfl, if_pos rfl, show wrap64 ((s.size : Int) - 1) = (s.size : Int) - 1 by unfold wrap64; omega, mirror_l0 s hz.2 s.size _ _ (Nat.le_refl _) (by omega) (by show 0 + s.size ≤ 14; omega), List.take_of_length_le (by rw [size_list]; omega)]
    simp
theorem whole (s : ByteArray) (w : World) (hs : s.size ≤ 140737488351232) : Calls Tryd.prog 6 #[.string s] w fun e w' => e = .returned (.bool true) ∧ Below w.heap.size w w' := by
  refine law (s.size + 20) s _ _ w hs (fun W => ?_) (fun W => WkMirrorShore.impl s W hs)
  refine (spec_MirrorShore.calls (s.size + 20) s _ _ W (spec_eq s (by omega))).mono ?_
  rintro e w' ⟨rfl, ⟨nd, rfl⟩⟩
  exact ⟨rfl, pw_below_drewN (Below.refl _ _) nd⟩
end Go.Proofs.YthglhfhepooggaaDoor.LwMirrorShore
