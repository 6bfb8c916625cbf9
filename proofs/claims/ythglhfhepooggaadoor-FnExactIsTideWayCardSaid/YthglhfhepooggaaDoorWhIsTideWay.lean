/- laws.FnExactIsTideWay answers true for all arguments; nothing that lay before is turned. No condition. -/
import Derived.Test.YthglhfhepooggaaDoorLwIsTideWay
import Derived.Test.YthglhfhepooggaaDoorWkIsTideWay
namespace Go.Proofs.YthglhfhepooggaaDoor.LwIsTideWay
set_option linter.unusedVariables false
set_option linter.unusedSimpArgs false
open Go.RowKit Go.Proofs.YthglhfhepooggaaDoorW.PrintWords Go.Proofs.YthglhfhepooggaaDoorW.PrintLast Go.Proofs.YthglhfhepooggaaDoorW.PrintMore PFnExactIsTideWay Sh
open WkTide Cr PFnExactIsTideWay
set_option linter.unusedSectionVars false
theorem l1In_eq (a lo hi : Int) : spec_l1In.f a lo hi = some (decide (lo ≤ a ∧ a ≤ hi)) := by
  unfold spec_l1In.f
  by_cases h : lo ≤ a
  · rw [if_pos h]; simp [h]
  · rw [if_neg h]; simp [h]
theorem tdText_l0 (s : ByteArray) (hs : s.size ≤ 9223372036854775806) (d : Nat) : ∀ n, n + d = s.size → ∀ k, d < k → spec_tdText.l0 k s (n : Int) = some ((s.data.toList.drop n).all isDig) := by
  induction d with
  | zero =>
    intro n hn k hk
    obtain ⟨k, rfl⟩ : ∃ m, k = m + 1 := ⟨k - 1, by omega⟩
    simp only [spec_tdText.l0]
    rw [if_neg (by omega), List.drop_of_length_le (by rw [size_list]; omega)]; rfl
  | succ d ih =>
    intro n hn k hk
    obtain ⟨k, rfl⟩ : ∃ m, k = m + 1 := ⟨k - 1, by omega⟩
    have hlt : n < s.data.toList.length := by rw [size_list]; omega
    simp only [spec_tdText.l0]
    rw [if_pos (show (n : Int) < (s.size : Int) by omega), if_pos (by omega), bt_list s n (by omega), List.drop_eq_getElem_cons hlt, List.all_cons]
    have hi := isDig_iff (s.data.toList[n]'hlt)
    have hw : wrap64 ((n : Int) + 1) = ((n + 1 : Nat) : Int) := by unfold wrap64; omega
    cases hd : isDig (s.data.toList[n]'hlt) with
    | true =>
      have := hi.mp hd
      rw [if_neg this.1, if_neg this.2, hw, ih (n + 1) (by omega) k (by omega)]; simp
    | false =>
      by_cases c : ((s.data.toList[n]'hlt).toNat : Int) < 48
      · rw [if_pos c]; simp
      · by_cases c' : ((s.data.toList[n]'hlt).toNat : Int) > 57
        · rw [if_neg c, if_pos c']; simp
        · have := hi.mpr ⟨c, c'⟩; rw [hd] at this; cases this
theorem tdText_eq (s : ByteArray) (hs : s.size ≤ 9223372036854775806) (m : Int) (k : Nat) (hk : s.size < k) : spec_tdText.f k s m = some (decide (1 ≤ (s.size : Int) ∧ (s.size : Int) ≤ m) && digs s) := by
  unfold spec_tdText.f
  rw [l1In_eq]
  by_cases h : 1 ≤ (s.size : Int) ∧ (s.size : Int) ≤ m
  · rw [decide_eq_true h]
    have := tdText_l0 s hs s.size 0 (by omega) k hk
    simp only [Option.bind_some, if_true, Bool.true_and]
    simpa [digs] using this
  · rw [decide_eq_false h]; simp
theorem tdGood_eq (s t : ByteArray) (hs : s.size ≤ 9223372036854775806) (ht : t.size ≤ 9223372036854775806) (k : Nat) (h1 : s.size < k) (h2 : t.size < k) : spec_tdGood.f k s t = some (okShore s && okTide t) := by
  unfold spec_tdGood.f
  rw [tdText_eq s hs _ k h1, tdText_eq t ht _ k h2]
  show (some (okShore s)).bind _ = _
  cases okShore s <;> simp [okTide]
theorem toInt_l0 (l : List Int) (hl : l.length ≤ 1099511627776) : ∀ (q p z : List Int), l = p ++ q → z.length = q.length → ∀ k, q.length < k → laws_toIntS.l0 k l (p ++ z) (p.length : Int) = some l
  | [], p, z, h, hz, k, hk => by
    obtain ⟨k, rfl⟩ : ∃ m, k = m + 1 := ⟨k - 1, by omega⟩
    simp only [List.append_nil] at h
    obtain rfl : z = [] := List.eq_nil_of_length_eq_zero (by simpa using hz)
    simp only [laws_toIntS.l0]
    rw [if_neg (by rw [h]; omega), List.append_nil, h]
  | a :: q, p, z, h, hz, k, hk => by
    obtain ⟨k, rfl⟩ : ∃ m, k = m + 1 := ⟨k - 1, by omega⟩
    match z, hz with
    | b :: z, hz =>
      have hlen : l.length = p.length + (q.length + 1) := by rw [h]; simp
      have hr : rd l (p.length : Int) = a := by
        unfold rd; rw [h, List.getD_eq_getElem?_getD]; simp
      have e : (p ++ b :: z).set ((p.length : Int)).toNat (rd l (p.length : Int)) = (p ++ [a]) ++ z := by
        rw [hr, show ((p.length : Int)).toNat = p.length by omega, List.set_append_right _ _ (Nat.le_refl _)]; simp
      have e2 : wrap64 ((p.length : Int) + 1) = ((p ++ [a]).length : Int) := by rw [List.length_append]; simp only [List.length_cons, List.length_nil]; unfold wrap64; omega
      simp only [laws_toIntS.l0]
      rw [if_pos (by omega), if_pos (by omega), if_pos (by simp; omega), e, e2]
      exact toInt_l0 l hl q (p ++ [a]) z (by rw [h]; simp) (by simpa using hz) k (by simp at hk; omega)
theorem toInt_eq (l : List Int) (hl : l.length ≤ 1099511627776) (k : Nat) (hk : l.length < k) : laws_toIntS.f k l = some l := by
  unfold laws_toIntS.f
  rw [if_pos (by omega), if_pos (by omega)]
  have := toInt_l0 l hl l [] (List.replicate ((l.length : Int)).toNat 0) (by simp) (by simp) k hk
  simpa using this
theorem eq_l0 (l : List Int) (hl : l.length ≤ 1099511627776) (d : Nat) : ∀ i, i + d = l.length → ∀ k, d < k → laws_eqIntS.l0 k l l (i : Int) = some true := by
  induction d with
  | zero =>
    intro i hi k hk
    obtain ⟨k, rfl⟩ : ∃ m, k = m + 1 := ⟨k - 1, by omega⟩
    simp only [laws_eqIntS.l0]; rw [if_neg (by omega)]
  | succ d ih =>
    intro i hi k hk
    obtain ⟨k, rfl⟩ : ∃ m, k = m + 1 := ⟨k - 1, by omega⟩
    simp only [laws_eqIntS.l0]
    rw [if_pos (by omega), if_pos (by omega), if_pos (by omega), if_pos trivial, show wrap64 ((i : Int) + 1) = ((i + 1 : Nat) : Int) by unfold wrap64; omega]
    exact ih (i + 1) (by omega) k (by omega)
theorem eq_self (l : List Int) (hl : l.length ≤ 1099511627776) (k : Nat) (hk : l.length < k) : laws_eqIntS.f k l l = some true := by
  unfold laws_eqIntS.f
  rw [if_pos rfl]; exact eq_l0 l hl l.length 0 (by omega) k hk
theorem asked_eq (s t : ByteArray) (p h : Int) (hs : s.size ≤ 9223372036854775806) (ht : t.size ≤ 9223372036854775806) (k : Nat) (h1 : s.size < k) (h2 : t.size < k) : spec_tdAsked.f k s t p h = some (((okShore s && okTide t) && okLeap p) && okHour h) := by
  unfold spec_tdAsked.f spec_tdLeap.f spec_tdHour.f
  rw [tdGood_eq s t hs ht k h1 h2, l1In_eq, l1In_eq]
  unfold okLeap okHour
  cases (okShore s && okTide t) <;> cases decide (1 ≤ p ∧ p ≤ 15) <;> simp
theorem w_sub {a b m : Int} (ha : 0 ≤ a ∧ a ≤ m) (hb : 0 ≤ b ∧ b ≤ m) (hm : m ≤ 1000) : wrap64 (a - b) = a - b := by unfold wrap64; omega
theorem w_neg {a b m : Int} (ha : 0 ≤ a ∧ a ≤ m) (hb : 0 ≤ b ∧ b ≤ m) (hm : m ≤ 1000) : wrap64 (-(a - b)) = -(a - b) := by unfold wrap64; omega
theorem abs_ok {x L : Int} (h1 : wrap64 (-x) = -x) : ∃ v, spec_l1Abs.f x = some v ∧ (v > L ↔ ¬ (-L ≤ x ∧ x ≤ L)) := by
  unfold spec_l1Abs.f spec_l1Most.f
  rw [h1]
  by_cases g : x > -x
  · rw [if_pos g]; exact ⟨_, rfl, by omega⟩
  · rw [if_neg g]; exact ⟨_, rfl, by omega⟩
def allR (s : ByteArray) (w : List Int) : Nat → Nat → Bool
  | 0, _ => true
  | d + 1, i => inR s w i && allR s w d (i + 1)
theorem allG_R (s t : ByteArray) (L st : Int) (w : List Int) : ∀ d i, allG s t L st w d i = true → allR s w d i = true
  | 0, _, _ => rfl
  | d + 1, i, h => by
    simp only [allG, goodB, Bool.and_eq_true] at h
    simp only [allR, Bool.and_eq_true]; exact ⟨h.1.1, allG_R s t L st w d (i + 1) h.2⟩
section
variable (s t : ByteArray) (L st : Int) (w : List Int)
variable (hs : 1 ≤ s.size ∧ s.size ≤ 14) (ht : 1 ≤ t.size ∧ t.size ≤ 12) (hL : 1 ≤ L ∧ L ≤ 15) (hst : 0 ≤ st ∧ st ≤ 1000) (hw : w.length ≤ 1000)
include hs ht hL hst hw
theorem all_l0 (d : Nat) : ∀ i, i + d = w.length → ∀ k, d < k → spec_l1All.l0 k 0 ((s.size : Int) + 1) w (w.length : Int) (i : Int) = some (allR s w d i) := by
  induction d with
  | zero =>
    intro i hi k hk
    obtain ⟨k, rfl⟩ : ∃ m, k = m + 1 := ⟨k - 1, by omega⟩
    simp only [spec_l1All.l0]
    rw [if_neg (by omega)]; rfl
  | succ d ih =>
    intro i hi k hk
    obtain ⟨k, rfl⟩ : ∃ m, k = m + 1 := ⟨k - 1, by omega⟩
    have c : (i : Int) < (w.length : Int) := by omega
    have e0 : wrap64 ((i : Int) + 1) = ((i + 1 : Nat) : Int) := by unfold wrap64; omega
    simp only [spec_l1All.l0, if_pos c]
    rw [if_pos (show 0 ≤ (i : Int) by omega), l1In_eq, e0, ih (i + 1) (by omega) k (by omega)]
    simp only [Option.bind_some, allR, inR]
    by_cases h : 0 ≤ rd w (i : Int) ∧ rd w (i : Int) ≤ (s.size : Int) + 1
    · rw [decide_eq_true h, if_pos rfl, Bool.true_and]
    · rw [decide_eq_false h]; simp
theorem spec_l0 (d : Nat) : ∀ i, i + d = w.length → (i = 0 ∨ inR s w (i - 1) = true) → allR s w d i = true → ∀ k, d < k → spec_IsTideWay.l0 k s t L st w w (w.length : Int) (i : Int) = some (allG s t L st w d i, true) := by
  induction d with
  | zero =>
    intro i hi _ _ k hk
    obtain ⟨k, rfl⟩ : ∃ m, k = m + 1 := ⟨k - 1, by omega⟩
    simp only [spec_IsTideWay.l0]
    rw [if_neg (by omega)]; rfl
  | succ d ih =>
    intro i hi hp hall k hk
    obtain ⟨k, rfl⟩ : ∃ m, k = m + 1 := ⟨k - 1, by omega⟩
    simp only [allR, Bool.and_eq_true] at hall
    obtain ⟨c1, hall⟩ := hall
    have c : (i : Int) < (w.length : Int) := by omega
    have f0 : 0 ≤ (i : Int) := by omega
    have f1 : 0 ≤ st + (i : Int) := by omega
    have f2 : (s.size : Int) + 1 ≤ 1000 := by omega
    have f3 : i + 1 + d = w.length := by omega
    have f4 : d < k := by omega
    have f5 : ¬ i = 0 → (i : Int) > 0 := by omega
    have f6 : i = 0 → ¬ (i : Int) > 0 := by omega
    have f7 : ¬ i = 0 → 0 ≤ (i : Int) - 1 := by omega
    have f8 : (i : Int) - 1 < (w.length : Int) := by omega
    have f9 : ¬ i = 0 → ((i - 1 : Nat) : Int) = (i : Int) - 1 := by omega
    have e0 : wrap64 ((i : Int) + 1) = ((i + 1 : Nat) : Int) := by unfold wrap64; omega
    have e1 : wrap64 ((i : Int) - 1) = (i : Int) - 1 := by unfold wrap64; omega
    have e3 : wrap64 (st + (i : Int)) = st + (i : Int) := by unfold wrap64; omega
    have c1' := c1
    unfold inR at c1'
    rw [decide_eq_true_eq] at c1'
    simp only [spec_IsTideWay.l0, if_pos c]
    rw [if_pos f0, e3, dry_is s t _ _ hs.2 ht c1' f1]
    simp only [Option.bind_some, allG, goodB, c1, Bool.true_and]
    cases dryB s t (rd w (i : Int)) (st + (i : Int)) with
    | false => simp
    | true =>
      rw [if_pos rfl]
      simp only [Bool.true_and]
      by_cases c2 : i = 0
      · rw [if_neg (f6 c2), e0, ih (i + 1) f3 (.inr (by simpa using c1)) hall k f4]
        simp [nearB, c2]
      · rw [if_pos (f5 c2), e1, if_pos (f7 c2), if_pos f8]
        have hp' : inR s w (i - 1) = true := hp.resolve_left c2
        unfold inR at hp'
        rw [decide_eq_true_eq, f9 c2] at hp'
        have e5 := w_sub c1' hp' f2
        have ea := abs_ok (L := L) (w_neg c1' hp' f2)
        obtain ⟨v, hv, hv2⟩ := ea
        rw [e5, hv]
        simp only [Option.bind_some]
        by_cases c3 : -L ≤ rd w (i : Int) - rd w ((i : Int) - 1) ∧ rd w (i : Int) - rd w ((i : Int) - 1) ≤ L
        · rw [if_neg (fun h => hv2.mp h c3), e0, ih (i + 1) f3 (.inr (by simpa using c1)) hall k f4]
          simp [nearB, c3]
        · rw [if_pos (hv2.mpr c3)]; simp [nearB, c3, c2]
end

theorem spec_eq (s t : ByteArray) (L st : Int) (w : List Int) (hs : s.size ≤ 9223372036854775806) (ht : t.size ≤ 9223372036854775806) (hl : w.length ≤ 1048576) : spec_IsTideWay.f (s.size + t.size + w.length + 33) s t L st w = some (WkTide.val s t L st w) := by
  have hS : ∀ k, s.size + t.size + w.length + 30 < k → spec_IsTideWay.f k s t L st w = spec_IsTideWay.j0 k s t L st w (if (((okShore s && okTide t) && okLeap L) && okHour st) = true then decide ((w.length : Int) > 1000) else true) := by
    intro k hk
    unfold spec_IsTideWay.f
    rw [asked_eq s t L st hs ht k (by omega) (by omega)]
    cases (((okShore s && okTide t) && okLeap L) && okHour st) <;> simp
  rw [hS _ (by omega)]
  unfold WkTide.val
  by_cases hg : (((okShore s && okTide t) && okLeap L) && okHour st) = true ∧ w.length ≤ 1000
  · obtain ⟨hg, hw⟩ := hg
    have hg' := hg
    simp only [Bool.and_eq_true, okLeap, okHour, decide_eq_true_eq] at hg'
    have z1 := okShore_size hg'.1.1.1
    have z2 := okTide_size hg'.1.1.2
    have hR : okRight s t L = true ∧ okHour st = true := by unfold okRight; simpa using hg
    rw [if_pos hg, if_pos ⟨hR.1, hR.2, hw⟩, decide_eq_false (show ¬ ((w.length : Int) > 1000) by omega)]
    obtain ⟨k, hk⟩ : ∃ m, s.size + t.size + w.length + 33 = m + 2 := ⟨s.size + t.size + w.length + 31, by omega⟩
    rw [hk]
    have e1 : wrap64 ((w.length : Int) - 1) = (w.length : Int) - 1 := by unfold wrap64; omega
    have e2 : wrap64 ((s.size : Int) + 1) = (s.size : Int) + 1 := by unfold wrap64; omega
    simp only [spec_IsTideWay.j0, spec_IsTideWay.j1, Bool.false_eq_true, if_false, e1, e2]
    by_cases d0 : w.length = 0
    · rw [if_pos (by omega)]; simp [fin, d0]
    rw [if_neg (show ¬ ((w.length : Int) = 0) by omega), if_pos (show 0 < (w.length : Int) by omega)]
    by_cases d1 : rd w 0 = 0
    · rw [if_pos d1, if_pos (show 0 ≤ (w.length : Int) - 1 by omega), if_pos (show (w.length : Int) - 1 < (w.length : Int) by omega)]
      by_cases d2 : rd w ((w.length : Int) - 1) = (s.size : Int) + 1
      · rw [if_pos d2]
        unfold spec_l1All.f
        have ha := all_l0 s t L st w z1 z2 hg'.1.2 hg'.2 hw w.length 0 (by omega) (k + 1) (by omega)
        rw [show ((0 : Nat) : Int) = 0 from rfl] at ha
        rw [ha]
        simp only [Option.bind_some]
        cases hr : allR s w w.length 0 with
        | true =>
          have hl := spec_l0 s t L st w z1 z2 hg'.1.2 hg'.2 hw w.length 0 (by omega) (.inl rfl) hr k (by omega)
          rw [show ((0 : Nat) : Int) = 0 from rfl] at hl
          simp only [Bool.not_true, Bool.false_eq_true, if_false]
          rw [hl]
          have : fin s w = true := by simp [fin, d1, d2]; omega
          rw [this, Bool.and_true]
        | false =>
          have : allG s t L st w w.length 0 = false := by
            cases hG : allG s t L st w w.length 0 with
            | false => rfl
            | true => have := allG_R s t L st w _ _ hG; rw [hr] at this; cases this
          simp [this]
      · rw [if_neg d2]; simp [fin, d2]
    · rw [if_neg d1]; simp [fin, d1]
  · have e : (if (((okShore s && okTide t) && okLeap L) && okHour st) = true then decide ((w.length : Int) > 1000) else true) = true := by
      by_cases h1 : (((okShore s && okTide t) && okLeap L) && okHour st) = true
      · rw [if_pos h1, decide_eq_true]
        by_cases h2 : w.length ≤ 1000
        · exact absurd ⟨h1, h2⟩ hg
        · omega
      · rw [if_neg h1]
    rw [e, if_neg (fun q => hg ⟨by have := q.1; unfold okRight at this; rw [this, q.2.1]; rfl, q.2.2⟩)]
    obtain ⟨k, hk⟩ : ∃ m, s.size + t.size + w.length + 33 = m + 1 := ⟨s.size + t.size + w.length + 32, by omega⟩
    rw [hk]
    simp only [spec_IsTideWay.j0, if_true]
theorem whole (s t : ByteArray) (L st : Int) (A : Option Addr) (len cap : Nat) (zs : List Int) (w : World) (hs : s.size ≤ 140737488351232) (ht : t.size ≤ 140737488351232) (_ : (Lit.int .i64 L).wf = true) (_ : (Lit.int .i64 st).wf = true)
    (h : (A = none ∧ len = 0 ∧ cap = 0 ∧ zs = []) ∨ ∃ x, A = some x ∧ len ≤ cap ∧ cap ≤ maxLen ∧ zs.length = cap ∧ (∀ i, i < zs.length → w.cell? (x.add i) = some (.int .i64 (zs.getD i 0))) ∧ ∀ n ∈ zs, (Lit.int .i64 n).wf = true) :
    Calls Tryd.prog 14 #[.string s, .string t, .int .i64 L, .int .i64 st, .slice A len cap] w fun e w' => e = .returned (.bool true) ∧ Below w.heap.size w w' := by
  obtain ⟨l, rfl, hr, hm, hwf, hc⟩ := ReadsInt.ofRowC h
  have hC : Kd.C (Kd.int .i64) w A l.length l := Kd.C_of_reads (d := (0 : Int)) (h1 := fun _ => rfl) hr
  by_cases hl : l.length ≤ 1048576
  · exact law (s.size + t.size + l.length + 33) s t L st A cap l _ _ w hC hc hs ht hl (spec_eq s t L st l (by omega) (by omega) hl) rfl (toInt_eq l (by omega) _ (by omega)) (eq_self l (by omega) _ (by omega))
  · have hl2 : l.length ≤ 9223372036854775807 := by unfold maxLen at hm; omega
    have hs2 : s.size ≤ 9223372036854775807 := by omega
    have ht2 : t.size ≤ 9223372036854775807 := by omega
    clear hr hC h hwf
    by_cases gs : s.size ≤ 1048576
    rotate_left
    · go_enter Tryd.func14, Tryd.ntmps14
      go_wp2_with fail
      go_ret
      exact ⟨rfl, Below.refl _ _⟩
    by_cases gt : t.size ≤ 1048576
    rotate_left
    · go_enter Tryd.func14, Tryd.ntmps14
      go_wp2_with fail
      go_ret
      exact ⟨rfl, Below.refl _ _⟩
    go_enter Tryd.func14, Tryd.ntmps14
    go_wp2_with fail
    go_ret
    exact ⟨rfl, Below.refl _ _⟩
end Go.Proofs.YthglhfhepooggaaDoor.LwIsTideWay
