/- The pure law FnExactIsTideWay: for all arguments the printed function of the law answers true. No condition. -/
import Derived.Test.YthglhfhepooggaaDoorPFnExactIsTideWayx5
namespace Go.Proofs.YthglhfhepooggaaDoor.Pure
open Go.RowKit Go.Proofs.YthglhfhepooggaaDoor.PFnExactIsTideWay Go.Proofs.YthglhfhepooggaaDoorW.PrintWords Go.Proofs.YthglhfhepooggaaDoorW.PrintLast Go.Proofs.YthglhfhepooggaaDoorW.PrintMore
set_option linter.unusedVariables false
set_option linter.unusedSimpArgs false

theorem l1In_eq (a lo hi : Int) : spec_l1In.f a lo hi = some (decide (lo ≤ a ∧ a ≤ hi)) := by
  unfold spec_l1In.f
  by_cases h : lo ≤ a
  · rw [if_pos h]; simp [h]
  · rw [if_neg h]; simp [h]
theorem within_eq (a lo hi : Int) : impl_within.f a lo hi = some (decide (lo ≤ a ∧ a ≤ hi)) := by
  unfold impl_within.f
  by_cases h : lo ≤ a
  · rw [if_pos h]; simp [h]
  · rw [if_neg h]; simp [h]

def isDig (b : UInt8) : Bool := decide (48 ≤ b.toNat) && decide (b.toNat ≤ 57)
def digs (s : ByteArray) : Bool := s.data.toList.all isDig
theorem size_list (s : ByteArray) : s.data.toList.length = s.size := by rw [Array.length_toList]; rfl
theorem bt_list (s : ByteArray) (n : Nat) (h : n < s.size) : bt s (n : Int) = ((s.data.toList[n]'(by rw [size_list]; exact h)).toNat : Int) := by
  unfold bt
  rw [dif_pos (show (n : Int).toNat < s.size by omega)]
  rfl
theorem isDig_iff (b : UInt8) : isDig b = true ↔ ¬ ((b.toNat : Int) < 48) ∧ ¬ ((b.toNat : Int) > 57) := by
  unfold isDig; simp only [Bool.and_eq_true, decide_eq_true_eq]; omega
theorem contains_dig (x : UInt8) : ([48, 49, 50, 51, 52, 53, 54, 55, 56, 57] : List UInt8).contains x = isDig x := by
  rw [Bool.eq_iff_iff]
  unfold isDig
  simp only [List.contains_iff_mem, List.mem_cons, List.mem_nil_iff, or_false, Bool.and_eq_true, decide_eq_true_eq, ← UInt8.toNat_inj]
  simp only [UInt8.toNat_ofNat]
  omega
theorem drop_nil {p : UInt8 → Bool} {l : List UInt8} : l.dropWhile p = [] ↔ ∀ x ∈ l, p x = true := by
  induction l with
  | nil => simp
  | cons a l ih =>
    rw [List.dropWhile_cons]
    by_cases h : p a = true
    · rw [if_pos h, ih]; simp [h]
    · rw [if_neg h]; simp [h]
theorem drop_head {p : UInt8 → Bool} : ∀ {l : List UInt8} {a : UInt8} {r : List UInt8}, l.dropWhile p = a :: r → p a = false
  | [], _, _, h => by simp at h
  | b :: l, a, r, h => by
    rw [List.dropWhile_cons] at h
    by_cases hb : p b = true
    · rw [if_pos hb] at h; exact drop_head h
    · rw [if_neg hb] at h
      injection h with h1 _
      subst h1
      simpa using hb
theorem trim_nil (l cs : List UInt8) : Lib.trimS l cs = [] ↔ ∀ x ∈ l, cs.contains x = true := by
  unfold Lib.trimS Lib.trimLeftS
  rw [drop_nil]
  constructor
  · intro h
    have e : l.reverse.dropWhile (cs.contains ·) = [] := by
      cases hd : l.reverse.dropWhile (cs.contains ·) with
      | nil => rfl
      | cons a r =>
        have h1 := drop_head hd
        have h2 := h a (by unfold Lib.trimRightS; rw [hd]; simp)
        rw [h1] at h2; cases h2
    intro x hx
    exact drop_nil.mp e x (by simpa using hx)
  · intro h x hx
    unfold Lib.trimRightS at hx
    have : x ∈ l.reverse.dropWhile (cs.contains ·) := by simpa using hx
    exact h x (by have := (List.dropWhile_sublist (cs.contains ·) (l := l.reverse)).subset this; simpa using this)
theorem trim_digs (s : ByteArray) (h : s.size ≤ 9223372036854775807) : ∃ t : ByteArray, strings_Trim.f s (⟨#[48, 49, 50, 51, 52, 53, 54, 55, 56, 57]⟩ : ByteArray) = some t ∧ (t.toList == ([] : List UInt8)) = digs s := by
  unfold strings_Trim.f
  rw [if_pos ⟨h, by decide, by decide⟩]
  refine ⟨_, rfl, ?_⟩
  rw [Bool.eq_iff_iff]
  rw [Lib.toList_data]
  simp only [beq_iff_eq, digs, List.all_eq_true]
  show Lib.trimS s.data.toList [48, 49, 50, 51, 52, 53, 54, 55, 56, 57] = [] ↔ _
  rw [trim_nil]
  constructor
  · intro h x hx; rw [← contains_dig]; exact h x hx
  · intro h x hx; rw [contains_dig]; exact h x hx
theorem tdText_l0 (s : ByteArray) (hs : s.size ≤ 9223372036854775806) (d : Nat) : ∀ n, n + d = s.size → ∀ k, d < k → spec_tdText.l0 k s (n : Int) = some ((s.data.toList.drop n).all isDig) := by
  induction d with
  | zero =>
    intro n hn k hk
    obtain ⟨k, rfl⟩ : ∃ m, k = m + 1 := ⟨k - 1, by omega⟩
    simp only [spec_tdText.l0]
    rw [if_neg (by omega), List.drop_of_length_le (by rw [size_list]; omega)]; rfl
  | succ d ih =>
    intro n hn k hk
    obtain ⟨k, rfl⟩ : ∃ m, k = m + 1 := ⟨k - 1, by omega⟩
    have hlt : n < s.data.toList.length := by rw [size_list]; omega
    simp only [spec_tdText.l0]
    rw [if_pos (show (n : Int) < (s.size : Int) by omega), if_pos (by omega), bt_list s n (by omega), List.drop_eq_getElem_cons hlt, List.all_cons]
    have hi := isDig_iff (s.data.toList[n]'hlt)
    have hw : wrap64 ((n : Int) + 1) = ((n + 1 : Nat) : Int) := by unfold wrap64; omega
    cases hd : isDig (s.data.toList[n]'hlt) with
    | true =>
      have := hi.mp hd
      rw [if_neg this.1, if_neg this.2, hw, ih (n + 1) (by omega) k (by omega)]; simp
    | false =>
      by_cases c : ((s.data.toList[n]'hlt).toNat : Int) < 48
      · rw [if_pos c]; simp
      · by_cases c' : ((s.data.toList[n]'hlt).toNat : Int) > 57
        · rw [if_neg c, if_pos c']; simp
        · have := hi.mpr ⟨c, c'⟩; rw [hd] at this; cases this
theorem tdText_eq (s : ByteArray) (hs : s.size ≤ 9223372036854775806) (m : Int) (k : Nat) (hk : s.size < k) : spec_tdText.f k s m = some (decide (1 ≤ (s.size : Int) ∧ (s.size : Int) ≤ m) && digs s) := by
  unfold spec_tdText.f
  rw [l1In_eq]
  by_cases h : 1 ≤ (s.size : Int) ∧ (s.size : Int) ≤ m
  · rw [decide_eq_true h]
    have := tdText_l0 s hs s.size 0 (by omega) k hk
    simp only [Option.bind_some, if_true, Bool.true_and]
    simpa [digs] using this
  · rw [decide_eq_false h]; simp

theorem isShore_eq (s : ByteArray) (hs : s.size ≤ 9223372036854775806) : impl_IsShore.f s = some (decide (1 ≤ (s.size : Int) ∧ (s.size : Int) ≤ 14) && digs s) := by
  unfold impl_IsShore.f
  rw [within_eq]
  obtain ⟨t, ht, hd⟩ := trim_digs s (by omega)
  rw [ht]
  by_cases h : 1 ≤ (s.size : Int) ∧ (s.size : Int) ≤ 14
  · rw [decide_eq_true h]; simp only [Option.bind_some, if_true, Bool.true_and, hd]
  · rw [decide_eq_false h]; simp

theorem isTide_eq (s : ByteArray) (hs : s.size ≤ 9223372036854775806) : impl_IsTide.f s = some (decide (1 ≤ (s.size : Int) ∧ (s.size : Int) ≤ 12) && digs s) := by
  unfold impl_IsTide.f
  rw [within_eq]
  obtain ⟨t, ht, hd⟩ := trim_digs s (by omega)
  rw [ht]
  by_cases h : 1 ≤ (s.size : Int) ∧ (s.size : Int) ≤ 12
  · rw [decide_eq_true h]; simp only [Option.bind_some, if_true, Bool.true_and, hd]
  · rw [decide_eq_false h]; simp

def okShore (s : ByteArray) : Bool := decide (1 ≤ (s.size : Int) ∧ (s.size : Int) ≤ 14) && digs s
def okTide (s : ByteArray) : Bool := decide (1 ≤ (s.size : Int) ∧ (s.size : Int) ≤ 12) && digs s
theorem okShore_size {s : ByteArray} (h : okShore s = true) : 1 ≤ s.size ∧ s.size ≤ 14 := by
  unfold okShore at h; simp only [Bool.and_eq_true, decide_eq_true_eq] at h; omega
theorem okTide_size {s : ByteArray} (h : okTide s = true) : 1 ≤ s.size ∧ s.size ≤ 12 := by
  unfold okTide at h; simp only [Bool.and_eq_true, decide_eq_true_eq] at h; omega
theorem tdGood_eq (s t : ByteArray) (hs : s.size ≤ 9223372036854775806) (ht : t.size ≤ 9223372036854775806) (k : Nat) (h1 : s.size < k) (h2 : t.size < k) : spec_tdGood.f k s t = some (okShore s && okTide t) := by
  unfold spec_tdGood.f
  rw [tdText_eq s hs _ k h1, tdText_eq t ht _ k h2]
  show (some (okShore s)).bind _ = _
  cases okShore s <;> simp [okTide]
theorem areShore_eq (s t : ByteArray) (hs : s.size ≤ 9223372036854775806) (ht : t.size ≤ 9223372036854775806) : impl_areShore.f s t = some (okShore s && okTide t) := by
  unfold impl_areShore.f
  rw [isShore_eq s hs, isTide_eq t ht]
  show (some (okShore s)).bind _ = _
  cases okShore s <;> simp [okTide]

theorem dry_eq (s t : ByteArray) (p h : Int) : impl_isDry.f s t p h = spec_tdDry.f s t p h := by
  unfold impl_isDry.f spec_tdDry.f; rfl
/-- Whether a place is dry at an hour. -/
def dryB (s t : ByteArray) (p h : Int) : Bool := decide (p = 0) || decide (p = (s.size : Int) + 1) || decide ((bt s (p - 1)) > (bt t (h % (t.size : Int))))
theorem dry_is (s t : ByteArray) (p h : Int) (hs : s.size ≤ 14) (ht : 1 ≤ t.size ∧ t.size ≤ 12) (hp : 0 ≤ p ∧ p ≤ (s.size : Int) + 1) (hh : 0 ≤ h) : spec_tdDry.f s t p h = some (dryB s t p h) := by
  unfold spec_tdDry.f dryB
  have e1 : wrap64 ((s.size : Int) + 1) = (s.size : Int) + 1 := by unfold wrap64; omega
  have e2 : wrap64 (p - 1) = p - 1 := by unfold wrap64; omega
  have e3 : Int.tmod h (t.size : Int) = h % (t.size : Int) := Int.tmod_eq_emod_of_nonneg hh
  have e4 : 0 ≤ h % (t.size : Int) ∧ h % (t.size : Int) < (t.size : Int) := ⟨Int.emod_nonneg _ (by omega), Int.emod_lt_of_pos _ (by omega)⟩
  rw [e1, e2, e3]
  by_cases c0 : p = 0
  · rw [if_pos c0]; simp [c0]
  · rw [if_neg c0]
    by_cases c1 : p = (s.size : Int) + 1
    · rw [if_pos c1]; simp [c1]
    · rw [if_neg c1, if_pos (by omega), if_pos (by omega), if_neg (by omega), if_pos e4.1, if_pos e4.2]
      simp [c0, c1]

theorem toInt_l0 (l : List Int) (hl : l.length ≤ 1099511627776) : ∀ (q p z : List Int), l = p ++ q → z.length = q.length → ∀ k, q.length < k → laws_toIntS.l0 k l (p ++ z) (p.length : Int) = some l
  | [], p, z, h, hz, k, hk => by
    obtain ⟨k, rfl⟩ : ∃ m, k = m + 1 := ⟨k - 1, by omega⟩
    simp only [List.append_nil] at h
    obtain rfl : z = [] := List.eq_nil_of_length_eq_zero (by simpa using hz)
    simp only [laws_toIntS.l0]
    rw [if_neg (by rw [h]; omega), List.append_nil, h]
  | a :: q, p, z, h, hz, k, hk => by
    obtain ⟨k, rfl⟩ : ∃ m, k = m + 1 := ⟨k - 1, by omega⟩
    match z, hz with
    | b :: z, hz =>
      have hlen : l.length = p.length + (q.length + 1) := by rw [h]; simp
      have hr : rd l (p.length : Int) = a := by
        unfold rd; rw [h, List.getD_eq_getElem?_getD]; simp
      have e : (p ++ b :: z).set ((p.length : Int)).toNat (rd l (p.length : Int)) = (p ++ [a]) ++ z := by
        rw [hr, show ((p.length : Int)).toNat = p.length by omega, List.set_append_right _ _ (Nat.le_refl _)]; simp
      have e2 : wrap64 ((p.length : Int) + 1) = ((p ++ [a]).length : Int) := by rw [List.length_append]; simp only [List.length_cons, List.length_nil]; unfold wrap64; omega
      simp only [laws_toIntS.l0]
      rw [if_pos (by omega), if_pos (by omega), if_pos (by simp; omega), e, e2]
      exact toInt_l0 l hl q (p ++ [a]) z (by rw [h]; simp) (by simpa using hz) k (by simp at hk; omega)
theorem toInt_eq (l : List Int) (hl : l.length ≤ 1099511627776) (k : Nat) (hk : l.length < k) : laws_toIntS.f k l = some l := by
  unfold laws_toIntS.f
  rw [if_pos (by omega), if_pos (by omega)]
  have := toInt_l0 l hl l [] (List.replicate ((l.length : Int)).toNat 0) (by simp) (by simp) k hk
  simpa using this
theorem eq_l0 (l : List Int) (hl : l.length ≤ 1099511627776) (d : Nat) : ∀ i, i + d = l.length → ∀ k, d < k → laws_eqIntS.l0 k l l (i : Int) = some true := by
  induction d with
  | zero =>
    intro i hi k hk
    obtain ⟨k, rfl⟩ : ∃ m, k = m + 1 := ⟨k - 1, by omega⟩
    simp only [laws_eqIntS.l0]; rw [if_neg (by omega)]
  | succ d ih =>
    intro i hi k hk
    obtain ⟨k, rfl⟩ : ∃ m, k = m + 1 := ⟨k - 1, by omega⟩
    simp only [laws_eqIntS.l0]
    rw [if_pos (by omega), if_pos (by omega), if_pos (by omega), if_pos trivial, show wrap64 ((i : Int) + 1) = ((i + 1 : Nat) : Int) by unfold wrap64; omega]
    exact ih (i + 1) (by omega) k (by omega)
theorem eq_self (l : List Int) (hl : l.length ≤ 1099511627776) (k : Nat) (hk : l.length < k) : laws_eqIntS.f k l l = some true := by
  unfold laws_eqIntS.f
  rw [if_pos rfl]; exact eq_l0 l hl l.length 0 (by omega) k hk

def okLeap (p : Int) : Bool := decide (1 ≤ p ∧ p ≤ 15)
def okHour (p : Int) : Bool := decide (0 ≤ p ∧ p ≤ 1000)
theorem asked_eq (s t : ByteArray) (p h : Int) (hs : s.size ≤ 9223372036854775806) (ht : t.size ≤ 9223372036854775806) (k : Nat) (h1 : s.size < k) (h2 : t.size < k) : spec_tdAsked.f k s t p h = some (((okShore s && okTide t) && okLeap p) && okHour h) := by
  unfold spec_tdAsked.f spec_tdLeap.f spec_tdHour.f
  rw [tdGood_eq s t hs ht k h1 h2, l1In_eq, l1In_eq]
  unfold okLeap okHour
  cases (okShore s && okTide t) <;> cases decide (1 ≤ p ∧ p ≤ 15) <;> simp
theorem w_id {n : Int} (h0 : -9000 ≤ n) (h1 : n ≤ 9000) : wrap64 n = n := by unfold wrap64; omega
theorem w_two {n : Int} (h0 : 0 ≤ n) (h1 : n ≤ 1000) : wrap64 (wrap64 (n + 2) - 1) = n + 1 := by
  rw [w_id (n := n + 2) (by omega) (by omega), show n + 2 - 1 = n + 1 by omega]
  exact w_id (by omega) (by omega)
theorem w_sub {a b m : Int} (ha : 0 ≤ a ∧ a ≤ m) (hb : 0 ≤ b ∧ b ≤ m) (hm : m ≤ 1000) : wrap64 (a - b) = a - b := by unfold wrap64; omega
theorem w_neg {a b m : Int} (ha : 0 ≤ a ∧ a ≤ m) (hb : 0 ≤ b ∧ b ≤ m) (hm : m ≤ 1000) : wrap64 (-(a - b)) = -(a - b) := by unfold wrap64; omega
theorem abs_ok {x L : Int} (h1 : wrap64 (-x) = -x) : ∃ v, spec_l1Abs.f x = some v ∧ (v > L ↔ ¬ (-L ≤ x ∧ x ≤ L)) := by
  unfold spec_l1Abs.f spec_l1Most.f
  rw [h1]
  by_cases g : x > -x
  · rw [if_pos g]; exact ⟨_, rfl, by omega⟩
  · rw [if_neg g]; exact ⟨_, rfl, by omega⟩
set_option linter.unusedSectionVars false
section
variable (s t : ByteArray) (L st : Int) (w : List Int)
def inR (i : Nat) : Bool := decide (0 ≤ rd w (i : Int) ∧ rd w (i : Int) ≤ (s.size : Int) + 1)
def nearB (i : Nat) : Bool := decide (i = 0) || decide (-L ≤ rd w (i : Int) - rd w ((i : Int) - 1) ∧ rd w (i : Int) - rd w ((i : Int) - 1) ≤ L)
def goodB (i : Nat) : Bool := inR s w i && (dryB s t (rd w (i : Int)) (st + (i : Int)) && nearB L w i)
def allG : Nat → Nat → Bool
  | 0, _ => true
  | d + 1, i => goodB s t L st w i && allG d (i + 1)
def allR : Nat → Nat → Bool
  | 0, _ => true
  | d + 1, i => inR s w i && allR d (i + 1)
def fin : Bool := decide (0 < w.length) && (decide (rd w 0 = 0) && decide (rd w ((w.length : Int) - 1) = (s.size : Int) + 1))
theorem allG_R : ∀ d i, allG s t L st w d i = true → allR s w d i = true
  | 0, _, _ => rfl
  | d + 1, i, h => by
    simp only [allG, goodB, Bool.and_eq_true] at h
    simp only [allR, Bool.and_eq_true]; exact ⟨h.1.1, allG_R d (i + 1) h.2⟩
variable (hs : 1 ≤ s.size ∧ s.size ≤ 14) (ht : 1 ≤ t.size ∧ t.size ≤ 12) (hL : 1 ≤ L ∧ L ≤ 15) (hst : 0 ≤ st ∧ st ≤ 1000) (hw : w.length ≤ 1000)
include hs ht hL hst hw
theorem impl_l0 (d : Nat) : ∀ i, i + d = w.length → (i = 0 ∨ inR s w (i - 1) = true) → ∀ k, d < k → impl_IsTideWay.l0 k s t st w w (w.length : Int) (i : Int) s t L = some (allG s t L st w d i && fin s w, true) := by
  induction d with
  | zero =>
    intro i hi _ k hk
    obtain ⟨k, rfl⟩ : ∃ m, k = m + 1 := ⟨k - 1, by omega⟩
    simp only [impl_IsTideWay.l0]
    rw [if_neg (show ¬ ((i : Int) < (w.length : Int)) by omega)]
    have e1 : wrap64 ((w.length : Int) - 1) = (w.length : Int) - 1 := by unfold wrap64; omega
    have e2 : wrap64 (wrap64 ((s.size : Int) + 2) - 1) = (s.size : Int) + 1 := w_two (by omega) (by omega)
    simp only [allG, fin, Bool.true_and, e1]
    by_cases c : 0 < w.length
    · rw [if_pos (show (w.length : Int) > 0 by omega), if_pos (show 0 < (w.length : Int) by omega), decide_eq_true c]
      by_cases c0 : rd w 0 = 0
      · rw [if_pos c0, if_pos (show 0 ≤ (w.length : Int) - 1 by omega), if_pos (show (w.length : Int) - 1 < (w.length : Int) by omega), decide_eq_true c0]
        simp only [impl_crossing_places.f, Option.bind_some, e2, Bool.true_and]
        exact congrArg (fun b => some (b, true)) (by rw [Bool.eq_iff_iff]; simp)
      · rw [if_neg c0, decide_eq_false c0]; simp
    · rw [if_neg (by omega), decide_eq_false c]; simp
  | succ d ih =>
    intro i hi hp k hk
    obtain ⟨k, rfl⟩ : ∃ m, k = m + 1 := ⟨k - 1, by omega⟩
    have c : (i : Int) < (w.length : Int) := by omega
    have f0 : 0 ≤ (i : Int) := by omega
    have f1 : 0 ≤ st + (i : Int) := by omega
    have f2 : (s.size : Int) + 1 ≤ 1000 := by omega
    have f3 : i + 1 + d = w.length := by omega
    have f4 : d < k := by omega
    have f5 : ¬ i = 0 → (i : Int) > 0 := by omega
    have f6 : i = 0 → ¬ (i : Int) > 0 := by omega
    have f7 : ¬ i = 0 → 0 ≤ (i : Int) - 1 := by omega
    have f8 : (i : Int) - 1 < (w.length : Int) := by omega
    have f9 : ¬ i = 0 → ((i - 1 : Nat) : Int) = (i : Int) - 1 := by omega
    have e0 : wrap64 ((i : Int) + 1) = ((i + 1 : Nat) : Int) := by unfold wrap64; omega
    have e1 : wrap64 ((i : Int) - 1) = (i : Int) - 1 := by unfold wrap64; omega
    have e2 : wrap64 (wrap64 ((s.size : Int) + 2) - 1) = (s.size : Int) + 1 := w_two (by omega) (by omega)
    have e3 : wrap64 (st + (i : Int)) = st + (i : Int) := by unfold wrap64; omega
    have e4 : wrap64 (-L) = -L := by unfold wrap64; omega
    simp only [impl_IsTideWay.l0, if_pos c]
    rw [if_pos f0]
    simp only [impl_crossing_places.f, Option.bind_some, e2, e3]
    rw [within_eq]
    simp only [Option.bind_some, allG, goodB]
    by_cases c1 : inR s w i = true
    · have c1' := c1
      unfold inR at c1'
      rw [decide_eq_true_eq] at c1'
      rw [decide_eq_true c1', if_pos rfl, dry_eq, dry_is s t _ _ hs.2 ht c1' f1, c1]
      simp only [Option.bind_some, Bool.true_and]
      cases dryB s t (rd w (i : Int)) (st + (i : Int)) with
      | false => simp
      | true =>
        rw [if_pos rfl]
        simp only [Bool.true_and]
        by_cases c2 : i = 0
        · rw [if_neg (f6 c2), e0, ih (i + 1) f3 (.inr (by simpa using c1)) k f4]
          simp [nearB, c2]
        · rw [if_pos (f5 c2), e1, if_pos (f7 c2), if_pos f8]
          have hp' : inR s w (i - 1) = true := hp.resolve_left c2
          unfold inR at hp'
          rw [decide_eq_true_eq, f9 c2] at hp'
          have e5 := w_sub c1' hp' f2
          simp only [impl_crossing_near.f, e5, e4]
          rw [within_eq]
          simp only [Option.bind_some]
          by_cases c3 : -L ≤ rd w (i : Int) - rd w ((i : Int) - 1) ∧ rd w (i : Int) - rd w ((i : Int) - 1) ≤ L
          · rw [decide_eq_true c3, if_pos rfl, e0, ih (i + 1) f3 (.inr (by simpa using c1)) k f4]
            simp [nearB, c3]
          · rw [decide_eq_false c3]; simp [nearB, c3, c2]
    · have c1' := c1
      unfold inR at c1'
      rw [decide_eq_true_eq] at c1'
      rw [decide_eq_false c1']
      have : inR s w i = false := by simpa using c1
      simp [this]
theorem all_l0 (d : Nat) : ∀ i, i + d = w.length → ∀ k, d < k → spec_l1All.l0 k 0 ((s.size : Int) + 1) w (w.length : Int) (i : Int) = some (allR s w d i) := by
  induction d with
  | zero =>
    intro i hi k hk
    obtain ⟨k, rfl⟩ : ∃ m, k = m + 1 := ⟨k - 1, by omega⟩
    simp only [spec_l1All.l0]
    rw [if_neg (by omega)]; rfl
  | succ d ih =>
    intro i hi k hk
    obtain ⟨k, rfl⟩ : ∃ m, k = m + 1 := ⟨k - 1, by omega⟩
    have c : (i : Int) < (w.length : Int) := by omega
    have e0 : wrap64 ((i : Int) + 1) = ((i + 1 : Nat) : Int) := by unfold wrap64; omega
    simp only [spec_l1All.l0, if_pos c]
    rw [if_pos (show 0 ≤ (i : Int) by omega), l1In_eq, e0, ih (i + 1) (by omega) k (by omega)]
    simp only [Option.bind_some, allR, inR]
    by_cases h : 0 ≤ rd w (i : Int) ∧ rd w (i : Int) ≤ (s.size : Int) + 1
    · rw [decide_eq_true h, if_pos rfl, Bool.true_and]
    · rw [decide_eq_false h]; simp
theorem spec_l0 (d : Nat) : ∀ i, i + d = w.length → (i = 0 ∨ inR s w (i - 1) = true) → allR s w d i = true → ∀ k, d < k → spec_IsTideWay.l0 k s t L st w w (w.length : Int) (i : Int) = some (allG s t L st w d i, true) := by
  induction d with
  | zero =>
    intro i hi _ _ k hk
    obtain ⟨k, rfl⟩ : ∃ m, k = m + 1 := ⟨k - 1, by omega⟩
    simp only [spec_IsTideWay.l0]
    rw [if_neg (by omega)]; rfl
  | succ d ih =>
    intro i hi hp hall k hk
    obtain ⟨k, rfl⟩ : ∃ m, k = m + 1 := ⟨k - 1, by omega⟩
    simp only [allR, Bool.and_eq_true] at hall
    obtain ⟨c1, hall⟩ := hall
    have c : (i : Int) < (w.length : Int) := by omega
    have f0 : 0 ≤ (i : Int) := by omega
    have f1 : 0 ≤ st + (i : Int) := by omega
    have f2 : (s.size : Int) + 1 ≤ 1000 := by omega
    have f3 : i + 1 + d = w.length := by omega
    have f4 : d < k := by omega
    have f5 : ¬ i = 0 → (i : Int) > 0 := by omega
    have f6 : i = 0 → ¬ (i : Int) > 0 := by omega
    have f7 : ¬ i = 0 → 0 ≤ (i : Int) - 1 := by omega
    have f8 : (i : Int) - 1 < (w.length : Int) := by omega
    have f9 : ¬ i = 0 → ((i - 1 : Nat) : Int) = (i : Int) - 1 := by omega
    have e0 : wrap64 ((i : Int) + 1) = ((i + 1 : Nat) : Int) := by unfold wrap64; omega
    have e1 : wrap64 ((i : Int) - 1) = (i : Int) - 1 := by unfold wrap64; omega
    have e3 : wrap64 (st + (i : Int)) = st + (i : Int) := by unfold wrap64; omega
    have c1' := c1
    unfold inR at c1'
    rw [decide_eq_true_eq] at c1'
    simp only [spec_IsTideWay.l0, if_pos c]
    rw [if_pos f0, e3, dry_is s t _ _ hs.2 ht c1' f1]
    simp only [Option.bind_some, allG, goodB, c1, Bool.true_and]
    cases dryB s t (rd w (i : Int)) (st + (i : Int)) with
    | false => simp
    | true =>
      rw [if_pos rfl]
      simp only [Bool.true_and]
      by_cases c2 : i = 0
      · rw [if_neg (f6 c2), e0, ih (i + 1) f3 (.inr (by simpa using c1)) hall k f4]
        simp [nearB, c2]
      · rw [if_pos (f5 c2), e1, if_pos (f7 c2), if_pos f8]
        have hp' : inR s w (i - 1) = true := hp.resolve_left c2
        unfold inR at hp'
        rw [decide_eq_true_eq, f9 c2] at hp'
        have e5 := w_sub c1' hp' f2
        have ea := abs_ok (L := L) (w_neg c1' hp' f2)
        obtain ⟨v, hv, hv2⟩ := ea
        rw [e5, hv]
        simp only [Option.bind_some]
        by_cases c3 : -L ≤ rd w (i : Int) - rd w ((i : Int) - 1) ∧ rd w (i : Int) - rd w ((i : Int) - 1) ≤ L
        · rw [if_neg (fun h => hv2.mp h c3), e0, ih (i + 1) f3 (.inr (by simpa using c1)) hall k f4]
          simp [nearB, c3]
        · rw [if_pos (hv2.mpr c3)]; simp [nearB, c3, c2]
end
theorem FnExactIsTideWay : laws_FnExactIsTideWay.Pure := by
  intro s t L st w hs ht _ _ _ _ _
  unfold laws_FnExactIsTideWay.f
  by_cases c1 : (s.size : Int) > 1048576
  · exact ⟨0, by rw [if_pos c1]⟩
  by_cases c2 : (t.size : Int) > 1048576
  · exact ⟨0, by rw [if_neg c1, if_pos c2]⟩
  by_cases c3 : (w.length : Int) > 1048576
  · exact ⟨0, by rw [if_neg c1, if_neg c2, if_pos c3]⟩
  have main : ∃ r : Bool × Bool, ∀ k, s.size + t.size + w.length + 30 < k → spec_IsTideWay.f k s t L st w = some r ∧ impl_IsTideWay.f k s t L st w = some r := by
    have hS : ∀ k, s.size + t.size + w.length + 30 < k → spec_IsTideWay.f k s t L st w = spec_IsTideWay.j0 k s t L st w (if (((okShore s && okTide t) && okLeap L) && okHour st) = true then decide ((w.length : Int) > 1000) else true) := by
      intro k hk
      unfold spec_IsTideWay.f
      rw [asked_eq s t L st (by omega) (by omega) k (by omega) (by omega)]
      cases (((okShore s && okTide t) && okLeap L) && okHour st) <;> simp
    have hI : ∀ k, s.size + t.size + w.length + 30 < k → impl_IsTideWay.f k s t L st w = impl_IsTideWay.j0 k s t st w (if (((okShore s && okTide t) && okLeap L) && okHour st) = true then decide ((w.length : Int) > 1000) else true) s t L := by
      intro k hk
      unfold impl_IsTideWay.f impl_crossing_isRight.f impl_isHour.f
      rw [areShore_eq s t (by omega) (by omega), within_eq, within_eq]
      unfold okLeap okHour
      cases (okShore s && okTide t) <;> cases decide (1 ≤ L ∧ L ≤ 15) <;> cases decide (0 ≤ st ∧ st ≤ 1000) <;> simp
    by_cases hg : (((okShore s && okTide t) && okLeap L) && okHour st) = true ∧ w.length ≤ 1000
    · obtain ⟨hg, hw⟩ := hg
      have hg' := hg
      simp only [Bool.and_eq_true, okLeap, okHour, decide_eq_true_eq] at hg'
      have z1 := okShore_size hg'.1.1.1
      have z2 := okTide_size hg'.1.1.2
      refine ⟨(allG s t L st w w.length 0 && fin s w, true), fun k hk => ?_⟩
      rw [hS k hk, hI k hk, if_pos hg, decide_eq_false (show ¬ ((w.length : Int) > 1000) by omega)]
      obtain ⟨k, rfl⟩ : ∃ m, k = m + 2 := ⟨k - 2, by omega⟩
      constructor
      · have e1 : wrap64 ((w.length : Int) - 1) = (w.length : Int) - 1 := by unfold wrap64; omega
        have e2 : wrap64 ((s.size : Int) + 1) = (s.size : Int) + 1 := by unfold wrap64; omega
        simp only [spec_IsTideWay.j0, spec_IsTideWay.j1, Bool.false_eq_true, if_false, e1, e2]
        by_cases d0 : w.length = 0
        · rw [if_pos (by omega)]; simp [fin, d0]
        rw [if_neg (show ¬ ((w.length : Int) = 0) by omega), if_pos (show 0 < (w.length : Int) by omega)]
        by_cases d1 : rd w 0 = 0
        · rw [if_pos d1, if_pos (show 0 ≤ (w.length : Int) - 1 by omega), if_pos (show (w.length : Int) - 1 < (w.length : Int) by omega)]
          by_cases d2 : rd w ((w.length : Int) - 1) = (s.size : Int) + 1
          · rw [if_pos d2]
            unfold spec_l1All.f
            have ha := all_l0 s t L st w z1 z2 hg'.1.2 hg'.2 hw w.length 0 (by omega) (k + 1) (by omega)
            rw [show ((0 : Nat) : Int) = 0 from rfl] at ha
            rw [ha]
            simp only [Option.bind_some]
            cases hr : allR s w w.length 0 with
            | true =>
              have hl := spec_l0 s t L st w z1 z2 hg'.1.2 hg'.2 hw w.length 0 (by omega) (.inl rfl) hr k (by omega)
              rw [show ((0 : Nat) : Int) = 0 from rfl] at hl
              simp only [Bool.not_true, Bool.false_eq_true, if_false]
              rw [hl]
              have : fin s w = true := by simp [fin, d1, d2]; omega
              rw [this, Bool.and_true]
            | false =>
              have : allG s t L st w w.length 0 = false := by
                cases hG : allG s t L st w w.length 0 with
                | false => rfl
                | true => have := allG_R s t L st w _ _ hG; rw [hr] at this; cases this
              simp [this]
          · rw [if_neg d2]; simp [fin, d2]
        · rw [if_neg d1]; simp [fin, d1]
      · have hl := impl_l0 s t L st w z1 z2 hg'.1.2 hg'.2 hw w.length 0 (by omega) (.inl rfl) (k + 1) (by omega)
        simp only [impl_IsTideWay.j0, Bool.false_eq_true, if_false]
        exact hl
    · have e : (if (((okShore s && okTide t) && okLeap L) && okHour st) = true then decide ((w.length : Int) > 1000) else true) = true := by
        by_cases h1 : (((okShore s && okTide t) && okLeap L) && okHour st) = true
        · rw [if_pos h1, decide_eq_true]
          by_cases h2 : w.length ≤ 1000
          · exact absurd ⟨h1, h2⟩ hg
          · omega
        · rw [if_neg h1]
      refine ⟨(false, false), fun k hk => ?_⟩
      rw [hS k hk, hI k hk, e]
      obtain ⟨k, rfl⟩ : ∃ m, k = m + 1 := ⟨k - 1, by omega⟩
      exact ⟨by simp only [spec_IsTideWay.j0, if_true], by simp only [impl_IsTideWay.j0, if_true]⟩
  obtain ⟨r, hr⟩ := main
  refine ⟨s.size + t.size + w.length + 33, ?_⟩
  rw [if_neg c1, if_neg c2, if_neg c3, toInt_eq w (by omega) _ (by omega)]
  simp only [Option.bind_some]
  rw [(hr _ (by omega)).1]; simp only [Option.bind_some]
  rw [(hr _ (by omega)).2]; simp only [Option.bind_some]
  rw [if_neg (by simp)]
  simp only [laws_FnExactIsTideWay.j0, bne_self_eq_false, Bool.false_eq_true, if_false]
  rw [toInt_eq w (by omega) _ (by omega)]; simp only [Option.bind_some]
  rw [eq_self w (by omega) _ (by omega)]; simp

end Go.Proofs.YthglhfhepooggaaDoor.Pure
