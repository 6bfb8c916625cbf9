/- The pure law FnExactLeastTideLeap: for all arguments the printed function of the law answers true. No condition. -/
import Derived.Test.YteijbohbdhemoaaDoorPFnExactLeastTideLeapx6
namespace Go.Proofs.YteijbohbdhemoaaDoor.Pure
open Go.RowKit Go.Proofs.YteijbohbdhemoaaDoor.PFnExactLeastTideLeap Go.Proofs.YteijbohbdhemoaaDoorW.PrintWords Go.Proofs.YteijbohbdhemoaaDoorW.PrintLast Go.Proofs.YteijbohbdhemoaaDoorW.PrintMore
set_option linter.unusedVariables false
set_option linter.unusedSimpArgs false

theorem l1In_eq (a lo hi : Int) : spec_l1In.f a lo hi = some (decide (lo ≤ a ∧ a ≤ hi)) := by
  unfold spec_l1In.f
  by_cases h : lo ≤ a
  · rw [if_pos h]; simp [h]
  · rw [if_neg h]; simp [h]
theorem within_eq (a lo hi : Int) : impl_within.f a lo hi = some (decide (lo ≤ a ∧ a ≤ hi)) := by
  unfold impl_within.f
  by_cases h : lo ≤ a
  · rw [if_pos h]; simp [h]
  · rw [if_neg h]; simp [h]

def isDig (b : UInt8) : Bool := decide (48 ≤ b.toNat) && decide (b.toNat ≤ 57)
def digs (s : ByteArray) : Bool := s.data.toList.all isDig
theorem size_list (s : ByteArray) : s.data.toList.length = s.size := by rw [Array.length_toList]; rfl
theorem bt_list (s : ByteArray) (n : Nat) (h : n < s.size) : bt s (n : Int) = ((s.data.toList[n]'(by rw [size_list]; exact h)).toNat : Int) := by
  unfold bt
  rw [dif_pos (show (n : Int).toNat < s.size by omega)]
  rfl
theorem isDig_iff (b : UInt8) : isDig b = true ↔ ¬ ((b.toNat : Int) < 48) ∧ ¬ ((b.toNat : Int) > 57) := by
  unfold isDig; simp only [Bool.and_eq_true, decide_eq_true_eq]; omega
theorem contains_dig (x : UInt8) : ([48, 49, 50, 51, 52, 53, 54, 55, 56, 57] : List UInt8).contains x = isDig x := by
  rw [Bool.eq_iff_iff]
  unfold isDig
  simp only [List.contains_iff_mem, List.mem_cons, List.mem_nil_iff, or_false, Bool.and_eq_true, decide_eq_true_eq, ← UInt8.toNat_inj]
  simp only [UInt8.toNat_ofNat]
  omega
theorem drop_nil {p : UInt8 → Bool} {l : List UInt8} : l.dropWhile p = [] ↔ ∀ x ∈ l, p x = true := by
  induction l with
  | nil => simp
  | cons a l ih =>
    rw [List.dropWhile_cons]
    by_cases h : p a = true
    · rw [if_pos h, ih]; simp [h]
    · rw [if_neg h]; simp [h]
theorem drop_head {p : UInt8 → Bool} : ∀ {l : List UInt8} {a : UInt8} {r : List UInt8}, l.dropWhile p = a :: r → p a = false
  | [], _, _, h => by simp at h
  | b :: l, a, r, h => by
    rw [List.dropWhile_cons] at h
    by_cases hb : p b = true
    · rw [if_pos hb] at h; exact drop_head h
    · rw [if_neg hb] at h
      injection h with h1 _
      subst h1
      simpa using hb
theorem trim_nil (l cs : List UInt8) : Lib.trimS l cs = [] ↔ ∀ x ∈ l, cs.contains x = true := by
  unfold Lib.trimS Lib.trimLeftS
  rw [drop_nil]
  constructor
  · intro h
    have e : l.reverse.dropWhile (cs.contains ·) = [] := by
      cases hd : l.reverse.dropWhile (cs.contains ·) with
      | nil => rfl
      | cons a r =>
        have h1 := drop_head hd
        have h2 := h a (by unfold Lib.trimRightS; rw [hd]; simp)
        rw [h1] at h2; cases h2
    intro x hx
    exact drop_nil.mp e x (by simpa using hx)
  · intro h x hx
    unfold Lib.trimRightS at hx
    have : x ∈ l.reverse.dropWhile (cs.contains ·) := by simpa using hx
    exact h x (by have := (List.dropWhile_sublist (cs.contains ·) (l := l.reverse)).subset this; simpa using this)
theorem trim_digs (s : ByteArray) (h : s.size ≤ 9223372036854775807) : ∃ t : ByteArray, strings_Trim.f s (⟨#[48, 49, 50, 51, 52, 53, 54, 55, 56, 57]⟩ : ByteArray) = some t ∧ (t.toList == ([] : List UInt8)) = digs s := by
  unfold strings_Trim.f
  rw [if_pos ⟨h, by decide, by decide⟩]
  refine ⟨_, rfl, ?_⟩
  rw [Bool.eq_iff_iff]
  rw [Lib.toList_data]
  simp only [beq_iff_eq, digs, List.all_eq_true]
  show Lib.trimS s.data.toList [48, 49, 50, 51, 52, 53, 54, 55, 56, 57] = [] ↔ _
  rw [trim_nil]
  constructor
  · intro h x hx; rw [← contains_dig]; exact h x hx
  · intro h x hx; rw [contains_dig]; exact h x hx
theorem tdText_l0 (s : ByteArray) (hs : s.size ≤ 9223372036854775806) (d : Nat) : ∀ n, n + d = s.size → ∀ k, d < k → spec_tdText.l0 k s (n : Int) = some ((s.data.toList.drop n).all isDig) := by
  induction d with
  | zero =>
    intro n hn k hk
    obtain ⟨k, rfl⟩ : ∃ m, k = m + 1 := ⟨k - 1, by omega⟩
    simp only [spec_tdText.l0]
    rw [if_neg (by omega), List.drop_of_length_le (by rw [size_list]; omega)]; rfl
  | succ d ih =>
    intro n hn k hk
    obtain ⟨k, rfl⟩ : ∃ m, k = m + 1 := ⟨k - 1, by omega⟩
    have hlt : n < s.data.toList.length := by rw [size_list]; omega
    simp only [spec_tdText.l0]
    rw [if_pos (show (n : Int) < (s.size : Int) by omega), if_pos (by omega), bt_list s n (by omega), List.drop_eq_getElem_cons hlt, List.all_cons]
    have hi := isDig_iff (s.data.toList[n]'hlt)
    have hw : wrap64 ((n : Int) + 1) = ((n + 1 : Nat) : Int) := by unfold wrap64; omega
    cases hd : isDig (s.data.toList[n]'hlt) with
    | true =>
      have := hi.mp hd
      rw [if_neg this.1, if_neg this.2, hw, ih (n + 1) (by omega) k (by omega)]; simp
    | false =>
      by_cases c : ((s.data.toList[n]'hlt).toNat : Int) < 48
      · rw [if_pos c]; simp
      · by_cases c' : ((s.data.toList[n]'hlt).toNat : Int) > 57
        · rw [if_neg c, if_pos c']; simp
        · have := hi.mpr ⟨c, c'⟩; rw [hd] at this; cases this
theorem tdText_eq (s : ByteArray) (hs : s.size ≤ 9223372036854775806) (m : Int) (k : Nat) (hk : s.size < k) : spec_tdText.f k s m = some (decide (1 ≤ (s.size : Int) ∧ (s.size : Int) ≤ m) && digs s) := by
  unfold spec_tdText.f
  rw [l1In_eq]
  by_cases h : 1 ≤ (s.size : Int) ∧ (s.size : Int) ≤ m
  · rw [decide_eq_true h]
    have := tdText_l0 s hs s.size 0 (by omega) k hk
    simp only [Option.bind_some, if_true, Bool.true_and]
    simpa [digs] using this
  · rw [decide_eq_false h]; simp

theorem isShore_eq (s : ByteArray) (hs : s.size ≤ 9223372036854775806) : impl_IsShore.f s = some (decide (1 ≤ (s.size : Int) ∧ (s.size : Int) ≤ 14) && digs s) := by
  unfold impl_IsShore.f
  rw [within_eq]
  obtain ⟨t, ht, hd⟩ := trim_digs s (by omega)
  rw [ht]
  by_cases h : 1 ≤ (s.size : Int) ∧ (s.size : Int) ≤ 14
  · rw [decide_eq_true h]; simp only [Option.bind_some, if_true, Bool.true_and, hd]
  · rw [decide_eq_false h]; simp

theorem isTide_eq (s : ByteArray) (hs : s.size ≤ 9223372036854775806) : impl_IsTide.f s = some (decide (1 ≤ (s.size : Int) ∧ (s.size : Int) ≤ 12) && digs s) := by
  unfold impl_IsTide.f
  rw [within_eq]
  obtain ⟨t, ht, hd⟩ := trim_digs s (by omega)
  rw [ht]
  by_cases h : 1 ≤ (s.size : Int) ∧ (s.size : Int) ≤ 12
  · rw [decide_eq_true h]; simp only [Option.bind_some, if_true, Bool.true_and, hd]
  · rw [decide_eq_false h]; simp

def okShore (s : ByteArray) : Bool := decide (1 ≤ (s.size : Int) ∧ (s.size : Int) ≤ 14) && digs s
def okTide (s : ByteArray) : Bool := decide (1 ≤ (s.size : Int) ∧ (s.size : Int) ≤ 12) && digs s
theorem okShore_size {s : ByteArray} (h : okShore s = true) : 1 ≤ s.size ∧ s.size ≤ 14 := by
  unfold okShore at h; simp only [Bool.and_eq_true, decide_eq_true_eq] at h; omega
theorem okTide_size {s : ByteArray} (h : okTide s = true) : 1 ≤ s.size ∧ s.size ≤ 12 := by
  unfold okTide at h; simp only [Bool.and_eq_true, decide_eq_true_eq] at h; omega
theorem tdGood_eq (s t : ByteArray) (hs : s.size ≤ 9223372036854775806) (ht : t.size ≤ 9223372036854775806) (k : Nat) (h1 : s.size < k) (h2 : t.size < k) : spec_tdGood.f k s t = some (okShore s && okTide t) := by
  unfold spec_tdGood.f
  rw [tdText_eq s hs _ k h1, tdText_eq t ht _ k h2]
  show (some (okShore s)).bind _ = _
  cases okShore s <;> simp [okTide]
theorem areShore_eq (s t : ByteArray) (hs : s.size ≤ 9223372036854775806) (ht : t.size ≤ 9223372036854775806) : impl_areShore.f s t = some (okShore s && okTide t) := by
  unfold impl_areShore.f
  rw [isShore_eq s hs, isTide_eq t ht]
  show (some (okShore s)).bind _ = _
  cases okShore s <;> simp [okTide]

theorem dry_eq (s t : ByteArray) (p h : Int) : impl_isDry.f s t p h = spec_tdDry.f s t p h := by
  unfold impl_isDry.f spec_tdDry.f; rfl
/-- Whether a place is dry at an hour. -/
def dryB (s t : ByteArray) (p h : Int) : Bool := decide (p = 0) || decide (p = (s.size : Int) + 1) || decide ((bt s (p - 1)) > (bt t (h % (t.size : Int))))
theorem dry_is (s t : ByteArray) (p h : Int) (hs : s.size ≤ 14) (ht : 1 ≤ t.size ∧ t.size ≤ 12) (hp : 0 ≤ p ∧ p ≤ (s.size : Int) + 1) (hh : 0 ≤ h) : spec_tdDry.f s t p h = some (dryB s t p h) := by
  unfold spec_tdDry.f dryB
  have e1 : wrap64 ((s.size : Int) + 1) = (s.size : Int) + 1 := by unfold wrap64; omega
  have e2 : wrap64 (p - 1) = p - 1 := by unfold wrap64; omega
  have e3 : Int.tmod h (t.size : Int) = h % (t.size : Int) := Int.tmod_eq_emod_of_nonneg hh
  have e4 : 0 ≤ h % (t.size : Int) ∧ h % (t.size : Int) < (t.size : Int) := ⟨Int.emod_nonneg _ (by omega), Int.emod_lt_of_pos _ (by omega)⟩
  rw [e1, e2, e3]
  by_cases c0 : p = 0
  · rw [if_pos c0]; simp [c0]
  · rw [if_neg c0]
    by_cases c1 : p = (s.size : Int) + 1
    · rw [if_pos c1]; simp [c1]
    · rw [if_neg c1, if_pos (by omega), if_pos (by omega), if_neg (by omega), if_pos e4.1, if_pos e4.2]
      simp [c0, c1]
namespace Tide
def near (L a b : Nat) : Bool := decide (a ≤ b + L ∧ b ≤ a + L)
def reach (P L : Nat) (dry : Nat → Nat → Bool) (s : Nat) : Nat → Nat → Bool
  | 0, p => p == 0
  | h + 1, p => dry p (s + h + 1) && (List.range P).any fun q => reach P L dry s h q && near L q p
def first (P L : Nat) (dry : Nat → Nat → Bool) (s : Nat) : Nat → Nat → Int
  | 0, p => if p = 0 then (s : Int) else -1
  | h + 1, p => if reach P L dry s (h + 1) p = true ∧ first P L dry s h p < 0 then ((s + h + 1 : Nat) : Int) else first P L dry s h p
section
variable {P L T : Nat} {dry : Nat → Nat → Bool} {s : Nat}

theorem reach_succ {h p : Nat} : reach P L dry s (h + 1) p = true ↔ dry p (s + h + 1) = true ∧ ∃ q, q < P ∧ reach P L dry s h q = true ∧ near L q p = true := by
  simp only [reach, Bool.and_eq_true, List.any_eq_true, List.mem_range]

theorem near_self (a : Nat) : near L a a = true := by simp [near]

theorem stay (h0 : ∀ h, dry 0 h = true) (hP : 0 < P) : ∀ h, reach P L dry s h 0 = true
  | 0 => by simp [reach]
  | h + 1 => reach_succ.mpr ⟨h0 _, 0, hP, stay h0 hP h, near_self 0⟩

theorem later (hd : ∀ p h, dry p (h + T) = dry p h) (h0 : ∀ h, dry 0 h = true) (hP : 0 < P) : ∀ h p, reach P L dry s h p = true → reach P L dry s (h + T) p = true
  | 0, p, h => by
    have : p = 0 := by simpa [reach] using h
    subst this
    exact stay h0 hP _
  | h + 1, p, hr => by
    obtain ⟨a, q, b, c, d⟩ := reach_succ.mp hr
    have e : h + 1 + T = (h + T) + 1 := by omega
    rw [e]
    refine reach_succ.mpr ⟨?_, q, b, later hd h0 hP h q c, d⟩
    have := hd p (s + h + 1)
    rw [show s + (h + T) + 1 = s + h + 1 + T by omega, this]
    exact a

/-- Once a tide brings nothing new at its end, no later hour brings anything new. -/
theorem still (hd : ∀ p h, dry p (h + T) = dry p h) {j : Nat} (hj : ∀ p, p < P → reach P L dry s (j + T) p = true → reach P L dry s j p = true) : ∀ d p, p < P → reach P L dry s (j + d + T) p = true → reach P L dry s (j + d) p = true
  | 0, p, hp, h => hj p hp h
  | d + 1, p, hp, h => by
    have e : j + (d + 1) + T = (j + d + T) + 1 := by omega
    rw [e] at h
    obtain ⟨a, q, b, c, e2⟩ := reach_succ.mp h
    rw [show j + (d + 1) = j + d + 1 by omega]
    refine reach_succ.mpr ⟨?_, q, b, still hd hj d q b c, e2⟩
    have := hd p (s + (j + d) + 1)
    rw [← this, show s + (j + d) + 1 + T = s + (j + d + T) + 1 by omega]
    exact a

def count (P : Nat) (f : Nat → Bool) : Nat := ((List.range P).filter f).length
theorem count_le (P : Nat) (f : Nat → Bool) : count P f ≤ P := by
  have := List.length_filter_le f (List.range P); simpa [count] using this
theorem count_mono {P : Nat} {f g : Nat → Bool} (h : ∀ p, p < P → f p = true → g p = true) : count P f ≤ count P g := by
  induction P with
  | zero => simp [count]
  | succ P ih =>
    have := ih fun p hp => h p (by omega)
    have hP := h P (by omega)
    simp only [count, List.range_succ, List.filter_append, List.length_append] at this ⊢
    cases hf : f P <;> cases hg : g P <;> simp [hf, hg] at hP ⊢ <;> omega
theorem count_lt {P : Nat} {f g : Nat → Bool} (h : ∀ p, p < P → f p = true → g p = true) {q : Nat} (hq : q < P) (hf : f q = false) (hg : g q = true) : count P f < count P g := by
  induction P with
  | zero => omega
  | succ P ih =>
    have hP := h P (by omega)
    have hm : count P f ≤ count P g := count_mono fun p hp => h p (by omega)
    by_cases e : q = P
    · subst e
      simp only [count, List.range_succ, List.filter_append, List.length_append] at hm ⊢
      simp [hf, hg]; omega
    · have := ih (fun p hp => h p (by omega)) (by omega)
      simp only [count, List.range_succ, List.filter_append, List.length_append] at this ⊢
      cases hf' : f P <;> cases hg' : g P <;> simp [hf', hg'] at hP ⊢ <;> omega

/-- At some tide among the first P ones nothing new comes. -/
theorem some_still (hd : ∀ p h, dry p (h + T) = dry p h) (h0 : ∀ h, dry 0 h = true) (hP : 0 < P) : ∃ j, j < P ∧ ∀ p, p < P → reach P L dry s (j * T + T) p = true → reach P L dry s (j * T) p = true := by
  refine Classical.byContradiction fun hn => ?_
  have step : ∀ j, j < P → ∃ p, p < P ∧ reach P L dry s (j * T + T) p = true ∧ reach P L dry s (j * T) p = false := by
    intro j hj
    refine Classical.byContradiction fun h => hn ⟨j, hj, fun p hp hr => ?_⟩
    cases hc : reach P L dry s (j * T) p with
    | true => rfl
    | false => exact absurd ⟨p, hp, hr, hc⟩ h
  have grow : ∀ j, j ≤ P → j + 1 ≤ count P (reach P L dry s (j * T)) := by
    intro j
    induction j with
    | zero =>
      intro _
      have := count_lt (P := P) (f := fun _ => false) (g := reach P L dry s (0 * T)) (fun _ _ h => by cases h) (q := 0) hP rfl (stay h0 hP _)
      omega
    | succ j ih =>
      intro hj
      obtain ⟨p, hp, h1, h2⟩ := step j (by omega)
      have e : (j + 1) * T = j * T + T := by rw [Nat.add_mul, Nat.one_mul]
      rw [e]
      have := count_lt (P := P) (f := reach P L dry s (j * T)) (g := reach P L dry s (j * T + T)) (fun p _ h => later hd h0 hP _ p h) hp h2 h1
      have := ih (by omega)
      omega
  have h1 := grow P (Nat.le_refl _)
  have := count_le P (reach P L dry s (P * T))
  omega

theorem back (hd : ∀ p h, dry p (h + T) = dry p h) (h0 : ∀ h, dry 0 h = true) (hP : 0 < P) {h p : Nat} (hp : p < P) (hh : P * T ≤ h + T) (hr : reach P L dry s (h + T) p = true) : reach P L dry s h p = true := by
  obtain ⟨j, hj, hs⟩ := some_still (s := s) (L := L) hd h0 hP
  have hle : j * T ≤ h := by
    have : (j + 1) * T ≤ P * T := Nat.mul_le_mul_right T (by omega)
    rw [Nat.add_mul, Nat.one_mul] at this
    omega
  have := still hd hs (h - j * T) p hp
  rw [show j * T + (h - j * T) = h by omega] at this
  exact this hr

/-- Whatever is reached at all is reached within P tides. -/
theorem within_tides (hd : ∀ p h, dry p (h + T) = dry p h) (h0 : ∀ h, dry 0 h = true) (hP : 0 < P) (hT : 0 < T) (h : Nat) : ∀ p, p < P → reach P L dry s h p = true → ∃ h', h' ≤ P * T ∧ h' ≤ h ∧ reach P L dry s h' p = true := by
  induction h using Nat.strongRecOn with
  | _ h ih =>
    intro p hp hr
    by_cases hle : h ≤ P * T
    · exact ⟨h, hle, Nat.le_refl _, hr⟩
    · have hT' : T ≤ P * T := Nat.le_mul_of_pos_left T hP
      obtain ⟨m, rfl⟩ : ∃ m, h = m + T := ⟨h - T, by omega⟩
      obtain ⟨h', a, b, c⟩ := ih m (by omega) p hp (back hd h0 hP hp (by omega) hr)
      exact ⟨h', a, by omega, c⟩

theorem first_neg : ∀ n p, first P L dry s n p < 0 → first P L dry s n p = -1 ∧ ∀ h, h ≤ n → reach P L dry s h p = false
  | 0, p, hf => by
    simp only [first] at hf ⊢
    by_cases hp : p = 0
    · rw [if_pos hp] at hf; omega
    · rw [if_neg hp]
      refine ⟨rfl, fun h hh => ?_⟩
      obtain rfl : h = 0 := by omega
      simp [reach, hp]
  | n + 1, p, hf => by
    simp only [first] at hf ⊢
    split at hf
    · omega
    · rename_i hc
      obtain ⟨a, b⟩ := first_neg n p hf
      rw [if_neg hc]
      refine ⟨a, fun h hh => ?_⟩
      by_cases e : h = n + 1
      · subst e
        cases hr : reach P L dry s (n + 1) p with
        | false => rfl
        | true => exact absurd ⟨hr, hf⟩ hc
      · exact b h (by omega)
theorem first_pos : ∀ n p, 0 ≤ first P L dry s n p → ∃ h, h ≤ n ∧ first P L dry s n p = ((s + h : Nat) : Int) ∧ reach P L dry s h p = true ∧ ∀ h', h' < h → reach P L dry s h' p = false
  | 0, p, hf => by
    simp only [first] at hf ⊢
    by_cases hp : p = 0
    · rw [if_pos hp]; exact ⟨0, Nat.le_refl _, rfl, by simp [reach, hp], fun h' hh => by omega⟩
    · rw [if_neg hp] at hf; omega
  | n + 1, p, hf => by
    simp only [first] at hf ⊢
    split
    · rename_i hc
      exact ⟨n + 1, Nat.le_refl _, rfl, hc.1, fun h' hh => (first_neg n p hc.2).2 h' (by omega)⟩
    · rename_i hc
      rw [if_neg hc] at hf
      obtain ⟨h, a, b, c, d⟩ := first_pos n p hf
      exact ⟨h, by omega, b, c, d⟩
theorem first_of_reach {n p h : Nat} (hh : h ≤ n) (hr : reach P L dry s h p = true) : 0 ≤ first P L dry s n p := by
  rcases Int.lt_or_le (first P L dry s n p) 0 with c | c
  · have := (first_neg n p c).2 h hh; rw [hr] at this; cases this
  · exact c
theorem first_unique {n p h : Nat} (hh : h ≤ n) (hr : reach P L dry s h p = true) (hn : ∀ h', h' < h → reach P L dry s h' p = false) : first P L dry s n p = ((s + h : Nat) : Int) := by
  obtain ⟨h2, a, b, c, d⟩ := first_pos n p (first_of_reach hh hr)
  have : h2 = h := by
    rcases Nat.lt_trichotomy h2 h with l | l | l
    · have := hn h2 l; rw [c] at this; cases this
    · exact l
    · have := d h l; rw [hr] at this; cases this
  rw [b, this]
/-- More rounds than P tides tell nothing new. -/
theorem first_enough (hd : ∀ p h, dry p (h + T) = dry p h) (h0 : ∀ h, dry 0 h = true) (hP : 0 < P) (hT : 0 < T) {n p : Nat} (hp : p < P) (hn : P * T ≤ n) : first P L dry s n p = first P L dry s (P * T) p := by
  rcases Int.lt_or_le (first P L dry s (P * T) p) 0 with c | c
  · obtain ⟨a, b⟩ := first_neg _ p c
    rcases Int.lt_or_le (first P L dry s n p) 0 with c' | c'
    · rw [a, (first_neg _ p c').1]
    · obtain ⟨h, _, _, hr, _⟩ := first_pos n p c'
      obtain ⟨h', x, _, z⟩ := within_tides hd h0 hP hT h p hp hr
      have := b h' x; rw [z] at this; cases this
  · obtain ⟨h, x, y, z, u⟩ := first_pos _ p c
    rw [y]; exact first_unique (by omega) z u
end
end Tide

section
variable {α : Type} {P : Nat} {f g : Nat → α}
def tab (P : Nat) (f : Nat → α) : List α := (List.range P).map f
theorem tab_len : (tab P f).length = P := by simp [tab]
theorem tab_congr (h : ∀ i, i < P → f i = g i) : tab P f = tab P g := by
  unfold tab
  exact List.map_congr_left fun i hi => h i (List.mem_range.mp hi)
theorem tab_get (d : α) {p : Nat} (h : p < P) : (tab P f).getD p d = f p := by
  rw [List.getD_eq_getElem?_getD, tab, List.getElem?_map, List.getElem?_range h]; rfl
theorem tab_set {p : Nat} {v : α} : (tab P f).set p v = tab P (fun i => if i = p then v else f i) := by
  apply List.ext_getElem
  · simp [tab]
  · intro i h1 h2
    rw [List.getElem_set]
    simp only [tab, List.getElem_map, List.getElem_range]
    by_cases e : p = i
    · rw [if_pos e, if_pos e.symm]
    · rw [if_neg e, if_neg (fun h => e h.symm)]
theorem tab_const (v : α) : List.replicate P v = tab P (fun _ => v) := by
  apply List.ext_getElem
  · simp [tab]
  · intro i h1 h2; simp [tab]
end
theorem rdOf_tab {α : Type} {P : Nat} {f : Nat → α} (d : α) {p : Nat} (h : p < P) : rdOf d (tab P f) (p : Int) = f p := by
  unfold rdOf; rw [show ((p : Int)).toNat = p by omega]; exact tab_get d h
theorem rd_tab {P : Nat} {f : Nat → Int} {p : Nat} (h : p < P) : rd (tab P f) (p : Int) = f p := by
  unfold rd; rw [show ((p : Int)).toNat = p by omega]; exact tab_get 0 h
theorem w_nat {n : Nat} (h : n ≤ 100000) : wrap64 ((n : Int) + 1) = ((n + 1 : Nat) : Int) := by unfold wrap64; omega
theorem w_id {n : Int} (h0 : -100000 ≤ n) (h1 : n ≤ 100000) : wrap64 n = n := by unfold wrap64; omega

def okLeap (p : Int) : Bool := decide (1 ≤ p ∧ p ≤ 15)
def okHour (p : Int) : Bool := decide (0 ≤ p ∧ p ≤ 1000)
theorem isRight_eq (s t : ByteArray) (p : Int) (hs : s.size ≤ 9223372036854775806) (ht : t.size ≤ 9223372036854775806) : impl_crossing_isRight.f s t p = some ((okShore s && okTide t) && okLeap p) := by
  unfold impl_crossing_isRight.f
  rw [areShore_eq s t hs ht, within_eq]
  unfold okLeap
  cases (okShore s && okTide t) <;> simp

theorem places_eq (s t : ByteArray) (p : Int) (hs : s.size ≤ 14) : impl_crossing_places.f s t p = some ((s.size + 2 : Nat) : Int) := by
  unfold impl_crossing_places.f; rw [w_id (by omega) (by omega)]; rfl
theorem w_end {a b st n : Nat} (h : a * b = n) (hn : n ≤ 192) (hst : st ≤ 2000) : wrap64 ((st : Int) + wrap64 ((a : Int) * (b : Int))) = ((st + n : Nat) : Int) := by
  rw [← Int.natCast_mul, h, w_id (n := (n : Int)) (by omega) (by omega), w_id (by omega) (by omega)]; omega
def anyFrom (f : Nat → Bool) : Nat → Nat → Bool
  | _, 0 => false
  | q, d + 1 => f q || anyFrom f (q + 1) d
theorem anyFrom_iff {f : Nat → Bool} : ∀ {d q}, anyFrom f q d = true ↔ ∃ i, q ≤ i ∧ i < q + d ∧ f i = true
  | 0, q => by
    simp only [anyFrom]
    constructor
    · intro h; cases h
    · rintro ⟨i, a, b, _⟩; omega
  | d + 1, q => by
    simp only [anyFrom, Bool.or_eq_true, anyFrom_iff (d := d) (q := q + 1)]
    constructor
    · rintro (h | ⟨i, a, b, c⟩)
      · exact ⟨q, by omega, by omega, h⟩
      · exact ⟨i, by omega, by omega, c⟩
    · rintro ⟨i, a, b, c⟩
      by_cases e : i = q
      · subst e; exact .inl c
      · exact .inr ⟨i, by omega, by omega, c⟩
/-- Dry, by natural numbers. -/
def dryN (s t : ByteArray) (p h : Nat) : Bool := dryB s t (p : Int) (h : Int)
theorem dryN_tide (s t : ByteArray) (p h : Nat) (ht : 1 ≤ t.size) : dryN s t p (h + t.size) = dryN s t p h := by
  unfold dryN dryB
  rw [show ((h + t.size : Nat) : Int) = (h : Int) + (t.size : Int) by omega, Int.add_emod_right]
theorem dryN_bank (s t : ByteArray) (h : Nat) : dryN s t 0 h = true := by unfold dryN dryB; simp
theorem dryN_end (s t : ByteArray) (h : Nat) : dryN s t (s.size + 1) h = true := by
  unfold dryN dryB
  rw [decide_eq_true (show ((s.size + 1 : Nat) : Int) = (s.size : Int) + 1 by omega)]; simp
abbrev rch (s t : ByteArray) (L st h p : Nat) : Bool := Tide.reach (s.size + 2) L (dryN s t) st h p
abbrev fst (s t : ByteArray) (L st n p : Nat) : Int := Tide.first (s.size + 2) L (dryN s t) st n p
set_option linter.unusedSectionVars false
section
variable (s t : ByteArray) (L st : Nat) (hs : 1 ≤ s.size ∧ s.size ≤ 14) (ht : 1 ≤ t.size ∧ t.size ≤ 12) (hL : 1 ≤ L ∧ L ≤ 15)
include hs ht hL
theorem dry_nat (p h : Nat) (hp : p < s.size + 2) : spec_tdDry.f s t (p : Int) (h : Int) = some (dryN s t p h) := dry_is s t _ _ hs.2 ht (by omega) (by omega)
theorem near_nat (q p : Nat) (hq : q < s.size + 2) (hp : p < s.size + 2) : impl_crossing_near.f s t (L : Int) (q : Int) (p : Int) = some (Tide.near L q p) := by
  unfold impl_crossing_near.f
  rw [w_id (n := (p : Int) - (q : Int)) (by omega) (by omega), w_id (n := -(L : Int)) (by omega) (by omega), within_eq]
  unfold Tide.near
  simp only [Option.bind_some]
  exact congrArg some (decide_eq_decide.mpr (by omega))
/-- One place of the reference's step. -/
theorem step_l1 (h p : Nat) (hh : h ≤ 5000) (hp : p < s.size + 2) (at_ : Nat → Bool) (r : List Bool) (e : Nat) (he : e = min (s.size + 2) (p + L + 1)) (d : Nat) : ∀ (q : Nat) (g : Nat → Bool), q + d = e →
    Ev (fun k => spec_tdStep.l0 k s t (L : Int) (h : Int) (tab (s.size + 2) at_) (tab (s.size + 2) (fun i => if i = p then g p || (dryN s t p (h + 1) && anyFrom at_ q d) else g i)) ((s.size + 2 : Nat) : Int) ((p + 1 : Nat) : Int)) r →
    Ev (fun k => spec_tdStep.l1 k s t (L : Int) (h : Int) (tab (s.size + 2) at_) (tab (s.size + 2) g) (p : Int) (q : Int) ((s.size + 2 : Nat) : Int) (p : Int)) r := by
  have ewp := Aside0.mk (show wrap64 ((p : Int) + 1) = ((p + 1 : Nat) : Int) from w_nat (by omega))
  have ewl := Aside0.mk (show wrap64 ((p : Int) + (L : Int)) = ((p + L : Nat) : Int) from by rw [w_id (by omega) (by omega)]; omega)
  have ewh := Aside0.mk (show wrap64 ((h : Int) + 1) = ((h + 1 : Nat) : Int) from w_nat (by omega))
  have hsame : ∀ (b : Bool) (g : Nat → Bool), b = false → tab (s.size + 2) (fun i => if i = p then g p || b else g i) = tab (s.size + 2) g := by
    intro b g hb
    refine tab_congr fun i _ => ?_
    by_cases c : i = p
    · rw [if_pos c, hb, c]; simp
    · rw [if_neg c]
  induction d with
  | zero =>
    intro q g hq hE
    rw [hsame _ g (by simp [anyFrom])] at hE
    refine Ev.step (fun k => ?_) hE
    simp only [spec_tdStep.l1, tab_len, ewp.out, ewl.out]
    by_cases c : q < s.size + 2
    · rw [if_pos (by omega), if_neg (by omega)]
    · rw [if_neg (by omega)]
  | succ d ih =>
    intro q g hq hE
    have c1 : (q : Int) < ((s.size + 2 : Nat) : Int) := by omega
    have c2 : (q : Int) ≤ ((p + L : Nat) : Int) := by omega
    have c3 : 0 ≤ (p : Int) := by omega
    have c4 : (p : Int) < ((s.size + 2 : Nat) : Int) := by omega
    have c5 : 0 ≤ (q : Int) := by omega
    have ewq := Aside0.mk (show wrap64 ((q : Int) + 1) = ((q + 1 : Nat) : Int) from w_nat (by omega))
    have hq2 : q < s.size + 2 := by omega
    cases hd : dryN s t p (h + 1) with
    | false =>
      rw [hsame _ g (by rw [hd]; simp)] at hE
      refine Ev.step (fun k => ?_) hE
      simp only [spec_tdStep.l1, tab_len, ewp.out, ewl.out, ewh.out]
      rw [if_pos c1, if_pos c2, dry_nat s t L hs ht hL p (h + 1) hp, hd]
      simp
    | true =>
      rw [hd] at hE
      have step : ∀ v : Bool, v = (g p || at_ q) → Ev (fun k => spec_tdStep.l1 k s t (L : Int) (h : Int) (tab (s.size + 2) at_) (tab (s.size + 2) (fun i => if i = p then v else g i)) (p : Int) ((q + 1 : Nat) : Int) ((s.size + 2 : Nat) : Int) (p : Int)) r := by
        intro v hv
        refine ih (q + 1) _ (by omega) ?_
        rw [hd]
        have e2 : tab (s.size + 2) (fun i => if i = p then (if p = p then v else g p) || (true && anyFrom at_ (q + 1) d) else if i = p then v else g i) = tab (s.size + 2) (fun i => if i = p then g p || (true && anyFrom at_ q (d + 1)) else g i) := by
          refine tab_congr fun i _ => ?_
          by_cases c : i = p
          · rw [if_pos c, if_pos c, if_pos rfl, hv]; simp only [anyFrom, Bool.true_and, Bool.or_assoc]
          · rw [if_neg c, if_neg c, if_neg c]
        rw [e2]; exact hE
      cases hg : g p with
      | true =>
        refine Ev.step (fun k => ?_) (step true (by rw [hg]; rfl))
        simp only [spec_tdStep.l1, tab_len, ewp.out, ewl.out, ewh.out, ewq.out]
        rw [if_pos c1, if_pos c2, dry_nat s t L hs ht hL p (h + 1) hp, hd]
        simp only [Option.bind_some, if_true]
        rw [if_pos c3, if_pos c4, rdOf_tab false hp, if_pos hg, show ((p : Int)).toNat = p by omega, tab_set]
      | false =>
        refine Ev.step (fun k => ?_) (step (at_ q) (by rw [hg]; rfl))
        simp only [spec_tdStep.l1, tab_len, ewp.out, ewl.out, ewh.out, ewq.out]
        rw [if_pos c1, if_pos c2, dry_nat s t L hs ht hL p (h + 1) hp, hd]
        simp only [Option.bind_some, if_true]
        rw [if_pos c3, if_pos c4, rdOf_tab false hp, if_neg (by rw [hg]; decide), if_pos c5, rdOf_tab false hq2, show ((p : Int)).toNat = p by omega, tab_set]
theorem reach_is (j p : Nat) (hp : p < s.size + 2) : rch s t L st (j + 1) p = (dryN s t p (st + j + 1) && anyFrom (rch s t L st j) (p - L) (min (s.size + 2) (p + L + 1) - (p - L))) := by
  rw [Bool.eq_iff_iff, Tide.reach_succ, Bool.and_eq_true, anyFrom_iff]
  constructor
  · rintro ⟨a, q, b, c, d⟩
    simp only [Tide.near, decide_eq_true_eq] at d
    exact ⟨a, q, by omega, by omega, c⟩
  · rintro ⟨a, q, b, c, d⟩
    exact ⟨a, q, by omega, d, by simp only [Tide.near, decide_eq_true_eq]; omega⟩
theorem step_l0 (j : Nat) (hj : st + j ≤ 5000) (d : Nat) : ∀ (p : Nat) (g : Nat → Bool), p + d = s.size + 2 → (∀ i, i < p → g i = rch s t L st (j + 1) i) → (∀ i, p ≤ i → g i = false) →
    Ev (fun k => spec_tdStep.l0 k s t (L : Int) ((st + j : Nat) : Int) (tab (s.size + 2) (rch s t L st j)) (tab (s.size + 2) g) ((s.size + 2 : Nat) : Int) (p : Int)) (tab (s.size + 2) (rch s t L st (j + 1))) := by
  induction d with
  | zero =>
    intro p g hp h1 h2
    refine Ev.step (fun k => ?_) (Ev.now _)
    simp only [spec_tdStep.l0]
    rw [if_neg (by omega)]
    exact congrArg some (tab_congr fun i hi => h1 i (by omega))
  | succ d ih =>
    intro p g hp h1 h2
    have hm : spec_l1Most.f 0 (wrap64 ((p : Int) - (L : Int))) = some ((p - L : Nat) : Int) := by
      unfold spec_l1Most.f
      rw [w_id (by omega) (by omega)]
      by_cases c : (0 : Int) > (p : Int) - (L : Int)
      · rw [if_pos c]; exact congrArg some (by omega)
      · rw [if_neg c]; exact congrArg some (by omega)
    refine Ev.step (f := fun k => spec_tdStep.l1 k s t (L : Int) ((st + j : Nat) : Int) (tab (s.size + 2) (rch s t L st j)) (tab (s.size + 2) g) (p : Int) ((p - L : Nat) : Int) ((s.size + 2 : Nat) : Int) (p : Int)) (fun k => ?_) ?_
    · simp only [spec_tdStep.l0]
      rw [if_pos (by omega), hm]; rfl
    · refine step_l1 s t L hs ht hL (st + j) p hj (by omega) _ _ _ rfl (min (s.size + 2) (p + L + 1) - (p - L)) (p - L) g (by omega) ?_
      refine ih (p + 1) _ (by omega) (fun i hi => ?_) (fun i hi => ?_)
      · by_cases c : i = p
        · rw [if_pos c, c, h2 p (Nat.le_refl _), Bool.false_or, reach_is s t L st hs ht hL j p (by omega)]
        · rw [if_neg c]; exact h1 i (by omega)
      · rw [if_neg (by omega)]; exact h2 i (by omega)
theorem step_ok (j : Nat) (hj : st + j ≤ 5000) : Ev (fun k => spec_tdStep.f k s t (L : Int) ((st + j : Nat) : Int) (tab (s.size + 2) (rch s t L st j))) (tab (s.size + 2) (rch s t L st (j + 1))) := by
  refine Ev.congr (fun k => ?_) (step_l0 s t L st hs ht hL j hj (s.size + 2) 0 (fun _ => false) (by omega) (fun i hi => by omega) (fun _ _ => rfl))
  simp only [spec_tdStep.f, tab_len]
  rw [if_pos (by omega), if_pos (by omega), show (((s.size + 2 : Nat) : Int)).toNat = s.size + 2 by omega, tab_const]; rfl
/-- The reference's arrivals, one hour. -/
theorem arr_l2 (j : Nat) (hj : st + j ≤ 5000) (r : List Int) (x9 : Int) (d : Nat) : ∀ (p : Nat) (o : Nat → Int), p + d = s.size + 2 → (∀ i, i < p → o i = fst s t L st (j + 1) i) → (∀ i, p ≤ i → o i = fst s t L st j i) →
    Ev (fun k => spec_tdArrive.l1 k s t (L : Int) (st : Int) x9 (tab (s.size + 2) (fst s t L st (j + 1))) (tab (s.size + 2) (rch s t L st (j + 1))) ((st + (j + 1) : Nat) : Int)) r →
    Ev (fun k => spec_tdArrive.l2 k s t (L : Int) (st : Int) x9 (tab (s.size + 2) o) (tab (s.size + 2) (rch s t L st (j + 1))) ((st + j : Nat) : Int) (tab (s.size + 2) (rch s t L st (j + 1))) ((s.size + 2 : Nat) : Int) (p : Int)) r := by
  have ewh := Aside0.mk (show wrap64 (((st + j : Nat) : Int) + 1) = ((st + (j + 1) : Nat) : Int) from w_nat (by omega))
  induction d with
  | zero =>
    intro p o hp h1 h2 hE
    refine Ev.step (fun k => ?_) hE
    simp only [spec_tdArrive.l2, ewh.out]
    rw [if_neg (by omega), tab_congr (f := o) fun i hi => h1 i (by omega)]
  | succ d ih =>
    intro p o hp h1 h2 hE
    have ewp := Aside0.mk (show wrap64 ((p : Int) + 1) = ((p + 1 : Nat) : Int) from w_nat (by omega))
    have hp2 : p < s.size + 2 := by omega
    have c1 : (p : Int) < ((s.size + 2 : Nat) : Int) := by omega
    have c3 : 0 ≤ (p : Int) := by omega
    have go : ∀ o' : Nat → Int, (∀ i, i < p + 1 → o' i = fst s t L st (j + 1) i) → (∀ i, p + 1 ≤ i → o' i = fst s t L st j i) → Ev (fun k => spec_tdArrive.l2 k s t (L : Int) (st : Int) x9 (tab (s.size + 2) o') (tab (s.size + 2) (rch s t L st (j + 1))) ((st + j : Nat) : Int) (tab (s.size + 2) (rch s t L st (j + 1))) ((s.size + 2 : Nat) : Int) ((p + 1 : Nat) : Int)) r :=
      fun o' a b => ih (p + 1) o' (by omega) a b hE
    by_cases hc : rch s t L st (j + 1) p = true ∧ fst s t L st j p < 0
    · refine Ev.step (fun k => ?_) (go (fun i => if i = p then ((st + (j + 1) : Nat) : Int) else o i) (fun i hi => ?_) (fun i hi => ?_))
      · simp only [spec_tdArrive.l2, tab_len, ewh.out, ewp.out]
        rw [if_pos c1, if_pos c3, if_pos c1, rdOf_tab false hp2, if_pos hc.1, if_pos c1, rd_tab hp2, h2 p (Nat.le_refl _), if_pos hc.2, show ((p : Int)).toNat = p by omega, tab_set]
      · by_cases c : i = p
        · rw [if_pos c, c]; simp only [fst, Tide.first]; rw [if_pos hc]; rfl
        · rw [if_neg c]; exact h1 i (by omega)
      · rw [if_neg (by omega)]; exact h2 i (by omega)
    · refine Ev.step (fun k => ?_) (go o (fun i hi => ?_) (fun i hi => h2 i (by omega)))
      · simp only [spec_tdArrive.l2, tab_len, ewh.out, ewp.out]
        rw [if_pos c1, if_pos c3, if_pos c1, rdOf_tab false hp2]
        by_cases a : rch s t L st (j + 1) p = true
        · rw [if_pos a, if_pos c1, rd_tab hp2, h2 p (Nat.le_refl _), if_neg (fun b => hc ⟨a, b⟩)]
        · rw [if_neg a]
      · by_cases c : i = p
        · rw [c, h2 p (Nat.le_refl _)]; simp only [fst, Tide.first]; rw [if_neg hc]
        · exact h1 i (by omega)
theorem arr_l1 (n : Nat) (hn : n = t.size * (s.size + 3)) (hst : st ≤ 2000) (d : Nat) : ∀ j, j + d = n →
    Ev (fun k => spec_tdArrive.l1 k s t (L : Int) (st : Int) ((s.size + 2 : Nat) : Int) (tab (s.size + 2) (fst s t L st j)) (tab (s.size + 2) (rch s t L st j)) ((st + j : Nat) : Int)) (tab (s.size + 2) (fst s t L st n)) := by
  have hb : n ≤ 204 := by rw [hn]; exact Nat.le_trans (Nat.mul_le_mul ht.2 (show s.size + 3 ≤ 17 by omega)) (by omega)
  have e1 := Aside0.mk (show wrap64 ((st : Int) + wrap64 ((t.size : Int) * wrap64 (((s.size + 2 : Nat) : Int) + 1))) = ((st + n : Nat) : Int) from by rw [w_id (n := ((s.size + 2 : Nat) : Int) + 1) (by omega) (by omega), show (t.size : Int) * (((s.size + 2 : Nat) : Int) + 1) = (n : Int) by rw [hn, Int.natCast_mul]; rfl, w_id (n := (n : Int)) (by omega) (by omega), w_id (by omega) (by omega)]; omega)
  induction d with
  | zero =>
    intro j hj
    obtain rfl : j = n := by omega
    refine Ev.step (fun k => ?_) (Ev.now _)
    simp only [spec_tdArrive.l1, e1.out]
    rw [if_neg (by omega)]
  | succ d ih =>
    intro j hj
    refine Ev.step (f := fun k => (spec_tdStep.f k s t (L : Int) ((st + j : Nat) : Int) (tab (s.size + 2) (rch s t L st j))).bind fun y => spec_tdArrive.l2 k s t (L : Int) (st : Int) ((s.size + 2 : Nat) : Int) (tab (s.size + 2) (fst s t L st j)) y ((st + j : Nat) : Int) y (y.length : Int) 0) (fun k => ?_) ?_
    · simp only [spec_tdArrive.l1, e1.out]
      rw [if_pos (by omega)]
    · refine Ev.bind (step_ok s t L st hs ht hL j (by omega)) ?_
      simp only [tab_len]
      exact arr_l2 s t L st hs ht hL j (by omega) _ _ (s.size + 2) 0 _ (by omega) (fun i hi => by omega) (fun _ _ => rfl) (ih (j + 1) (by omega))
theorem arr_l0 (n : Nat) (hn : n = t.size * (s.size + 3)) (hst : st ≤ 2000) (d : Nat) : ∀ (p : Nat) (o : Nat → Int), p + d = s.size + 2 → (∀ i, i < p → o i = -1) →
    Ev (fun k => spec_tdArrive.l0 k s t (L : Int) (st : Int) ((s.size + 2 : Nat) : Int) (tab (s.size + 2) o) ((s.size + 2 : Nat) : Int) (p : Int)) (tab (s.size + 2) (fst s t L st n)) := by
  induction d with
  | zero =>
    intro p o hp ho
    have := arr_l1 s t L st hs ht hL n hn hst n 0 (by omega)
    refine Ev.step (fun k => ?_) this
    simp only [spec_tdArrive.l0, tab_len]
    rw [if_neg (by omega), if_pos (by omega), if_pos (by omega), if_pos (by omega)]
    simp only [Option.bind_some, List.length_replicate]
    rw [if_pos (by omega), show (((s.size + 2 : Nat) : Int)).toNat = s.size + 2 by omega, tab_const, show ((0 : Int)).toNat = 0 from rfl, tab_set, tab_set]
    congr 1
    refine tab_congr fun i hi => ?_
    simp only [fst, Tide.first]
    by_cases c : i = 0
    · rw [if_pos c, if_pos c]
    · rw [if_neg c, if_neg c]; exact ho i (by omega)
  | succ d ih =>
    intro p o hp ho
    have ewp := Aside0.mk (show wrap64 ((p : Int) + 1) = ((p + 1 : Nat) : Int) from w_nat (by omega))
    refine Ev.step (fun k => ?_) (ih (p + 1) (fun i => if i = p then -1 else o i) (by omega) (fun i hi => ?_))
    · simp only [spec_tdArrive.l0, tab_len, ewp.out]
      rw [if_pos (by omega), if_pos (by omega), if_pos (by omega), show ((p : Int)).toNat = p by omega, tab_set]
    · by_cases c : i = p
      · rw [if_pos c]
      · rw [if_neg c]; exact ho i (by omega)
/-- What both functions answer: for each place the first hour. -/
def arrs : List Int := tab (s.size + 2) (fst s t L st ((s.size + 2) * t.size))
theorem spec_arr (hst : st ≤ 2000) : Ev (fun k => spec_tdArrive.f k s t (L : Int) (st : Int)) (arrs s t L st) := by
  have e : arrs s t L st = tab (s.size + 2) (fst s t L st (t.size * (s.size + 3))) := by
    refine tab_congr fun i hi => ?_
    exact (Tide.first_enough (T := t.size) (fun p h => dryN_tide s t p h ht.1) (fun h => dryN_bank s t h) (by omega) (by omega) hi (by rw [Nat.mul_comm (s.size + 2)]; exact Nat.mul_le_mul_left _ (by omega))).symm
  rw [e]
  refine Ev.congr (fun k => ?_) (arr_l0 s t L st hs ht hL _ rfl hst (s.size + 2) 0 (fun _ => 0) (by omega) (fun i hi => by omega))
  simp only [spec_tdArrive.f]
  rw [w_id (n := (s.size : Int) + 2) (by omega) (by omega), if_pos (by omega), if_pos (by omega)]
  simp only [Option.bind_some, List.length_replicate]
  rw [show (((s.size : Int) + 2)).toNat = s.size + 2 by omega, tab_const]; rfl
/-- One place of the program's hour. -/
theorem one_l2 (j p : Nat) (hj : st + j ≤ 5000) (hp : p < s.size + 2) (o : Nat → Int) (r : List Int) (d : Nat) : ∀ (q : Nat) (g : Nat → Bool), q + d = s.size + 2 →
    Ev (fun k => impl_crossing_arrivals.l2 k (st : Int) (tab (s.size + 2) o) (tab (s.size + 2) (rch s t L st j)) ((st + j + 1 : Nat) : Int) (tab (s.size + 2) (fun i => if i = p then g p || anyFrom (fun q => rch s t L st j q && (Tide.near L q p && dryN s t p (st + j + 1))) q d else g i)) (p : Int) ((s.size + 2 : Nat) : Int) (p : Int) (tab (s.size + 2) (rch s t L st j)) ((s.size + 2 : Nat) : Int) ((s.size + 2 : Nat) : Int) s t (L : Int)) r →
    Ev (fun k => impl_crossing_arrivals.l2 k (st : Int) (tab (s.size + 2) o) (tab (s.size + 2) (rch s t L st j)) ((st + j + 1 : Nat) : Int) (tab (s.size + 2) g) (p : Int) ((s.size + 2 : Nat) : Int) (p : Int) (tab (s.size + 2) (rch s t L st j)) ((s.size + 2 : Nat) : Int) (q : Int) s t (L : Int)) r := by
  induction d with
  | zero =>
    intro q g hq hE
    obtain rfl : q = s.size + 2 := by omega
    have e : tab (s.size + 2) (fun i => if i = p then g p || anyFrom (fun q => rch s t L st j q && (Tide.near L q p && dryN s t p (st + j + 1))) (s.size + 2) 0 else g i) = tab (s.size + 2) g := by
      refine tab_congr fun i _ => ?_
      by_cases c : i = p
      · rw [if_pos c, c]; simp [anyFrom]
      · rw [if_neg c]
    rw [e] at hE; exact hE
  | succ d ih =>
    intro q g hq hE
    have hq2 : q < s.size + 2 := by omega
    have c1 : (q : Int) < ((s.size + 2 : Nat) : Int) := by omega
    have c2 : 0 ≤ (q : Int) := by omega
    have c3 : 0 ≤ (p : Int) := by omega
    have c4 : (p : Int) < ((s.size + 2 : Nat) : Int) := by omega
    have ewq := Aside0.mk (show wrap64 ((q : Int) + 1) = ((q + 1 : Nat) : Int) from w_nat (by omega))
    have step : ∀ v : Bool, v = (g p || (rch s t L st j q && (Tide.near L q p && dryN s t p (st + j + 1)))) → Ev (fun k => impl_crossing_arrivals.l2 k (st : Int) (tab (s.size + 2) o) (tab (s.size + 2) (rch s t L st j)) ((st + j + 1 : Nat) : Int) (tab (s.size + 2) (fun i => if i = p then v else g i)) (p : Int) ((s.size + 2 : Nat) : Int) (p : Int) (tab (s.size + 2) (rch s t L st j)) ((s.size + 2 : Nat) : Int) ((q + 1 : Nat) : Int) s t (L : Int)) r := by
      intro v hv
      refine ih (q + 1) _ (by omega) ?_
      have e2 : tab (s.size + 2) (fun i => if i = p then (if p = p then v else g p) || anyFrom (fun q => rch s t L st j q && (Tide.near L q p && dryN s t p (st + j + 1))) (q + 1) d else if i = p then v else g i) = tab (s.size + 2) (fun i => if i = p then g p || anyFrom (fun q => rch s t L st j q && (Tide.near L q p && dryN s t p (st + j + 1))) q (d + 1) else g i) := by
        refine tab_congr fun i _ => ?_
        by_cases c : i = p
        · rw [if_pos c, if_pos c, if_pos rfl, hv]; simp only [anyFrom, Bool.or_assoc]
        · rw [if_neg c, if_neg c, if_neg c]
      rw [e2]; exact hE
    cases hg : g p with
    | true =>
      refine Ev.step (fun k => ?_) (step true (by rw [hg]; rfl))
      simp only [impl_crossing_arrivals.l2, tab_len, ewq.out]
      rw [if_pos c1, if_pos c2, if_pos c1, if_pos c3, if_pos c4, rdOf_tab false hp, if_pos hg, show ((p : Int)).toNat = p by omega, tab_set]
    | false =>
      cases hr : rch s t L st j q with
      | false =>
        refine Ev.step (fun k => ?_) (step false (by rw [hg, hr]; rfl))
        simp only [impl_crossing_arrivals.l2, tab_len, ewq.out]
        rw [if_pos c1, if_pos c2, if_pos c1, if_pos c3, if_pos c4, rdOf_tab false hp, if_neg (by rw [hg]; decide), rdOf_tab false hq2, if_neg (by rw [hr]; decide), show ((p : Int)).toNat = p by omega, tab_set]
      | true =>
        cases hnr : Tide.near L q p with
        | false =>
          refine Ev.step (fun k => ?_) (step false (by rw [hg, hr, hnr]; rfl))
          simp only [impl_crossing_arrivals.l2, tab_len, ewq.out]
          rw [if_pos c1, if_pos c2, if_pos c1, if_pos c3, if_pos c4, rdOf_tab false hp, if_neg (by rw [hg]; decide), rdOf_tab false hq2, if_pos hr, near_nat s t L hs ht hL q p hq2 hp, hnr]
          simp only [Option.bind_some, Bool.false_eq_true, if_false]
          rw [show ((p : Int)).toNat = p by omega, tab_set]
        | true =>
          refine Ev.step (fun k => ?_) (step (dryN s t p (st + j + 1)) (by rw [hg, hr, hnr]; rfl))
          simp only [impl_crossing_arrivals.l2, tab_len, ewq.out]
          rw [if_pos c1, if_pos c2, if_pos c1, if_pos c3, if_pos c4, rdOf_tab false hp, if_neg (by rw [hg]; decide), rdOf_tab false hq2, if_pos hr, near_nat s t L hs ht hL q p hq2 hp, hnr]
          simp only [Option.bind_some, if_true]
          rw [dry_eq, dry_nat s t L hs ht hL p _ hp]
          simp only [Option.bind_some]
          rw [show ((p : Int)).toNat = p by omega, tab_set]
theorem reach_as (j p : Nat) (hp : p < s.size + 2) : rch s t L st (j + 1) p = anyFrom (fun q => rch s t L st j q && (Tide.near L q p && dryN s t p (st + j + 1))) 0 (s.size + 2) := by
  rw [Bool.eq_iff_iff, Tide.reach_succ, anyFrom_iff]
  constructor
  · rintro ⟨a, q, b, c, d⟩
    exact ⟨q, by omega, by omega, by simp only [Bool.and_eq_true]; exact ⟨c, d, a⟩⟩
  · rintro ⟨q, _, b, c⟩
    simp only [Bool.and_eq_true] at c
    exact ⟨c.2.2, q, by omega, c.1, c.2.1⟩
theorem one_l1 (j : Nat) (hj : st + j ≤ 5000) (r : List Int) (d : Nat) : ∀ (p : Nat) (o : Nat → Int) (g : Nat → Bool), p + d = s.size + 2 → (∀ i, i < p → o i = fst s t L st (j + 1) i) → (∀ i, p ≤ i → o i = fst s t L st j i) → (∀ i, i < p → g i = rch s t L st (j + 1) i) → (∀ i, p ≤ i → g i = false) →
    Ev (fun k => impl_crossing_arrivals.l0 k (st : Int) (tab (s.size + 2) (fst s t L st (j + 1))) (tab (s.size + 2) (rch s t L st (j + 1))) ((st + (j + 1) + 1 : Nat) : Int) s t (L : Int)) r →
    Ev (fun k => impl_crossing_arrivals.l1 k (st : Int) (tab (s.size + 2) o) (tab (s.size + 2) (rch s t L st j)) ((st + j + 1 : Nat) : Int) (tab (s.size + 2) g) ((s.size + 2 : Nat) : Int) (p : Int) s t (L : Int)) r := by
  induction d with
  | zero =>
    intro p o g hp h1 h2 h3 h4 hE
    refine Ev.step (fun k => ?_) hE
    simp only [impl_crossing_arrivals.l1]
    rw [if_neg (by omega), tab_congr (f := o) fun i hi => h1 i (by omega), tab_congr (f := g) fun i hi => h3 i (by omega), w_nat (n := st + j + 1) (by omega)]
    rfl
  | succ d ih =>
    intro p o g hp h1 h2 h3 h4 hE
    have hp2 : p < s.size + 2 := by omega
    have c3 : 0 ≤ (p : Int) := by omega
    have c4 : (p : Int) < ((s.size + 2 : Nat) : Int) := by omega
    have ewp := Aside0.mk (show wrap64 ((p : Int) + 1) = ((p + 1 : Nat) : Int) from w_nat (by omega))
    refine Ev.step (f := fun k => impl_crossing_arrivals.l2 k (st : Int) (tab (s.size + 2) o) (tab (s.size + 2) (rch s t L st j)) ((st + j + 1 : Nat) : Int) (tab (s.size + 2) g) (p : Int) ((s.size + 2 : Nat) : Int) (p : Int) (tab (s.size + 2) (rch s t L st j)) ((s.size + 2 : Nat) : Int) ((0 : Nat) : Int) s t (L : Int)) (fun k => ?_) ?_
    · simp only [impl_crossing_arrivals.l1, tab_len]
      rw [if_pos c4]; rfl
    · refine one_l2 s t L st hs ht hL j p hj hp2 o r (s.size + 2) 0 g (by omega) ?_
      have eg : ∀ i, (if i = p then g p || anyFrom (fun q => rch s t L st j q && (Tide.near L q p && dryN s t p (st + j + 1))) 0 (s.size + 2) else g i) = (if i = p then rch s t L st (j + 1) p else g i) := by
        intro i
        rw [h4 p (Nat.le_refl _), Bool.false_or, ← reach_as s t L st hs ht hL j p hp2]
      rw [tab_congr fun i _ => eg i]
      have go : ∀ o' : Nat → Int, (∀ i, i < p + 1 → o' i = fst s t L st (j + 1) i) → (∀ i, p + 1 ≤ i → o' i = fst s t L st j i) → Ev (fun k => impl_crossing_arrivals.l1 k (st : Int) (tab (s.size + 2) o') (tab (s.size + 2) (rch s t L st j)) ((st + j + 1 : Nat) : Int) (tab (s.size + 2) (fun i => if i = p then rch s t L st (j + 1) p else g i)) ((s.size + 2 : Nat) : Int) ((p + 1 : Nat) : Int) s t (L : Int)) r := by
        intro o' a b
        refine ih (p + 1) o' _ (by omega) a b (fun i hi => ?_) (fun i hi => ?_) hE
        · by_cases c : i = p
          · rw [if_pos c, c]
          · rw [if_neg c]; exact h3 i (by omega)
        · rw [if_neg (by omega)]; exact h4 i (by omega)
      have hx : (if p = p then rch s t L st (j + 1) p else g p) = rch s t L st (j + 1) p := if_pos rfl
      by_cases hc : rch s t L st (j + 1) p = true ∧ fst s t L st j p < 0
      · refine Ev.step (fun k => ?_) (go (fun i => if i = p then ((st + j + 1 : Nat) : Int) else o i) (fun i hi => ?_) (fun i hi => ?_))
        · simp only [impl_crossing_arrivals.l2, tab_len, ewp.out]
          rw [if_neg (by omega), if_pos c3, if_pos c4, rdOf_tab false hp2, hx, if_pos hc.1, if_pos c4, rd_tab hp2, h2 p (Nat.le_refl _), if_pos hc.2, show ((p : Int)).toNat = p by omega, tab_set]
        · by_cases c : i = p
          · rw [if_pos c, c]; simp only [fst, Tide.first]; rw [if_pos hc]
          · rw [if_neg c]; exact h1 i (by omega)
        · rw [if_neg (by omega)]; exact h2 i (by omega)
      · refine Ev.step (fun k => ?_) (go o (fun i hi => ?_) (fun i hi => h2 i (by omega)))
        · simp only [impl_crossing_arrivals.l2, tab_len, ewp.out]
          rw [if_neg (by omega), if_pos c3, if_pos c4, rdOf_tab false hp2, hx]
          by_cases a : rch s t L st (j + 1) p = true
          · rw [if_pos a, if_pos c4, rd_tab hp2, h2 p (Nat.le_refl _), if_neg (fun b => hc ⟨a, b⟩)]
          · rw [if_neg a]
        · by_cases c : i = p
          · rw [c, h2 p (Nat.le_refl _)]; simp only [fst, Tide.first]; rw [if_neg hc]
          · exact h1 i (by omega)
theorem one_l0 (n : Nat) (hn : n = (s.size + 2) * t.size) (hst : st ≤ 2000) (d : Nat) : ∀ j, j + d = n →
    Ev (fun k => impl_crossing_arrivals.l0 k (st : Int) (tab (s.size + 2) (fst s t L st j)) (tab (s.size + 2) (rch s t L st j)) ((st + j + 1 : Nat) : Int) s t (L : Int)) (tab (s.size + 2) (fst s t L st n)) := by
  have hb : n ≤ 192 := by rw [hn]; exact Nat.le_trans (Nat.mul_le_mul (show s.size + 2 ≤ 16 by omega) ht.2) (by omega)
  have e1 := Aside0.mk (w_end (a := s.size + 2) (b := t.size) hn.symm hb hst)
  induction d with
  | zero =>
    intro j hj
    obtain rfl : j = n := by omega
    refine Ev.step (fun k => ?_) (Ev.now _)
    simp only [impl_crossing_arrivals.l0]
    rw [places_eq s t _ hs.2]
    rw [Option.bind_some, e1.out]
    rw [if_neg (by omega)]
  | succ d ih =>
    intro j hj
    refine Ev.step (fun k => ?_) (one_l1 s t L st hs ht hL j (by omega) _ (s.size + 2) 0 _ (fun _ => false) (by omega) (fun i hi => by omega) (fun _ _ => rfl) (fun i hi => by omega) (fun _ _ => rfl) (ih (j + 1) (by omega)))
    simp only [impl_crossing_arrivals.l0]
    rw [places_eq s t _ hs.2]
    rw [Option.bind_some, e1.out]
    rw [if_pos (by omega), Option.bind_some, if_pos (by omega), if_pos (by omega), Option.bind_some]
    simp only [List.length_replicate]
    rw [show (((s.size + 2 : Nat) : Int)).toNat = s.size + 2 by omega, tab_const]; rfl
theorem impl_arr (hst : st ≤ 2000) : Ev (fun k => impl_crossing_arrivals.f k s t (L : Int) (st : Int)) (arrs s t L st) := by
  refine Ev.congr (fun k => ?_) (one_l0 s t L st hs ht hL _ rfl hst ((s.size + 2) * t.size) 0 (by omega))
  simp only [impl_crossing_arrivals.f]
  rw [places_eq s t _ hs.2]
  simp only [Option.bind_some]
  have hr : slices_Repeat_int_int.f ([(-1)] : List Int) ((s.size + 2 : Nat) : Int) = some (tab (s.size + 2) (fun _ => -1)) := by
    unfold slices_Repeat_int_int.f
    rw [if_pos ⟨rfl, by omega, by omega⟩, show (((s.size + 2 : Nat) : Int)).toNat = s.size + 2 by omega, tab_const]; rfl
  rw [hr]
  simp only [Option.bind_some, tab_len, List.length_replicate]
  rw [if_pos (by omega), if_pos (by omega), if_pos (by omega), if_pos (by omega), show (((s.size + 2 : Nat) : Int)).toNat = s.size + 2 by omega, tab_const, show ((0 : Int)).toNat = 0 from rfl, tab_set, tab_set, w_nat (n := st) (by omega)]
  all_goals rfl
/-- The first hour at the far bank, or -1. -/
def endOf : Int := fst s t L st ((s.size + 2) * t.size) (s.size + 1)
end

theorem spec_end (s t : ByteArray) (L st : Nat) (hs : 1 ≤ s.size ∧ s.size ≤ 14) (ht : 1 ≤ t.size ∧ t.size ≤ 12) (hL : 1 ≤ L ∧ L ≤ 15) (hst : st ≤ 2000) : Ev (fun k => spec_tdEnd.f k s t (L : Int) (st : Int)) (endOf s t L st) := by
  simp only [spec_tdEnd.f]
  refine Ev.bind (spec_arr s t L st hs ht hL hst) ?_
  simp only [arrs, tab_len]
  rw [w_id (n := (s.size : Int) + 1) (by omega) (by omega), if_pos (by omega), if_pos (by omega), show (s.size : Int) + 1 = ((s.size + 1 : Nat) : Int) by omega, rd_tab (by omega)]
  exact Ev.now _

theorem impl_end (s t : ByteArray) (L st : Nat) (hs : 1 ≤ s.size ∧ s.size ≤ 14) (ht : 1 ≤ t.size ∧ t.size ≤ 12) (hL : 1 ≤ L ∧ L ≤ 15) (hst : st ≤ 2000) : Ev (fun k => impl_crossing_earliest.f k s t (L : Int) (st : Int)) (endOf s t L st) := by
  simp only [impl_crossing_earliest.f]
  refine Ev.bind (impl_arr s t L st hs ht hL hst) ?_
  rw [places_eq s t _ hs.2]
  simp only [arrs, tab_len, Option.bind_some]
  rw [w_id (n := ((s.size + 2 : Nat) : Int) - 1) (by omega) (by omega), if_pos (by omega), if_pos (by omega), show ((s.size + 2 : Nat) : Int) - 1 = ((s.size + 1 : Nat) : Int) by omega, rd_tab (by omega)]
  exact Ev.now _

namespace Tide
variable {P L T : Nat} {dry : Nat → Nat → Bool}
theorem shift (h0 : ∀ h, dry 0 h = true) (hP : 0 < P) (st : Nat) : ∀ h p, reach P L dry st h p = true → reach P L dry 0 (st + h) p = true
  | 0, p, h => by
    have : p = 0 := by simpa [reach] using h
    subst this; exact stay h0 hP _
  | h + 1, p, hr => by
    obtain ⟨a, q, b, c, d⟩ := reach_succ.mp hr
    rw [show st + (h + 1) = (st + h) + 1 by omega]
    refine reach_succ.mpr ⟨?_, q, b, shift h0 hP st h q c, d⟩
    rw [show 0 + (st + h) + 1 = st + h + 1 by omega]; exact a
theorem turn (hd : ∀ p h, dry p (h + T) = dry p h) (st : Nat) : ∀ h p, reach P L dry (st + T) h p = reach P L dry st h p
  | 0, p => rfl
  | h + 1, p => by
    rw [Bool.eq_iff_iff, reach_succ, reach_succ]
    have e : dry p (st + T + h + 1) = dry p (st + h + 1) := by
      have := hd p (st + h + 1)
      rw [show st + T + h + 1 = st + h + 1 + T by omega]; exact this
    rw [e]
    constructor
    · rintro ⟨a, q, b, c, d⟩; exact ⟨a, q, b, by rw [← turn hd st h q]; exact c, d⟩
    · rintro ⟨a, q, b, c, d⟩; exact ⟨a, q, b, by rw [turn hd st h q]; exact c, d⟩
theorem turns (hd : ∀ p h, dry p (h + T) = dry p h) (st : Nat) : ∀ k h p, reach P L dry (st + k * T) h p = reach P L dry st h p
  | 0, h, p => by rw [Nat.zero_mul, Nat.add_zero]
  | k + 1, h, p => by rw [show st + (k + 1) * T = (st + k * T) + T by rw [Nat.add_mul, Nat.one_mul]; omega, turn hd, turns hd st k]
end Tide
/-- What a way takes from a start: -1, or its hours. -/
def ndOf (s t : ByteArray) (L st : Nat) : Int := if 0 ≤ endOf s t L st then endOf s t L st - (st : Int) else endOf s t L st
theorem end_cases (s t : ByteArray) (L st : Nat) : (endOf s t L st = -1 ∧ ∀ h, h ≤ (s.size + 2) * t.size → rch s t L st h (s.size + 1) = false) ∨
    ∃ h, h ≤ (s.size + 2) * t.size ∧ endOf s t L st = ((st + h : Nat) : Int) ∧ rch s t L st h (s.size + 1) = true ∧ ∀ h', h' < h → rch s t L st h' (s.size + 1) = false := by
  rcases Int.lt_or_le (endOf s t L st) 0 with c | c
  · exact .inl (Tide.first_neg _ _ c)
  · exact .inr (Tide.first_pos _ _ c)
theorem pt_le {a b : Nat} (ha : a ≤ 14) (hb : b ≤ 12) : (a + 2) * b ≤ 192 := Nat.le_trans (Nat.mul_le_mul (show a + 2 ≤ 16 by omega) hb) (by omega)
theorem tab_snoc {α : Type} {f : Nat → α} (i : Nat) : tab i f ++ [f i] = tab (i + 1) f := by simp [tab, List.range_succ]

theorem needs_l0 (s t : ByteArray) (L : Nat) (hs : 1 ≤ s.size ∧ s.size ≤ 14) (ht : 1 ≤ t.size ∧ t.size ≤ 12) (hL : 1 ≤ L ∧ L ≤ 15) (d : Nat) : ∀ i, i + d = t.size →
    Ev (fun k => impl_crossing_needs.l0 k (tab i (ndOf s t L)) (t.size : Int) (i : Int) s t (L : Int)) (tab t.size (ndOf s t L)) := by
  induction d with
  | zero =>
    intro i hi
    refine Ev.step (fun k => ?_) (Ev.now _)
    simp only [impl_crossing_needs.l0]
    rw [if_neg (by omega), show i = t.size by omega]
  | succ d ih =>
    intro i hi
    have ewi := Aside0.mk (show wrap64 ((i : Int) + 1) = ((i + 1 : Nat) : Int) from w_nat (by omega))
    have hlt : (i : Int) < (t.size : Int) := by omega
    have hlen : (tab i (ndOf s t L)).length < 17592186044416 := by rw [tab_len]; omega
    have hE := ih (i + 1) (by omega)
    rw [← tab_snoc] at hE
    refine Ev.step (f := fun k => (impl_crossing_earliest.f k s t (L : Int) (i : Int)).bind fun e => if e ≥ 0 then impl_crossing_needs.l0 k (tab i (ndOf s t L) ++ [wrap64 (e - (i : Int))]) (t.size : Int) ((i + 1 : Nat) : Int) s t (L : Int) else impl_crossing_needs.l0 k (tab i (ndOf s t L) ++ [e]) (t.size : Int) ((i + 1 : Nat) : Int) s t (L : Int)) (fun k => ?_) ?_
    · simp only [impl_crossing_needs.l0, ewi.out]
      rw [if_pos hlt]
      congr 1
      funext e
      by_cases c : e ≥ 0
      · rw [if_pos c, if_pos c, if_pos hlen]
      · rw [if_neg c, if_neg c, if_pos hlen]
    · refine Ev.bind (impl_end s t L i hs ht hL (by omega)) ?_
      have hb := pt_le hs.2 ht.2
      by_cases c : endOf s t L i ≥ 0
      · have e : wrap64 (endOf s t L i - (i : Int)) = ndOf s t L i := by
          unfold ndOf
          rw [if_pos c]
          rcases end_cases s t L i with ⟨a, _⟩ | ⟨h, a, b, _⟩
          · omega
          · rw [b]; exact w_id (by omega) (by omega)
        simp only [if_pos c, e]; exact hE
      · have e : endOf s t L i = ndOf s t L i := by unfold ndOf; rw [if_neg c]
        simp only [if_neg c]; rw [e]; exact hE
theorem needs_ok (s t : ByteArray) (L : Nat) (hs : 1 ≤ s.size ∧ s.size ≤ 14) (ht : 1 ≤ t.size ∧ t.size ≤ 12) (hL : 1 ≤ L ∧ L ≤ 15) : Ev (fun k => impl_crossing_needs.f k s t (L : Int)) (tab t.size (ndOf s t L)) :=
  Ev.congr (fun k => rfl) (needs_l0 s t L hs ht hL t.size 0 (by omega))
theorem nd_range (s t : ByteArray) (L st : Nat) (hs : s.size ≤ 14) (ht : t.size ≤ 12) (c : endOf s t L st ≥ 0) : ndOf s t L st = endOf s t L st - (st : Int) ∧ 0 ≤ ndOf s t L st ∧ ndOf s t L st ≤ 192 ∧ wrap64 (endOf s t L st - (st : Int)) = ndOf s t L st := by
  have hb := pt_le hs ht
  have e : ndOf s t L st = endOf s t L st - (st : Int) := by unfold ndOf; rw [if_pos c]
  rw [e]
  rcases end_cases s t L st with ⟨a, _⟩ | ⟨h, a, b, _⟩
  · omega
  · rw [b]; exact ⟨rfl, by omega, by omega, w_id (by omega) (by omega)⟩
theorem nd_none (s t : ByteArray) (L st : Nat) (c : ¬ endOf s t L st ≥ 0) : ndOf s t L st < 0 := by
  unfold ndOf; rw [if_neg c]; omega

theorem few_l0 (s t : ByteArray) (L : Nat) (hs : 1 ≤ s.size ∧ s.size ≤ 14) (ht : 1 ≤ t.size ∧ t.size ≤ 12) (hL : 1 ≤ L ∧ L ≤ 15) (d : Nat) : ∀ (i : Nat) (b a : Int), i + d = t.size →
    ∃ r : Int × Int × Bool, Ev (fun k => impl_FewestHours.l0 k b a (tab t.size (ndOf s t L)) (t.size : Int) (i : Int)) r ∧ (r.2.2 = true ↔ 0 ≤ b ∨ ∃ j, i ≤ j ∧ j < t.size ∧ endOf s t L j ≥ 0) := by
  induction d with
  | zero =>
    intro i b a hi
    refine ⟨if b < 0 then (0, 0, false) else (b, a, true), ?_, ?_⟩
    
    · refine Ev.step (fun k => ?_) (Ev.now _)
      simp only [impl_FewestHours.l0]
      rw [if_neg (by omega)]
      split <;> rfl
    · by_cases c : b < 0
      · rw [if_pos c]
        constructor
        · intro h; cases h
        · rintro (h | ⟨j, h1, h2, _⟩) <;> omega
      · rw [if_neg c]
        exact ⟨fun _ => .inl (by omega), fun _ => rfl⟩
  | succ d ih =>
    intro i b a hi
    have ewi := Aside0.mk (show wrap64 ((i : Int) + 1) = ((i + 1 : Nat) : Int) from w_nat (by omega))
    have hlt : (i : Int) < (t.size : Int) := by omega
    have h0 : 0 ≤ (i : Int) := by omega
    have hit : i < t.size := by omega
    by_cases c : endOf s t L i ≥ 0
    · have hn := nd_range s t L i hs.2 ht.2 c
      have g1 := hn.2.1
      by_cases c2 : b < 0 ∨ ndOf s t L i < b
      · obtain ⟨r, r2, r3⟩ := ih (i + 1) (ndOf s t L i) (i : Int) (by omega)
        refine ⟨r, ?_, ?_⟩
        
        · refine Ev.step (fun k => ?_) r2
          simp only [impl_FewestHours.l0, tab_len, ewi.out]
          rw [if_pos hlt, if_pos h0, if_pos hlt, rd_tab hit, if_pos g1]
          by_cases c3 : b < 0
          · rw [if_pos c3]
          · rw [if_neg c3, if_pos (c2.resolve_left c3)]
        · rw [r3]
          exact ⟨fun _ => .inr ⟨i, Nat.le_refl _, hit, c⟩, fun _ => .inl g1⟩
      · have c3 : ¬ b < 0 := fun h => c2 (.inl h)
        have c4 : ¬ ndOf s t L i < b := fun h => c2 (.inr h)
        obtain ⟨r, r2, r3⟩ := ih (i + 1) b a (by omega)
        refine ⟨r, ?_, ?_⟩
        
        · refine Ev.step (fun k => ?_) r2
          simp only [impl_FewestHours.l0, tab_len, ewi.out]
          rw [if_pos hlt, if_pos h0, if_pos hlt, rd_tab hit, if_pos g1, if_neg c3, if_neg c4]
        · rw [r3]
          exact ⟨fun _ => .inl (by omega), fun _ => .inl (by omega)⟩
    · have hn := nd_none s t L i c
      obtain ⟨r, r2, r3⟩ := ih (i + 1) b a (by omega)
      refine ⟨r, ?_, ?_⟩
      
      · refine Ev.step (fun k => ?_) r2
        simp only [impl_FewestHours.l0, tab_len, ewi.out]
        rw [if_pos hlt, if_pos h0, if_pos hlt, rd_tab hit, if_neg (by omega)]
      · rw [r3]
        constructor
        · rintro (h | ⟨j, h1, h2, h3⟩)
          · exact .inl h
          · exact .inr ⟨j, by omega, h2, h3⟩
        · rintro (h | ⟨j, h1, h2, h3⟩)
          · exact .inl h
          · by_cases e : j = i
            · rw [e] at h3; exact absurd h3 c
            · exact .inr ⟨j, by omega, h2, h3⟩

theorem few_ok (s t : ByteArray) (L : Nat) (hs : 1 ≤ s.size ∧ s.size ≤ 14) (ht : 1 ≤ t.size ∧ t.size ≤ 12) (hL : 1 ≤ L ∧ L ≤ 15) (hgood : (okShore s && okTide t) = true) (h1 : s.size ≤ 9223372036854775806) (h2 : t.size ≤ 9223372036854775806) :
    ∃ r : Int × Int × Bool, Ev (fun k => impl_FewestHours.f k s t (L : Int)) r ∧ (r.2.2 = true ↔ ∃ j, j < t.size ∧ endOf s t L j ≥ 0) := by
  obtain ⟨r, r2, r3⟩ := few_l0 s t L hs ht hL t.size 0 (-1) 0 (by omega)
  refine ⟨r, ?_, ?_⟩
  · simp only [impl_FewestHours.f]
    rw [isRight_eq s t _ h1 h2, hgood, show okLeap (L : Int) = true by unfold okLeap; rw [decide_eq_true_eq]; omega]
    simp only [Bool.and_true, Option.bind_some, if_true]
    refine Ev.bind (needs_ok s t L hs ht hL) ?_
    simp only [tab_len]; exact r2
  · rw [r3]
    constructor
    · rintro (h | ⟨j, _, a, b⟩)
      · omega
      · exact ⟨j, a, b⟩
    · rintro ⟨j, a, b⟩; exact .inr ⟨j, by omega, a, b⟩
theorem some_start (s t : ByteArray) (L : Nat) (ht : 1 ≤ t.size) : (∃ j, j < t.size ∧ endOf s t L j ≥ 0) ↔ endOf s t L 0 ≥ 0 := by
  constructor
  · rintro ⟨j, _, hj⟩
    obtain ⟨h, a, b, c, _⟩ := (end_cases s t L j).resolve_left (fun x => by omega)
    have h2 := Tide.shift (fun h => dryN_bank s t h) (by omega) j h (s.size + 1) c
    obtain ⟨h', x, _, z⟩ := Tide.within_tides (T := t.size) (fun p h => dryN_tide s t p h ht) (fun h => dryN_bank s t h) (by omega) (by omega) _ _ (by omega) h2
    exact Tide.first_of_reach x z
  · intro h; exact ⟨0, by omega, h⟩
theorem far_leap (s t : ByteArray) (ht : 1 ≤ t.size) : endOf s t (s.size + 1) 0 ≥ 0 := by
  have h1 : rch s t (s.size + 1) 0 1 (s.size + 1) = true :=
    Tide.reach_succ.mpr ⟨dryN_end s t _, 0, by omega, by simp [Tide.reach], by simp only [Tide.near, decide_eq_true_eq]; omega⟩
  exact Tide.first_of_reach (show 1 ≤ (s.size + 2) * t.size from Nat.mul_pos (by omega) ht) h1
theorem least_l0 (s t : ByteArray) (hs : 1 ≤ s.size ∧ s.size ≤ 14) (ht : 1 ≤ t.size ∧ t.size ≤ 12) (hgood : (okShore s && okTide t) = true) (h1 : s.size ≤ 9223372036854775806) (h2 : t.size ≤ 9223372036854775806) (d : Nat) : ∀ L : Nat, 1 ≤ L → L + d = s.size + 1 →
    ∃ r : Int × Bool, Ev (fun k => spec_LeastTideLeap.l0 k s t (L : Int)) r ∧ Ev (fun k => impl_LeastTideLeap.l0 k s t (L : Int)) r := by
  have yes : ∀ L : Nat, 1 ≤ L → L ≤ 15 → endOf s t L 0 ≥ 0 → ∃ r : Int × Bool, Ev (fun k => spec_LeastTideLeap.l0 k s t (L : Int)) r ∧ Ev (fun k => impl_LeastTideLeap.l0 k s t (L : Int)) r := by
    intro L hL1 hL2 he
    obtain ⟨r, r1, r2⟩ := few_ok s t L hs ht ⟨hL1, hL2⟩ hgood h1 h2
    refine ⟨((L : Int), true), ?_, ?_⟩
    · refine Ev.step (fun k => by simp only [spec_LeastTideLeap.l0] <;> rfl) (Ev.bind (f := fun k y => if y < 0 then spec_LeastTideLeap.l0 k s t (wrap64 ((L : Int) + 1)) else some ((L : Int), true)) (spec_end s t L 0 hs ht ⟨hL1, hL2⟩ (by omega)) ?_)
      simp only [if_neg (show ¬ endOf s t L 0 < 0 by omega)]; exact Ev.now _
    · refine Ev.step (fun k => by simp only [impl_LeastTideLeap.l0] <;> rfl) (Ev.bind (f := fun k y => if y.2.2 = true then some ((L : Int), true) else impl_LeastTideLeap.l0 k s t (wrap64 ((L : Int) + 1))) r1 ?_)
      simp only [if_pos (r2.mpr ((some_start s t L ht.1).mpr he))]; exact Ev.now _
  induction d with
  | zero =>
    intro L hL hd
    obtain rfl : L = s.size + 1 := by omega
    exact yes _ (by omega) (by omega) (far_leap s t ht.1)
  | succ d ih =>
    intro L hL hd
    by_cases he : endOf s t L 0 ≥ 0
    · exact yes L hL (by omega) he
    · obtain ⟨r, r1, r2⟩ := few_ok s t L hs ht ⟨hL, by omega⟩ hgood h1 h2
      obtain ⟨q, q1, q2⟩ := ih (L + 1) (by omega) (by omega)
      have ewL := Aside0.mk (show wrap64 ((L : Int) + 1) = ((L + 1 : Nat) : Int) from w_nat (by omega))
      refine ⟨q, ?_, ?_⟩
      · refine Ev.step (fun k => by simp only [spec_LeastTideLeap.l0, ewL.out] <;> rfl) (Ev.bind (f := fun k y => if y < 0 then spec_LeastTideLeap.l0 k s t ((L + 1 : Nat) : Int) else some ((L : Int), true)) (spec_end s t L 0 hs ht ⟨hL, by omega⟩ (by omega)) ?_)
        simp only [if_pos (show endOf s t L 0 < 0 by omega)]; exact q1
      · refine Ev.step (fun k => by simp only [impl_LeastTideLeap.l0, ewL.out] <;> rfl) (Ev.bind (f := fun k y => if y.2.2 = true then some ((L : Int), true) else impl_LeastTideLeap.l0 k s t ((L + 1 : Nat) : Int)) r1 ?_)
        simp only [if_neg (fun h => he ((some_start s t L ht.1).mp (r2.mp h)))]; exact q2
theorem FnExactLeastTideLeap : laws_FnExactLeastTideLeap.Pure := by
  intro s t hs ht
  unfold laws_FnExactLeastTideLeap.f
  by_cases c1 : (s.size : Int) > 1048576
  · exact ⟨0, by rw [if_pos c1]⟩
  by_cases c2 : (t.size : Int) > 1048576
  · exact ⟨0, by rw [if_neg c1, if_pos c2]⟩
  have main : ∃ r : Int × Bool, Ev (fun k => spec_LeastTideLeap.f k s t) r ∧ Ev (fun k => impl_LeastTideLeap.f k s t) r := by
    have hS : Ev (fun k => spec_tdGood.f k s t) (okShore s && okTide t) := ⟨s.size + t.size + 1, fun k hk => tdGood_eq s t (by omega) (by omega) k (by omega) (by omega)⟩
    by_cases hg : (okShore s && okTide t) = true
    · have hg' := hg
      simp only [Bool.and_eq_true] at hg'
      have z1 := okShore_size hg'.1
      have z2 := okTide_size hg'.2
      obtain ⟨r, r1, r2⟩ := least_l0 s t z1 z2 hg (by omega) (by omega) s.size 1 (by omega) (by omega)
      refine ⟨r, ?_, ?_⟩
      · simp only [spec_LeastTideLeap.f]
        refine Ev.bind hS ?_
        rw [hg]; simp only [if_true]; exact r1
      · simp only [impl_LeastTideLeap.f]
        rw [areShore_eq s t (by omega) (by omega), hg]
        simp only [Option.bind_some, if_true]; exact r2
    · have hg0 : (okShore s && okTide t) = false := by simpa using hg
      refine ⟨(0, false), ?_, ?_⟩
      · simp only [spec_LeastTideLeap.f]
        refine Ev.bind hS ?_
        rw [hg0]; exact Ev.now _
      · simp only [impl_LeastTideLeap.f]
        rw [areShore_eq s t (by omega) (by omega), hg0]; exact Ev.now _
  obtain ⟨r, ⟨K1, h1⟩, ⟨K2, h2⟩⟩ := main
  refine ⟨K1 + K2, ?_⟩
  rw [if_neg c1, if_neg c2]
  have a1 := h1 (K1 + K2) (by omega)
  have a2 := h2 (K1 + K2) (by omega)
  simp only at a1 a2
  rw [a1, a2]; simp

end Go.Proofs.YteijbohbdhemoaaDoor.Pure
