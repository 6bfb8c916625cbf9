/- The pure law FnExactEarliestWay: for all arguments the printed function of the law answers true. No condition. -/
import Derived.Test.YteijbohbdhemoaaDoorPFnExactEarliestWayx9
namespace Go.Proofs.YteijbohbdhemoaaDoor.Pure
open Go.RowKit Go.Proofs.YteijbohbdhemoaaDoor.PFnExactEarliestWay Go.Proofs.YteijbohbdhemoaaDoorW.PrintWords Go.Proofs.YteijbohbdhemoaaDoorW.PrintLast Go.Proofs.YteijbohbdhemoaaDoorW.PrintMore
set_option linter.unusedVariables false
set_option linter.unusedSimpArgs false

theorem l1In_eq (a lo hi : Int) : spec_l1In.f a lo hi = some (decide (lo ≤ a ∧ a ≤ hi)) := by
  unfold spec_l1In.f
  by_cases h : lo ≤ a
  · rw [if_pos h]; simp [h]
  · rw [if_neg h]; simp [h]
theorem within_eq (a lo hi : Int) : impl_within.f a lo hi = some (decide (lo ≤ a ∧ a ≤ hi)) := by
  unfold impl_within.f
  by_cases h : lo ≤ a
  · rw [if_pos h]; simp [h]
  · rw [if_neg h]; simp [h]

def isDig (b : UInt8) : Bool := decide (48 ≤ b.toNat) && decide (b.toNat ≤ 57)
def digs (s : ByteArray) : Bool := s.data.toList.all isDig
theorem size_list (s : ByteArray) : s.data.toList.length = s.size := by rw [Array.length_toList]; rfl
theorem bt_list (s : ByteArray) (n : Nat) (h : n < s.size) : bt s (n : Int) = ((s.data.toList[n]'(by rw [size_list]; exact h)).toNat : Int) := by
  unfold bt
  rw [dif_pos (show (n : Int).toNat < s.size by omega)]
  rfl
theorem isDig_iff (b : UInt8) : isDig b = true ↔ ¬ ((b.toNat : Int) < 48) ∧ ¬ ((b.toNat : Int) > 57) := by
  unfold isDig; simp only [Bool.and_eq_true, decide_eq_true_eq]; omega
theorem contains_dig (x : UInt8) : ([48, 49, 50, 51, 52, 53, 54, 55, 56, 57] : List UInt8).contains x = isDig x := by
  rw [Bool.eq_iff_iff]
  unfold isDig
  simp only [List.contains_iff_mem, List.mem_cons, List.mem_nil_iff, or_false, Bool.and_eq_true, decide_eq_true_eq, ← UInt8.toNat_inj]
  simp only [UInt8.toNat_ofNat]
  omega
theorem drop_nil {p : UInt8 → Bool} {l : List UInt8} : l.dropWhile p = [] ↔ ∀ x ∈ l, p x = true := by
  induction l with
  | nil => simp
  | cons a l ih =>
    rw [List.dropWhile_cons]
    by_cases h : p a = true
    · rw [if_pos h, ih]; simp [h]
    · rw [if_neg h]; simp [h]
theorem drop_head {p : UInt8 → Bool} : ∀ {l : List UInt8} {a : UInt8} {r : List UInt8}, l.dropWhile p = a :: r → p a = false
  | [], _, _, h => by simp at h
  | b :: l, a, r, h => by
    rw [List.dropWhile_cons] at h
    by_cases hb : p b = true
    · rw [if_pos hb] at h; exact drop_head h
    · rw [if_neg hb] at h
      injection h with h1 _
      subst h1
      simpa using hb
theorem trim_nil (l cs : List UInt8) : Lib.trimS l cs = [] ↔ ∀ x ∈ l, cs.contains x = true := by
  unfold Lib.trimS Lib.trimLeftS
  rw [drop_nil]
  constructor
  · intro h
    have e : l.reverse.dropWhile (cs.contains ·) = [] := by
      cases hd : l.reverse.dropWhile (cs.contains ·) with
      | nil => rfl
      | cons a r =>
        have h1 := drop_head hd
        have h2 := h a (by unfold Lib.trimRightS; rw [hd]; simp)
        rw [h1] at h2; cases h2
    intro x hx
    exact drop_nil.mp e x (by simpa using hx)
  · intro h x hx
    unfold Lib.trimRightS at hx
    have : x ∈ l.reverse.dropWhile (cs.contains ·) := by simpa using hx
    exact h x (by have := (List.dropWhile_sublist (cs.contains ·) (l := l.reverse)).subset this; simpa using this)
theorem trim_digs (s : ByteArray) (h : s.size ≤ 9223372036854775807) : ∃ t : ByteArray, strings_Trim.f s (⟨#[48, 49, 50, 51, 52, 53, 54, 55, 56, 57]⟩ : ByteArray) = some t ∧ (t.toList == ([] : List UInt8)) = digs s := by
  unfold strings_Trim.f
  rw [if_pos ⟨h, by decide, by decide⟩]
  refine ⟨_, rfl, ?_⟩
  rw [Bool.eq_iff_iff]
  rw [Lib.toList_data]
  simp only [beq_iff_eq, digs, List.all_eq_true]
  show Lib.trimS s.data.toList [48, 49, 50, 51, 52, 53, 54, 55, 56, 57] = [] ↔ _
  rw [trim_nil]
  constructor
  · intro h x hx; rw [← contains_dig]; exact h x hx
  · intro h x hx; rw [contains_dig]; exact h x hx
theorem tdText_l0 (s : ByteArray) (hs : s.size ≤ 9223372036854775806) (d : Nat) : ∀ n, n + d = s.size → ∀ k, d < k → spec_tdText.l0 k s (n : Int) = some ((s.data.toList.drop n).all isDig) := by
  induction d with
  | zero =>
    intro n hn k hk
    obtain ⟨k, rfl⟩ : ∃ m, k = m + 1 := ⟨k - 1, by omega⟩
    simp only [spec_tdText.l0]
    rw [if_neg (by omega), List.drop_of_length_le (by rw [size_list]; omega)]; rfl
  | succ d ih =>
    intro n hn k hk
    obtain ⟨k, rfl⟩ : ∃ m, k = m + 1 := ⟨k - 1, by omega⟩
    have hlt : n < s.data.toList.length := by rw [size_list]; omega
    simp only [spec_tdText.l0]
    rw [if_pos (show (n : Int) < (s.size : Int) by omega), if_pos (by omega), bt_list s n (by omega), List.drop_eq_getElem_cons hlt, List.all_cons]
    have hi := isDig_iff (s.data.toList[n]'hlt)
    have hw : wrap64 ((n : Int) + 1) = ((n + 1 : Nat) : Int) := by unfold wrap64; omega
    cases hd : isDig (s.data.toList[n]'hlt) with
    | true =>
      have := hi.mp hd
      rw [if_neg this.1, if_neg this.2, hw, ih (n + 1) (by omega) k (by omega)]; simp
    | false =>
      by_cases c : ((s.data.toList[n]'hlt).toNat : Int) < 48
      · rw [if_pos c]; simp
      · by_cases c' : ((s.data.toList[n]'hlt).toNat : Int) > 57
        · rw [if_neg c, if_pos c']; simp
        · have := hi.mpr ⟨c, c'⟩; rw [hd] at this; cases this
theorem tdText_eq (s : ByteArray) (hs : s.size ≤ 9223372036854775806) (m : Int) (k : Nat) (hk : s.size < k) : spec_tdText.f k s m = some (decide (1 ≤ (s.size : Int) ∧ (s.size : Int) ≤ m) && digs s) := by
  unfold spec_tdText.f
  rw [l1In_eq]
  by_cases h : 1 ≤ (s.size : Int) ∧ (s.size : Int) ≤ m
  · rw [decide_eq_true h]
    have := tdText_l0 s hs s.size 0 (by omega) k hk
    simp only [Option.bind_some, if_true, Bool.true_and]
    simpa [digs] using this
  · rw [decide_eq_false h]; simp

theorem isShore_eq (s : ByteArray) (hs : s.size ≤ 9223372036854775806) : impl_IsShore.f s = some (decide (1 ≤ (s.size : Int) ∧ (s.size : Int) ≤ 14) && digs s) := by
  unfold impl_IsShore.f
  rw [within_eq]
  obtain ⟨t, ht, hd⟩ := trim_digs s (by omega)
  rw [ht]
  by_cases h : 1 ≤ (s.size : Int) ∧ (s.size : Int) ≤ 14
  · rw [decide_eq_true h]; simp only [Option.bind_some, if_true, Bool.true_and, hd]
  · rw [decide_eq_false h]; simp

theorem isTide_eq (s : ByteArray) (hs : s.size ≤ 9223372036854775806) : impl_IsTide.f s = some (decide (1 ≤ (s.size : Int) ∧ (s.size : Int) ≤ 12) && digs s) := by
  unfold impl_IsTide.f
  rw [within_eq]
  obtain ⟨t, ht, hd⟩ := trim_digs s (by omega)
  rw [ht]
  by_cases h : 1 ≤ (s.size : Int) ∧ (s.size : Int) ≤ 12
  · rw [decide_eq_true h]; simp only [Option.bind_some, if_true, Bool.true_and, hd]
  · rw [decide_eq_false h]; simp

def okShore (s : ByteArray) : Bool := decide (1 ≤ (s.size : Int) ∧ (s.size : Int) ≤ 14) && digs s
def okTide (s : ByteArray) : Bool := decide (1 ≤ (s.size : Int) ∧ (s.size : Int) ≤ 12) && digs s
theorem okShore_size {s : ByteArray} (h : okShore s = true) : 1 ≤ s.size ∧ s.size ≤ 14 := by
  unfold okShore at h; simp only [Bool.and_eq_true, decide_eq_true_eq] at h; omega
theorem okTide_size {s : ByteArray} (h : okTide s = true) : 1 ≤ s.size ∧ s.size ≤ 12 := by
  unfold okTide at h; simp only [Bool.and_eq_true, decide_eq_true_eq] at h; omega
theorem tdGood_eq (s t : ByteArray) (hs : s.size ≤ 9223372036854775806) (ht : t.size ≤ 9223372036854775806) (k : Nat) (h1 : s.size < k) (h2 : t.size < k) : spec_tdGood.f k s t = some (okShore s && okTide t) := by
  unfold spec_tdGood.f
  rw [tdText_eq s hs _ k h1, tdText_eq t ht _ k h2]
  show (some (okShore s)).bind _ = _
  cases okShore s <;> simp [okTide]
theorem areShore_eq (s t : ByteArray) (hs : s.size ≤ 9223372036854775806) (ht : t.size ≤ 9223372036854775806) : impl_areShore.f s t = some (okShore s && okTide t) := by
  unfold impl_areShore.f
  rw [isShore_eq s hs, isTide_eq t ht]
  show (some (okShore s)).bind _ = _
  cases okShore s <;> simp [okTide]

theorem dry_eq (s t : ByteArray) (p h : Int) : impl_isDry.f s t p h = spec_tdDry.f s t p h := by
  unfold impl_isDry.f spec_tdDry.f; rfl
/-- Whether a place is dry at an hour. -/
def dryB (s t : ByteArray) (p h : Int) : Bool := decide (p = 0) || decide (p = (s.size : Int) + 1) || decide ((bt s (p - 1)) > (bt t (h % (t.size : Int))))
theorem dry_is (s t : ByteArray) (p h : Int) (hs : s.size ≤ 14) (ht : 1 ≤ t.size ∧ t.size ≤ 12) (hp : 0 ≤ p ∧ p ≤ (s.size : Int) + 1) (hh : 0 ≤ h) : spec_tdDry.f s t p h = some (dryB s t p h) := by
  unfold spec_tdDry.f dryB
  have e1 : wrap64 ((s.size : Int) + 1) = (s.size : Int) + 1 := by unfold wrap64; omega
  have e2 : wrap64 (p - 1) = p - 1 := by unfold wrap64; omega
  have e3 : Int.tmod h (t.size : Int) = h % (t.size : Int) := Int.tmod_eq_emod_of_nonneg hh
  have e4 : 0 ≤ h % (t.size : Int) ∧ h % (t.size : Int) < (t.size : Int) := ⟨Int.emod_nonneg _ (by omega), Int.emod_lt_of_pos _ (by omega)⟩
  rw [e1, e2, e3]
  by_cases c0 : p = 0
  · rw [if_pos c0]; simp [c0]
  · rw [if_neg c0]
    by_cases c1 : p = (s.size : Int) + 1
    · rw [if_pos c1]; simp [c1]
    · rw [if_neg c1, if_pos (by omega), if_pos (by omega), if_neg (by omega), if_pos e4.1, if_pos e4.2]
      simp [c0, c1]
namespace Tide
def near (L a b : Nat) : Bool := decide (a ≤ b + L ∧ b ≤ a + L)
def reach (P L : Nat) (dry : Nat → Nat → Bool) (s : Nat) : Nat → Nat → Bool
  | 0, p => p == 0
  | h + 1, p => dry p (s + h + 1) && (List.range P).any fun q => reach P L dry s h q && near L q p
def first (P L : Nat) (dry : Nat → Nat → Bool) (s : Nat) : Nat → Nat → Int
  | 0, p => if p = 0 then (s : Int) else -1
  | h + 1, p => if reach P L dry s (h + 1) p = true ∧ first P L dry s h p < 0 then ((s + h + 1 : Nat) : Int) else first P L dry s h p
section
variable {P L T : Nat} {dry : Nat → Nat → Bool} {s : Nat}

theorem reach_succ {h p : Nat} : reach P L dry s (h + 1) p = true ↔ dry p (s + h + 1) = true ∧ ∃ q, q < P ∧ reach P L dry s h q = true ∧ near L q p = true := by
  simp only [reach, Bool.and_eq_true, List.any_eq_true, List.mem_range]

theorem near_self (a : Nat) : near L a a = true := by simp [near]

theorem stay (h0 : ∀ h, dry 0 h = true) (hP : 0 < P) : ∀ h, reach P L dry s h 0 = true
  | 0 => by simp [reach]
  | h + 1 => reach_succ.mpr ⟨h0 _, 0, hP, stay h0 hP h, near_self 0⟩

theorem later (hd : ∀ p h, dry p (h + T) = dry p h) (h0 : ∀ h, dry 0 h = true) (hP : 0 < P) : ∀ h p, reach P L dry s h p = true → reach P L dry s (h + T) p = true
  | 0, p, h => by
    have : p = 0 := by simpa [reach] using h
    subst this
    exact stay h0 hP _
  | h + 1, p, hr => by
    obtain ⟨a, q, b, c, d⟩ := reach_succ.mp hr
    have e : h + 1 + T = (h + T) + 1 := by omega
    rw [e]
    refine reach_succ.mpr ⟨?_, q, b, later hd h0 hP h q c, d⟩
    have := hd p (s + h + 1)
    rw [show s + (h + T) + 1 = s + h + 1 + T by omega, this]
    exact a

/-- Once a tide brings nothing new at its end, no later hour brings anything new. -/
theorem still (hd : ∀ p h, dry p (h + T) = dry p h) {j : Nat} (hj : ∀ p, p < P → reach P L dry s (j + T) p = true → reach P L dry s j p = true) : ∀ d p, p < P → reach P L dry s (j + d + T) p = true → reach P L dry s (j + d) p = true
  | 0, p, hp, h => hj p hp h
  | d + 1, p, hp, h => by
    have e : j + (d + 1) + T = (j + d + T) + 1 := by omega
    rw [e] at h
    obtain ⟨a, q, b, c, e2⟩ := reach_succ.mp h
    rw [show j + (d + 1) = j + d + 1 by omega]
    refine reach_succ.mpr ⟨?_, q, b, still hd hj d q b c, e2⟩
    have := hd p (s + (j + d) + 1)
    rw [← this, show s + (j + d) + 1 + T = s + (j + d + T) + 1 by omega]
    exact a

def count (P : Nat) (f : Nat → Bool) : Nat := ((List.range P).filter f).length
theorem count_le (P : Nat) (f : Nat → Bool) : count P f ≤ P := by
  have := List.length_filter_le f (List.range P); simpa [count] using this
theorem count_mono {P : Nat} {f g : Nat → Bool} (h : ∀ p, p < P → f p = true → g p = true) : count P f ≤ count P g := by
  induction P with
  | zero => simp [count]
  | succ P ih =>
    have := ih fun p hp => h p (by omega)
    have hP := h P (by omega)
    simp only [count, List.range_succ, List.filter_append, List.length_append] at this ⊢
    cases hf : f P <;> cases hg : g P <;> simp [hf, hg] at hP ⊢ <;> omega
theorem count_lt {P : Nat} {f g : Nat → Bool} (h : ∀ p, p < P → f p = true → g p = true) {q : Nat} (hq : q < P) (hf : f q = false) (hg : g q = true) : count P f < count P g := by
  induction P with
  | zero => omega
  | succ P ih =>
    have hP := h P (by omega)
    have hm : count P f ≤ count P g := count_mono fun p hp => h p (by omega)
    by_cases e : q = P
    · subst e
      simp only [count, List.range_succ, List.filter_append, List.length_append] at hm ⊢
      simp [hf, hg]; omega
    · have := ih (fun p hp => h p (by omega)) (by omega)
      simp only [count, List.range_succ, List.filter_append, List.length_append] at this ⊢
      cases hf' : f P <;> cases hg' : g P <;> simp [hf', hg'] at hP ⊢ <;> omega

/-- At some tide among the first P ones nothing new comes. -/
theorem some_still (hd : ∀ p h, dry p (h + T) = dry p h) (h0 : ∀ h, dry 0 h = true) (hP : 0 < P) : ∃ j, j < P ∧ ∀ p, p < P → reach P L dry s (j * T + T) p = true → reach P L dry s (j * T) p = true := by
  refine Classical.byContradiction fun hn => ?_
  have step : ∀ j, j < P → ∃ p, p < P ∧ reach P L dry s (j * T + T) p = true ∧ reach P L dry s (j * T) p = false := by
    intro j hj
    refine Classical.byContradiction fun h => hn ⟨j, hj, fun p hp hr => ?_⟩
    cases hc : reach P L dry s (j * T) p with
    | true => rfl
    | false => exact absurd ⟨p, hp, hr, hc⟩ h
  have grow : ∀ j, j ≤ P → j + 1 ≤ count P (reach P L dry s (j * T)) := by
    intro j
    induction j with
    | zero =>
      intro _
      have := count_lt (P := P) (f := fun _ => false) (g := reach P L dry s (0 * T)) (fun _ _ h => by cases h) (q := 0) hP rfl (stay h0 hP _)
      omega
    | succ j ih =>
      intro hj
      obtain ⟨p, hp, h1, h2⟩ := step j (by omega)
      have e : (j + 1) * T = j * T + T := by rw [Nat.add_mul, Nat.one_mul]
      rw [e]
      have := count_lt (P := P) (f := reach P L dry s (j * T)) (g := reach P L dry s (j * T + T)) (fun p _ h => later hd h0 hP _ p h) hp h2 h1
      have := ih (by omega)
      omega
  have h1 := grow P (Nat.le_refl _)
  have := count_le P (reach P L dry s (P * T))
  omega

theorem back (hd : ∀ p h, dry p (h + T) = dry p h) (h0 : ∀ h, dry 0 h = true) (hP : 0 < P) {h p : Nat} (hp : p < P) (hh : P * T ≤ h + T) (hr : reach P L dry s (h + T) p = true) : reach P L dry s h p = true := by
  obtain ⟨j, hj, hs⟩ := some_still (s := s) (L := L) hd h0 hP
  have hle : j * T ≤ h := by
    have : (j + 1) * T ≤ P * T := Nat.mul_le_mul_right T (by omega)
    rw [Nat.add_mul, Nat.one_mul] at this
    omega
  have := still hd hs (h - j * T) p hp
  rw [show j * T + (h - j * T) = h by omega] at this
  exact this hr

/-- Whatever is reached at all is reached within P tides. -/
theorem within_tides (hd : ∀ p h, dry p (h + T) = dry p h) (h0 : ∀ h, dry 0 h = true) (hP : 0 < P) (hT : 0 < T) (h : Nat) : ∀ p, p < P → reach P L dry s h p = true → ∃ h', h' ≤ P * T ∧ h' ≤ h ∧ reach P L dry s h' p = true := by
  induction h using Nat.strongRecOn with
  | _ h ih =>
    intro p hp hr
    by_cases hle : h ≤ P * T
    · exact ⟨h, hle, Nat.le_refl _, hr⟩
    · have hT' : T ≤ P * T := Nat.le_mul_of_pos_left T hP
      obtain ⟨m, rfl⟩ : ∃ m, h = m + T := ⟨h - T, by omega⟩
      obtain ⟨h', a, b, c⟩ := ih m (by omega) p hp (back hd h0 hP hp (by omega) hr)
      exact ⟨h', a, by omega, c⟩

theorem first_neg : ∀ n p, first P L dry s n p < 0 → first P L dry s n p = -1 ∧ ∀ h, h ≤ n → reach P L dry s h p = false
  | 0, p, hf => by
    simp only [first] at hf ⊢
    by_cases hp : p = 0
    · rw [if_pos hp] at hf; omega
    · rw [if_neg hp]
      refine ⟨rfl, fun h hh => ?_⟩
      obtain rfl : h = 0 := by omega
      simp [reach, hp]
  | n + 1, p, hf => by
    simp only [first] at hf ⊢
    split at hf
    · omega
    · rename_i hc
      obtain ⟨a, b⟩ := first_neg n p hf
      rw [if_neg hc]
      refine ⟨a, fun h hh => ?_⟩
      by_cases e : h = n + 1
      · subst e
        cases hr : reach P L dry s (n + 1) p with
        | false => rfl
        | true => exact absurd ⟨hr, hf⟩ hc
      · exact b h (by omega)
theorem first_pos : ∀ n p, 0 ≤ first P L dry s n p → ∃ h, h ≤ n ∧ first P L dry s n p = ((s + h : Nat) : Int) ∧ reach P L dry s h p = true ∧ ∀ h', h' < h → reach P L dry s h' p = false
  | 0, p, hf => by
    simp only [first] at hf ⊢
    by_cases hp : p = 0
    · rw [if_pos hp]; exact ⟨0, Nat.le_refl _, rfl, by simp [reach, hp], fun h' hh => by omega⟩
    · rw [if_neg hp] at hf; omega
  | n + 1, p, hf => by
    simp only [first] at hf ⊢
    split
    · rename_i hc
      exact ⟨n + 1, Nat.le_refl _, rfl, hc.1, fun h' hh => (first_neg n p hc.2).2 h' (by omega)⟩
    · rename_i hc
      rw [if_neg hc] at hf
      obtain ⟨h, a, b, c, d⟩ := first_pos n p hf
      exact ⟨h, by omega, b, c, d⟩
theorem first_of_reach {n p h : Nat} (hh : h ≤ n) (hr : reach P L dry s h p = true) : 0 ≤ first P L dry s n p := by
  rcases Int.lt_or_le (first P L dry s n p) 0 with c | c
  · have := (first_neg n p c).2 h hh; rw [hr] at this; cases this
  · exact c
theorem first_unique {n p h : Nat} (hh : h ≤ n) (hr : reach P L dry s h p = true) (hn : ∀ h', h' < h → reach P L dry s h' p = false) : first P L dry s n p = ((s + h : Nat) : Int) := by
  obtain ⟨h2, a, b, c, d⟩ := first_pos n p (first_of_reach hh hr)
  have : h2 = h := by
    rcases Nat.lt_trichotomy h2 h with l | l | l
    · have := hn h2 l; rw [c] at this; cases this
    · exact l
    · have := d h l; rw [hr] at this; cases this
  rw [b, this]
/-- More rounds than P tides tell nothing new. -/
theorem first_enough (hd : ∀ p h, dry p (h + T) = dry p h) (h0 : ∀ h, dry 0 h = true) (hP : 0 < P) (hT : 0 < T) {n p : Nat} (hp : p < P) (hn : P * T ≤ n) : first P L dry s n p = first P L dry s (P * T) p := by
  rcases Int.lt_or_le (first P L dry s (P * T) p) 0 with c | c
  · obtain ⟨a, b⟩ := first_neg _ p c
    rcases Int.lt_or_le (first P L dry s n p) 0 with c' | c'
    · rw [a, (first_neg _ p c').1]
    · obtain ⟨h, _, _, hr, _⟩ := first_pos n p c'
      obtain ⟨h', x, _, z⟩ := within_tides hd h0 hP hT h p hp hr
      have := b h' x; rw [z] at this; cases this
  · obtain ⟨h, x, y, z, u⟩ := first_pos _ p c
    rw [y]; exact first_unique (by omega) z u
end
end Tide

section
variable {α : Type} {P : Nat} {f g : Nat → α}
def tab (P : Nat) (f : Nat → α) : List α := (List.range P).map f
theorem tab_len : (tab P f).length = P := by simp [tab]
theorem tab_congr (h : ∀ i, i < P → f i = g i) : tab P f = tab P g := by
  unfold tab
  exact List.map_congr_left fun i hi => h i (List.mem_range.mp hi)
theorem tab_get (d : α) {p : Nat} (h : p < P) : (tab P f).getD p d = f p := by
  rw [List.getD_eq_getElem?_getD, tab, List.getElem?_map, List.getElem?_range h]; rfl
theorem tab_set {p : Nat} {v : α} : (tab P f).set p v = tab P (fun i => if i = p then v else f i) := by
  apply List.ext_getElem
  · simp [tab]
  · intro i h1 h2
    rw [List.getElem_set]
    simp only [tab, List.getElem_map, List.getElem_range]
    by_cases e : p = i
    · rw [if_pos e, if_pos e.symm]
    · rw [if_neg e, if_neg (fun h => e h.symm)]
theorem tab_const (v : α) : List.replicate P v = tab P (fun _ => v) := by
  apply List.ext_getElem
  · simp [tab]
  · intro i h1 h2; simp [tab]
end
theorem rdOf_tab {α : Type} {P : Nat} {f : Nat → α} (d : α) {p : Nat} (h : p < P) : rdOf d (tab P f) (p : Int) = f p := by
  unfold rdOf; rw [show ((p : Int)).toNat = p by omega]; exact tab_get d h
theorem rd_tab {P : Nat} {f : Nat → Int} {p : Nat} (h : p < P) : rd (tab P f) (p : Int) = f p := by
  unfold rd; rw [show ((p : Int)).toNat = p by omega]; exact tab_get 0 h
theorem w_nat {n : Nat} (h : n ≤ 100000) : wrap64 ((n : Int) + 1) = ((n + 1 : Nat) : Int) := by unfold wrap64; omega
theorem w_id {n : Int} (h0 : -100000 ≤ n) (h1 : n ≤ 100000) : wrap64 n = n := by unfold wrap64; omega

def okLeap (p : Int) : Bool := decide (1 ≤ p ∧ p ≤ 15)
def okHour (p : Int) : Bool := decide (0 ≤ p ∧ p ≤ 1000)
theorem tdLeap_eq (s t : ByteArray) (p : Int) (hs : s.size ≤ 9223372036854775806) (ht : t.size ≤ 9223372036854775806) (k : Nat) (h1 : s.size < k) (h2 : t.size < k) : spec_tdLeap.f k s t p = some ((okShore s && okTide t) && okLeap p) := by
  unfold spec_tdLeap.f
  rw [tdGood_eq s t hs ht k h1 h2, l1In_eq]
  unfold okLeap
  cases (okShore s && okTide t) <;> simp
theorem isRight_eq (s t : ByteArray) (p : Int) (hs : s.size ≤ 9223372036854775806) (ht : t.size ≤ 9223372036854775806) : impl_crossing_isRight.f s t p = some ((okShore s && okTide t) && okLeap p) := by
  unfold impl_crossing_isRight.f
  rw [areShore_eq s t hs ht, within_eq]
  unfold okLeap
  cases (okShore s && okTide t) <;> simp

theorem asked_eq (s t : ByteArray) (p h : Int) (hs : s.size ≤ 9223372036854775806) (ht : t.size ≤ 9223372036854775806) (k : Nat) (h1 : s.size < k) (h2 : t.size < k) : spec_tdAsked.f k s t p h = some (((okShore s && okTide t) && okLeap p) && okHour h) := by
  unfold spec_tdAsked.f spec_tdHour.f
  rw [tdLeap_eq s t p hs ht k h1 h2, l1In_eq]
  unfold okHour
  cases ((okShore s && okTide t) && okLeap p) <;> simp

theorem isHour_eq (h : Int) : impl_isHour.f h = some (okHour h) := by
  unfold impl_isHour.f; rw [within_eq]; rfl

theorem places_eq (s t : ByteArray) (p : Int) (hs : s.size ≤ 14) : impl_crossing_places.f s t p = some ((s.size + 2 : Nat) : Int) := by
  unfold impl_crossing_places.f; rw [w_id (by omega) (by omega)]; rfl
theorem w_end {a b st n : Nat} (h : a * b = n) (hn : n ≤ 192) (hst : st ≤ 2000) : wrap64 ((st : Int) + wrap64 ((a : Int) * (b : Int))) = ((st + n : Nat) : Int) := by
  rw [← Int.natCast_mul, h, w_id (n := (n : Int)) (by omega) (by omega), w_id (by omega) (by omega)]; omega
def anyFrom (f : Nat → Bool) : Nat → Nat → Bool
  | _, 0 => false
  | q, d + 1 => f q || anyFrom f (q + 1) d
theorem anyFrom_iff {f : Nat → Bool} : ∀ {d q}, anyFrom f q d = true ↔ ∃ i, q ≤ i ∧ i < q + d ∧ f i = true
  | 0, q => by
    simp only [anyFrom]
    constructor
    · intro h; cases h
    · rintro ⟨i, a, b, _⟩; omega
  | d + 1, q => by
    simp only [anyFrom, Bool.or_eq_true, anyFrom_iff (d := d) (q := q + 1)]
    constructor
    · rintro (h | ⟨i, a, b, c⟩)
      · exact ⟨q, by omega, by omega, h⟩
      · exact ⟨i, by omega, by omega, c⟩
    · rintro ⟨i, a, b, c⟩
      by_cases e : i = q
      · subst e; exact .inl c
      · exact .inr ⟨i, by omega, by omega, c⟩
/-- Dry, by natural numbers. -/
def dryN (s t : ByteArray) (p h : Nat) : Bool := dryB s t (p : Int) (h : Int)
theorem dryN_tide (s t : ByteArray) (p h : Nat) (ht : 1 ≤ t.size) : dryN s t p (h + t.size) = dryN s t p h := by
  unfold dryN dryB
  rw [show ((h + t.size : Nat) : Int) = (h : Int) + (t.size : Int) by omega, Int.add_emod_right]
theorem dryN_bank (s t : ByteArray) (h : Nat) : dryN s t 0 h = true := by unfold dryN dryB; simp
theorem dryN_end (s t : ByteArray) (h : Nat) : dryN s t (s.size + 1) h = true := by
  unfold dryN dryB
  rw [decide_eq_true (show ((s.size + 1 : Nat) : Int) = (s.size : Int) + 1 by omega)]; simp
abbrev rch (s t : ByteArray) (L st h p : Nat) : Bool := Tide.reach (s.size + 2) L (dryN s t) st h p
abbrev fst (s t : ByteArray) (L st n p : Nat) : Int := Tide.first (s.size + 2) L (dryN s t) st n p
set_option linter.unusedSectionVars false
section
variable (s t : ByteArray) (L st : Nat) (hs : 1 ≤ s.size ∧ s.size ≤ 14) (ht : 1 ≤ t.size ∧ t.size ≤ 12) (hL : 1 ≤ L ∧ L ≤ 15)
include hs ht hL
theorem dry_nat (p h : Nat) (hp : p < s.size + 2) : spec_tdDry.f s t (p : Int) (h : Int) = some (dryN s t p h) := dry_is s t _ _ hs.2 ht (by omega) (by omega)
theorem near_nat (q p : Nat) (hq : q < s.size + 2) (hp : p < s.size + 2) : impl_crossing_near.f s t (L : Int) (q : Int) (p : Int) = some (Tide.near L q p) := by
  unfold impl_crossing_near.f
  rw [w_id (n := (p : Int) - (q : Int)) (by omega) (by omega), w_id (n := -(L : Int)) (by omega) (by omega), within_eq]
  unfold Tide.near
  simp only [Option.bind_some]
  exact congrArg some (decide_eq_decide.mpr (by omega))
/-- One place of the reference's step. -/
theorem step_l1 (h p : Nat) (hh : h ≤ 5000) (hp : p < s.size + 2) (at_ : Nat → Bool) (r : List Bool) (e : Nat) (he : e = min (s.size + 2) (p + L + 1)) (d : Nat) : ∀ (q : Nat) (g : Nat → Bool), q + d = e →
    Ev (fun k => spec_tdStep.l0 k s t (L : Int) (h : Int) (tab (s.size + 2) at_) (tab (s.size + 2) (fun i => if i = p then g p || (dryN s t p (h + 1) && anyFrom at_ q d) else g i)) ((s.size + 2 : Nat) : Int) ((p + 1 : Nat) : Int)) r →
    Ev (fun k => spec_tdStep.l1 k s t (L : Int) (h : Int) (tab (s.size + 2) at_) (tab (s.size + 2) g) (p : Int) (q : Int) ((s.size + 2 : Nat) : Int) (p : Int)) r := by
  have ewp := Aside0.mk (show wrap64 ((p : Int) + 1) = ((p + 1 : Nat) : Int) from w_nat (by omega))
  have ewl := Aside0.mk (show wrap64 ((p : Int) + (L : Int)) = ((p + L : Nat) : Int) from by rw [w_id (by omega) (by omega)]; omega)
  have ewh := Aside0.mk (show wrap64 ((h : Int) + 1) = ((h + 1 : Nat) : Int) from w_nat (by omega))
  have hsame : ∀ (b : Bool) (g : Nat → Bool), b = false → tab (s.size + 2) (fun i => if i = p then g p || b else g i) = tab (s.size + 2) g := by
    intro b g hb
    refine tab_congr fun i _ => ?_
    by_cases c : i = p
    · rw [if_pos c, hb, c]; simp
    · rw [if_neg c]
  induction d with
  | zero =>
    intro q g hq hE
    rw [hsame _ g (by simp [anyFrom])] at hE
    refine Ev.step (fun k => ?_) hE
    simp only [spec_tdStep.l1, tab_len, ewp.out, ewl.out]
    by_cases c : q < s.size + 2
    · rw [if_pos (by omega), if_neg (by omega)]
    · rw [if_neg (by omega)]
  | succ d ih =>
    intro q g hq hE
    have c1 : (q : Int) < ((s.size + 2 : Nat) : Int) := by omega
    have c2 : (q : Int) ≤ ((p + L : Nat) : Int) := by omega
    have c3 : 0 ≤ (p : Int) := by omega
    have c4 : (p : Int) < ((s.size + 2 : Nat) : Int) := by omega
    have c5 : 0 ≤ (q : Int) := by omega
    have ewq := Aside0.mk (show wrap64 ((q : Int) + 1) = ((q + 1 : Nat) : Int) from w_nat (by omega))
    have hq2 : q < s.size + 2 := by omega
    cases hd : dryN s t p (h + 1) with
    | false =>
      rw [hsame _ g (by rw [hd]; simp)] at hE
      refine Ev.step (fun k => ?_) hE
      simp only [spec_tdStep.l1, tab_len, ewp.out, ewl.out, ewh.out]
      rw [if_pos c1, if_pos c2, dry_nat s t L hs ht hL p (h + 1) hp, hd]
      simp
    | true =>
      rw [hd] at hE
      have step : ∀ v : Bool, v = (g p || at_ q) → Ev (fun k => spec_tdStep.l1 k s t (L : Int) (h : Int) (tab (s.size + 2) at_) (tab (s.size + 2) (fun i => if i = p then v else g i)) (p : Int) ((q + 1 : Nat) : Int) ((s.size + 2 : Nat) : Int) (p : Int)) r := by
        intro v hv
        refine ih (q + 1) _ (by omega) ?_
        rw [hd]
        have e2 : tab (s.size + 2) (fun i => if i = p then (if p = p then v else g p) || (true && anyFrom at_ (q + 1) d) else if i = p then v else g i) = tab (s.size + 2) (fun i => if i = p then g p || (true && anyFrom at_ q (d + 1)) else g i) := by
          refine tab_congr fun i _ => ?_
          by_cases c : i = p
          · rw [if_pos c, if_pos c, if_pos rfl, hv]; simp only [anyFrom, Bool.true_and, Bool.or_assoc]
          · rw [if_neg c, if_neg c, if_neg c]
        rw [e2]; exact hE
      cases hg : g p with
      | true =>
        refine Ev.step (fun k => ?_) (step true (by rw [hg]; rfl))
        simp only [spec_tdStep.l1, tab_len, ewp.out, ewl.out, ewh.out, ewq.out]
        rw [if_pos c1, if_pos c2, dry_nat s t L hs ht hL p (h + 1) hp, hd]
        simp only [Option.bind_some, if_true]
        rw [if_pos c3, if_pos c4, rdOf_tab false hp, if_pos hg, show ((p : Int)).toNat = p by omega, tab_set]
      | false =>
        refine Ev.step (fun k => ?_) (step (at_ q) (by rw [hg]; rfl))
        simp only [spec_tdStep.l1, tab_len, ewp.out, ewl.out, ewh.out, ewq.out]
        rw [if_pos c1, if_pos c2, dry_nat s t L hs ht hL p (h + 1) hp, hd]
        simp only [Option.bind_some, if_true]
        rw [if_pos c3, if_pos c4, rdOf_tab false hp, if_neg (by rw [hg]; decide), if_pos c5, rdOf_tab false hq2, show ((p : Int)).toNat = p by omega, tab_set]
theorem reach_is (j p : Nat) (hp : p < s.size + 2) : rch s t L st (j + 1) p = (dryN s t p (st + j + 1) && anyFrom (rch s t L st j) (p - L) (min (s.size + 2) (p + L + 1) - (p - L))) := by
  rw [Bool.eq_iff_iff, Tide.reach_succ, Bool.and_eq_true, anyFrom_iff]
  constructor
  · rintro ⟨a, q, b, c, d⟩
    simp only [Tide.near, decide_eq_true_eq] at d
    exact ⟨a, q, by omega, by omega, c⟩
  · rintro ⟨a, q, b, c, d⟩
    exact ⟨a, q, by omega, d, by simp only [Tide.near, decide_eq_true_eq]; omega⟩
theorem step_l0 (j : Nat) (hj : st + j ≤ 5000) (d : Nat) : ∀ (p : Nat) (g : Nat → Bool), p + d = s.size + 2 → (∀ i, i < p → g i = rch s t L st (j + 1) i) → (∀ i, p ≤ i → g i = false) →
    Ev (fun k => spec_tdStep.l0 k s t (L : Int) ((st + j : Nat) : Int) (tab (s.size + 2) (rch s t L st j)) (tab (s.size + 2) g) ((s.size + 2 : Nat) : Int) (p : Int)) (tab (s.size + 2) (rch s t L st (j + 1))) := by
  induction d with
  | zero =>
    intro p g hp h1 h2
    refine Ev.step (fun k => ?_) (Ev.now _)
    simp only [spec_tdStep.l0]
    rw [if_neg (by omega)]
    exact congrArg some (tab_congr fun i hi => h1 i (by omega))
  | succ d ih =>
    intro p g hp h1 h2
    have hm : spec_l1Most.f 0 (wrap64 ((p : Int) - (L : Int))) = some ((p - L : Nat) : Int) := by
      unfold spec_l1Most.f
      rw [w_id (by omega) (by omega)]
      by_cases c : (0 : Int) > (p : Int) - (L : Int)
      · rw [if_pos c]; exact congrArg some (by omega)
      · rw [if_neg c]; exact congrArg some (by omega)
    refine Ev.step (f := fun k => spec_tdStep.l1 k s t (L : Int) ((st + j : Nat) : Int) (tab (s.size + 2) (rch s t L st j)) (tab (s.size + 2) g) (p : Int) ((p - L : Nat) : Int) ((s.size + 2 : Nat) : Int) (p : Int)) (fun k => ?_) ?_
    · simp only [spec_tdStep.l0]
      rw [if_pos (by omega), hm]; rfl
    · refine step_l1 s t L hs ht hL (st + j) p hj (by omega) _ _ _ rfl (min (s.size + 2) (p + L + 1) - (p - L)) (p - L) g (by omega) ?_
      refine ih (p + 1) _ (by omega) (fun i hi => ?_) (fun i hi => ?_)
      · by_cases c : i = p
        · rw [if_pos c, c, h2 p (Nat.le_refl _), Bool.false_or, reach_is s t L st hs ht hL j p (by omega)]
        · rw [if_neg c]; exact h1 i (by omega)
      · rw [if_neg (by omega)]; exact h2 i (by omega)
theorem step_ok (j : Nat) (hj : st + j ≤ 5000) : Ev (fun k => spec_tdStep.f k s t (L : Int) ((st + j : Nat) : Int) (tab (s.size + 2) (rch s t L st j))) (tab (s.size + 2) (rch s t L st (j + 1))) := by
  refine Ev.congr (fun k => ?_) (step_l0 s t L st hs ht hL j hj (s.size + 2) 0 (fun _ => false) (by omega) (fun i hi => by omega) (fun _ _ => rfl))
  simp only [spec_tdStep.f, tab_len]
  rw [if_pos (by omega), if_pos (by omega), show (((s.size + 2 : Nat) : Int)).toNat = s.size + 2 by omega, tab_const]; rfl
/-- The reference's arrivals, one hour. -/
theorem arr_l2 (j : Nat) (hj : st + j ≤ 5000) (r : List Int) (x9 : Int) (d : Nat) : ∀ (p : Nat) (o : Nat → Int), p + d = s.size + 2 → (∀ i, i < p → o i = fst s t L st (j + 1) i) → (∀ i, p ≤ i → o i = fst s t L st j i) →
    Ev (fun k => spec_tdArrive.l1 k s t (L : Int) (st : Int) x9 (tab (s.size + 2) (fst s t L st (j + 1))) (tab (s.size + 2) (rch s t L st (j + 1))) ((st + (j + 1) : Nat) : Int)) r →
    Ev (fun k => spec_tdArrive.l2 k s t (L : Int) (st : Int) x9 (tab (s.size + 2) o) (tab (s.size + 2) (rch s t L st (j + 1))) ((st + j : Nat) : Int) (tab (s.size + 2) (rch s t L st (j + 1))) ((s.size + 2 : Nat) : Int) (p : Int)) r := by
  have ewh := Aside0.mk (show wrap64 (((st + j : Nat) : Int) + 1) = ((st + (j + 1) : Nat) : Int) from w_nat (by omega))
  induction d with
  | zero =>
    intro p o hp h1 h2 hE
    refine Ev.step (fun k => ?_) hE
    simp only [spec_tdArrive.l2, ewh.out]
    rw [if_neg (by omega), tab_congr (f := o) fun i hi => h1 i (by omega)]
  | succ d ih =>
    intro p o hp h1 h2 hE
    have ewp := Aside0.mk (show wrap64 ((p : Int) + 1) = ((p + 1 : Nat) : Int) from w_nat (by omega))
    have hp2 : p < s.size + 2 := by omega
    have c1 : (p : Int) < ((s.size + 2 : Nat) : Int) := by omega
    have c3 : 0 ≤ (p : Int) := by omega
    have go : ∀ o' : Nat → Int, (∀ i, i < p + 1 → o' i = fst s t L st (j + 1) i) → (∀ i, p + 1 ≤ i → o' i = fst s t L st j i) → Ev (fun k => spec_tdArrive.l2 k s t (L : Int) (st : Int) x9 (tab (s.size + 2) o') (tab (s.size + 2) (rch s t L st (j + 1))) ((st + j : Nat) : Int) (tab (s.size + 2) (rch s t L st (j + 1))) ((s.size + 2 : Nat) : Int) ((p + 1 : Nat) : Int)) r :=
      fun o' a b => ih (p + 1) o' (by omega) a b hE
    by_cases hc : rch s t L st (j + 1) p = true ∧ fst s t L st j p < 0
    · refine Ev.step (fun k => ?_) (go (fun i => if i = p then ((st + (j + 1) : Nat) : Int) else o i) (fun i hi => ?_) (fun i hi => ?_))
      · simp only [spec_tdArrive.l2, tab_len, ewh.out, ewp.out]
        rw [if_pos c1, if_pos c3, if_pos c1, rdOf_tab false hp2, if_pos hc.1, if_pos c1, rd_tab hp2, h2 p (Nat.le_refl _), if_pos hc.2, show ((p : Int)).toNat = p by omega, tab_set]
      · by_cases c : i = p
        · rw [if_pos c, c]; simp only [fst, Tide.first]; rw [if_pos hc]; rfl
        · rw [if_neg c]; exact h1 i (by omega)
      · rw [if_neg (by omega)]; exact h2 i (by omega)
    · refine Ev.step (fun k => ?_) (go o (fun i hi => ?_) (fun i hi => h2 i (by omega)))
      · simp only [spec_tdArrive.l2, tab_len, ewh.out, ewp.out]
        rw [if_pos c1, if_pos c3, if_pos c1, rdOf_tab false hp2]
        by_cases a : rch s t L st (j + 1) p = true
        · rw [if_pos a, if_pos c1, rd_tab hp2, h2 p (Nat.le_refl _), if_neg (fun b => hc ⟨a, b⟩)]
        · rw [if_neg a]
      · by_cases c : i = p
        · rw [c, h2 p (Nat.le_refl _)]; simp only [fst, Tide.first]; rw [if_neg hc]
        · exact h1 i (by omega)
theorem arr_l1 (n : Nat) (hn : n = t.size * (s.size + 3)) (hst : st ≤ 2000) (d : Nat) : ∀ j, j + d = n →
    Ev (fun k => spec_tdArrive.l1 k s t (L : Int) (st : Int) ((s.size + 2 : Nat) : Int) (tab (s.size + 2) (fst s t L st j)) (tab (s.size + 2) (rch s t L st j)) ((st + j : Nat) : Int)) (tab (s.size + 2) (fst s t L st n)) := by
  have hb : n ≤ 204 := by rw [hn]; exact Nat.le_trans (Nat.mul_le_mul ht.2 (show s.size + 3 ≤ 17 by omega)) (by omega)
  have e1 := Aside0.mk (show wrap64 ((st : Int) + wrap64 ((t.size : Int) * wrap64 (((s.size + 2 : Nat) : Int) + 1))) = ((st + n : Nat) : Int) from by rw [w_id (n := ((s.size + 2 : Nat) : Int) + 1) (by omega) (by omega), show (t.size : Int) * (((s.size + 2 : Nat) : Int) + 1) = (n : Int) by rw [hn, Int.natCast_mul]; rfl, w_id (n := (n : Int)) (by omega) (by omega), w_id (by omega) (by omega)]; omega)
  induction d with
  | zero =>
    intro j hj
    obtain rfl : j = n := by omega
    refine Ev.step (fun k => ?_) (Ev.now _)
    simp only [spec_tdArrive.l1, e1.out]
    rw [if_neg (by omega)]
  | succ d ih =>
    intro j hj
    refine Ev.step (f := fun k => (spec_tdStep.f k s t (L : Int) ((st + j : Nat) : Int) (tab (s.size + 2) (rch s t L st j))).bind fun y => spec_tdArrive.l2 k s t (L : Int) (st : Int) ((s.size + 2 : Nat) : Int) (tab (s.size + 2) (fst s t L st j)) y ((st + j : Nat) : Int) y (y.length : Int) 0) (fun k => ?_) ?_
    · simp only [spec_tdArrive.l1, e1.out]
      rw [if_pos (by omega)]
    · refine Ev.bind (step_ok s t L st hs ht hL j (by omega)) ?_
      simp only [tab_len]
      exact arr_l2 s t L st hs ht hL j (by omega) _ _ (s.size + 2) 0 _ (by omega) (fun i hi => by omega) (fun _ _ => rfl) (ih (j + 1) (by omega))
theorem arr_l0 (n : Nat) (hn : n = t.size * (s.size + 3)) (hst : st ≤ 2000) (d : Nat) : ∀ (p : Nat) (o : Nat → Int), p + d = s.size + 2 → (∀ i, i < p → o i = -1) →
    Ev (fun k => spec_tdArrive.l0 k s t (L : Int) (st : Int) ((s.size + 2 : Nat) : Int) (tab (s.size + 2) o) ((s.size + 2 : Nat) : Int) (p : Int)) (tab (s.size + 2) (fst s t L st n)) := by
  induction d with
  | zero =>
    intro p o hp ho
    have := arr_l1 s t L st hs ht hL n hn hst n 0 (by omega)
    refine Ev.step (fun k => ?_) this
    simp only [spec_tdArrive.l0, tab_len]
    rw [if_neg (by omega), if_pos (by omega), if_pos (by omega), if_pos (by omega)]
    simp only [Option.bind_some, List.length_replicate]
    rw [if_pos (by omega), show (((s.size + 2 : Nat) : Int)).toNat = s.size + 2 by omega, tab_const, show ((0 : Int)).toNat = 0 from rfl, tab_set, tab_set]
    congr 1
    refine tab_congr fun i hi => ?_
    simp only [fst, Tide.first]
    by_cases c : i = 0
    · rw [if_pos c, if_pos c]
    · rw [if_neg c, if_neg c]; exact ho i (by omega)
  | succ d ih =>
    intro p o hp ho
    have ewp := Aside0.mk (show wrap64 ((p : Int) + 1) = ((p + 1 : Nat) : Int) from w_nat (by omega))
    refine Ev.step (fun k => ?_) (ih (p + 1) (fun i => if i = p then -1 else o i) (by omega) (fun i hi => ?_))
    · simp only [spec_tdArrive.l0, tab_len, ewp.out]
      rw [if_pos (by omega), if_pos (by omega), if_pos (by omega), show ((p : Int)).toNat = p by omega, tab_set]
    · by_cases c : i = p
      · rw [if_pos c]
      · rw [if_neg c]; exact ho i (by omega)
/-- What both functions answer: for each place the first hour. -/
def arrs : List Int := tab (s.size + 2) (fst s t L st ((s.size + 2) * t.size))
theorem spec_arr (hst : st ≤ 2000) : Ev (fun k => spec_tdArrive.f k s t (L : Int) (st : Int)) (arrs s t L st) := by
  have e : arrs s t L st = tab (s.size + 2) (fst s t L st (t.size * (s.size + 3))) := by
    refine tab_congr fun i hi => ?_
    exact (Tide.first_enough (T := t.size) (fun p h => dryN_tide s t p h ht.1) (fun h => dryN_bank s t h) (by omega) (by omega) hi (by rw [Nat.mul_comm (s.size + 2)]; exact Nat.mul_le_mul_left _ (by omega))).symm
  rw [e]
  refine Ev.congr (fun k => ?_) (arr_l0 s t L st hs ht hL _ rfl hst (s.size + 2) 0 (fun _ => 0) (by omega) (fun i hi => by omega))
  simp only [spec_tdArrive.f]
  rw [w_id (n := (s.size : Int) + 2) (by omega) (by omega), if_pos (by omega), if_pos (by omega)]
  simp only [Option.bind_some, List.length_replicate]
  rw [show (((s.size : Int) + 2)).toNat = s.size + 2 by omega, tab_const]; rfl
/-- One place of the program's hour. -/
theorem one_l2 (j p : Nat) (hj : st + j ≤ 5000) (hp : p < s.size + 2) (o : Nat → Int) (r : List Int) (d : Nat) : ∀ (q : Nat) (g : Nat → Bool), q + d = s.size + 2 →
    Ev (fun k => impl_crossing_arrivals.l2 k (st : Int) (tab (s.size + 2) o) (tab (s.size + 2) (rch s t L st j)) ((st + j + 1 : Nat) : Int) (tab (s.size + 2) (fun i => if i = p then g p || anyFrom (fun q => rch s t L st j q && (Tide.near L q p && dryN s t p (st + j + 1))) q d else g i)) (p : Int) ((s.size + 2 : Nat) : Int) (p : Int) (tab (s.size + 2) (rch s t L st j)) ((s.size + 2 : Nat) : Int) ((s.size + 2 : Nat) : Int) s t (L : Int)) r →
    Ev (fun k => impl_crossing_arrivals.l2 k (st : Int) (tab (s.size + 2) o) (tab (s.size + 2) (rch s t L st j)) ((st + j + 1 : Nat) : Int) (tab (s.size + 2) g) (p : Int) ((s.size + 2 : Nat) : Int) (p : Int) (tab (s.size + 2) (rch s t L st j)) ((s.size + 2 : Nat) : Int) (q : Int) s t (L : Int)) r := by
  induction d with
  | zero =>
    intro q g hq hE
    obtain rfl : q = s.size + 2 := by omega
    have e : tab (s.size + 2) (fun i => if i = p then g p || anyFrom (fun q => rch s t L st j q && (Tide.near L q p && dryN s t p (st + j + 1))) (s.size + 2) 0 else g i) = tab (s.size + 2) g := by
      refine tab_congr fun i _ => ?_
      by_cases c : i = p
      · rw [if_pos c, c]; simp [anyFrom]
      · rw [if_neg c]
    rw [e] at hE; exact hE
  | succ d ih =>
    intro q g hq hE
    have hq2 : q < s.size + 2 := by omega
    have c1 : (q : Int) < ((s.size + 2 : Nat) : Int) := by omega
    have c2 : 0 ≤ (q : Int) := by omega
    have c3 : 0 ≤ (p : Int) := by omega
    have c4 : (p : Int) < ((s.size + 2 : Nat) : Int) := by omega
    have ewq := Aside0.mk (show wrap64 ((q : Int) + 1) = ((q + 1 : Nat) : Int) from w_nat (by omega))
    have step : ∀ v : Bool, v = (g p || (rch s t L st j q && (Tide.near L q p && dryN s t p (st + j + 1)))) → Ev (fun k => impl_crossing_arrivals.l2 k (st : Int) (tab (s.size + 2) o) (tab (s.size + 2) (rch s t L st j)) ((st + j + 1 : Nat) : Int) (tab (s.size + 2) (fun i => if i = p then v else g i)) (p : Int) ((s.size + 2 : Nat) : Int) (p : Int) (tab (s.size + 2) (rch s t L st j)) ((s.size + 2 : Nat) : Int) ((q + 1 : Nat) : Int) s t (L : Int)) r := by
      intro v hv
      refine ih (q + 1) _ (by omega) ?_
      have e2 : tab (s.size + 2) (fun i => if i = p then (if p = p then v else g p) || anyFrom (fun q => rch s t L st j q && (Tide.near L q p && dryN s t p (st + j + 1))) (q + 1) d else if i = p then v else g i) = tab (s.size + 2) (fun i => if i = p then g p || anyFrom (fun q => rch s t L st j q && (Tide.near L q p && dryN s t p (st + j + 1))) q (d + 1) else g i) := by
        refine tab_congr fun i _ => ?_
        by_cases c : i = p
        · rw [if_pos c, if_pos c, if_pos rfl, hv]; simp only [anyFrom, Bool.or_assoc]
        · rw [if_neg c, if_neg c, if_neg c]
      rw [e2]; exact hE
    cases hg : g p with
    | true =>
      refine Ev.step (fun k => ?_) (step true (by rw [hg]; rfl))
      simp only [impl_crossing_arrivals.l2, tab_len, ewq.out]
      rw [if_pos c1, if_pos c2, if_pos c1, if_pos c3, if_pos c4, rdOf_tab false hp, if_pos hg, show ((p : Int)).toNat = p by omega, tab_set]
    | false =>
      cases hr : rch s t L st j q with
      | false =>
        refine Ev.step (fun k => ?_) (step false (by rw [hg, hr]; rfl))
        simp only [impl_crossing_arrivals.l2, tab_len, ewq.out]
        rw [if_pos c1, if_pos c2, if_pos c1, if_pos c3, if_pos c4, rdOf_tab false hp, if_neg (by rw [hg]; decide), rdOf_tab false hq2, if_neg (by rw [hr]; decide), show ((p : Int)).toNat = p by omega, tab_set]
      | true =>
        cases hnr : Tide.near L q p with
        | false =>
          refine Ev.step (fun k => ?_) (step false (by rw [hg, hr, hnr]; rfl))
          simp only [impl_crossing_arrivals.l2, tab_len, ewq.out]
          rw [if_pos c1, if_pos c2, if_pos c1, if_pos c3, if_pos c4, rdOf_tab false hp, if_neg (by rw [hg]; decide), rdOf_tab false hq2, if_pos hr, near_nat s t L hs ht hL q p hq2 hp, hnr]
          simp only [Option.bind_some, Bool.false_eq_true, if_false]
          rw [show ((p : Int)).toNat = p by omega, tab_set]
        | true =>
          refine Ev.step (fun k => ?_) (step (dryN s t p (st + j + 1)) (by rw [hg, hr, hnr]; rfl))
          simp only [impl_crossing_arrivals.l2, tab_len, ewq.out]
          rw [if_pos c1, if_pos c2, if_pos c1, if_pos c3, if_pos c4, rdOf_tab false hp, if_neg (by rw [hg]; decide), rdOf_tab false hq2, if_pos hr, near_nat s t L hs ht hL q p hq2 hp, hnr]
          simp only [Option.bind_some, if_true]
          rw [dry_eq, dry_nat s t L hs ht hL p _ hp]
          simp only [Option.bind_some]
          rw [show ((p : Int)).toNat = p by omega, tab_set]
theorem reach_as (j p : Nat) (hp : p < s.size + 2) : rch s t L st (j + 1) p = anyFrom (fun q => rch s t L st j q && (Tide.near L q p && dryN s t p (st + j + 1))) 0 (s.size + 2) := by
  rw [Bool.eq_iff_iff, Tide.reach_succ, anyFrom_iff]
  constructor
  · rintro ⟨a, q, b, c, d⟩
    exact ⟨q, by omega, by omega, by simp only [Bool.and_eq_true]; exact ⟨c, d, a⟩⟩
  · rintro ⟨q, _, b, c⟩
    simp only [Bool.and_eq_true] at c
    exact ⟨c.2.2, q, by omega, c.1, c.2.1⟩
theorem one_l1 (j : Nat) (hj : st + j ≤ 5000) (r : List Int) (d : Nat) : ∀ (p : Nat) (o : Nat → Int) (g : Nat → Bool), p + d = s.size + 2 → (∀ i, i < p → o i = fst s t L st (j + 1) i) → (∀ i, p ≤ i → o i = fst s t L st j i) → (∀ i, i < p → g i = rch s t L st (j + 1) i) → (∀ i, p ≤ i → g i = false) →
    Ev (fun k => impl_crossing_arrivals.l0 k (st : Int) (tab (s.size + 2) (fst s t L st (j + 1))) (tab (s.size + 2) (rch s t L st (j + 1))) ((st + (j + 1) + 1 : Nat) : Int) s t (L : Int)) r →
    Ev (fun k => impl_crossing_arrivals.l1 k (st : Int) (tab (s.size + 2) o) (tab (s.size + 2) (rch s t L st j)) ((st + j + 1 : Nat) : Int) (tab (s.size + 2) g) ((s.size + 2 : Nat) : Int) (p : Int) s t (L : Int)) r := by
  induction d with
  | zero =>
    intro p o g hp h1 h2 h3 h4 hE
    refine Ev.step (fun k => ?_) hE
    simp only [impl_crossing_arrivals.l1]
    rw [if_neg (by omega), tab_congr (f := o) fun i hi => h1 i (by omega), tab_congr (f := g) fun i hi => h3 i (by omega), w_nat (n := st + j + 1) (by omega)]
    rfl
  | succ d ih =>
    intro p o g hp h1 h2 h3 h4 hE
    have hp2 : p < s.size + 2 := by omega
    have c3 : 0 ≤ (p : Int) := by omega
    have c4 : (p : Int) < ((s.size + 2 : Nat) : Int) := by omega
    have ewp := Aside0.mk (show wrap64 ((p : Int) + 1) = ((p + 1 : Nat) : Int) from w_nat (by omega))
    refine Ev.step (f := fun k => impl_crossing_arrivals.l2 k (st : Int) (tab (s.size + 2) o) (tab (s.size + 2) (rch s t L st j)) ((st + j + 1 : Nat) : Int) (tab (s.size + 2) g) (p : Int) ((s.size + 2 : Nat) : Int) (p : Int) (tab (s.size + 2) (rch s t L st j)) ((s.size + 2 : Nat) : Int) ((0 : Nat) : Int) s t (L : Int)) (fun k => ?_) ?_
    · simp only [impl_crossing_arrivals.l1, tab_len]
      rw [if_pos c4]; rfl
    · refine one_l2 s t L st hs ht hL j p hj hp2 o r (s.size + 2) 0 g (by omega) ?_
      have eg : ∀ i, (if i = p then g p || anyFrom (fun q => rch s t L st j q && (Tide.near L q p && dryN s t p (st + j + 1))) 0 (s.size + 2) else g i) = (if i = p then rch s t L st (j + 1) p else g i) := by
        intro i
        rw [h4 p (Nat.le_refl _), Bool.false_or, ← reach_as s t L st hs ht hL j p hp2]
      rw [tab_congr fun i _ => eg i]
      have go : ∀ o' : Nat → Int, (∀ i, i < p + 1 → o' i = fst s t L st (j + 1) i) → (∀ i, p + 1 ≤ i → o' i = fst s t L st j i) → Ev (fun k => impl_crossing_arrivals.l1 k (st : Int) (tab (s.size + 2) o') (tab (s.size + 2) (rch s t L st j)) ((st + j + 1 : Nat) : Int) (tab (s.size + 2) (fun i => if i = p then rch s t L st (j + 1) p else g i)) ((s.size + 2 : Nat) : Int) ((p + 1 : Nat) : Int) s t (L : Int)) r := by
        intro o' a b
        refine ih (p + 1) o' _ (by omega) a b (fun i hi => ?_) (fun i hi => ?_) hE
        · by_cases c : i = p
          · rw [if_pos c, c]
          · rw [if_neg c]; exact h3 i (by omega)
        · rw [if_neg (by omega)]; exact h4 i (by omega)
      have hx : (if p = p then rch s t L st (j + 1) p else g p) = rch s t L st (j + 1) p := if_pos rfl
      by_cases hc : rch s t L st (j + 1) p = true ∧ fst s t L st j p < 0
      · refine Ev.step (fun k => ?_) (go (fun i => if i = p then ((st + j + 1 : Nat) : Int) else o i) (fun i hi => ?_) (fun i hi => ?_))
        · simp only [impl_crossing_arrivals.l2, tab_len, ewp.out]
          rw [if_neg (by omega), if_pos c3, if_pos c4, rdOf_tab false hp2, hx, if_pos hc.1, if_pos c4, rd_tab hp2, h2 p (Nat.le_refl _), if_pos hc.2, show ((p : Int)).toNat = p by omega, tab_set]
        · by_cases c : i = p
          · rw [if_pos c, c]; simp only [fst, Tide.first]; rw [if_pos hc]
          · rw [if_neg c]; exact h1 i (by omega)
        · rw [if_neg (by omega)]; exact h2 i (by omega)
      · refine Ev.step (fun k => ?_) (go o (fun i hi => ?_) (fun i hi => h2 i (by omega)))
        · simp only [impl_crossing_arrivals.l2, tab_len, ewp.out]
          rw [if_neg (by omega), if_pos c3, if_pos c4, rdOf_tab false hp2, hx]
          by_cases a : rch s t L st (j + 1) p = true
          · rw [if_pos a, if_pos c4, rd_tab hp2, h2 p (Nat.le_refl _), if_neg (fun b => hc ⟨a, b⟩)]
          · rw [if_neg a]
        · by_cases c : i = p
          · rw [c, h2 p (Nat.le_refl _)]; simp only [fst, Tide.first]; rw [if_neg hc]
          · exact h1 i (by omega)
theorem one_l0 (n : Nat) (hn : n = (s.size + 2) * t.size) (hst : st ≤ 2000) (d : Nat) : ∀ j, j + d = n →
    Ev (fun k => impl_crossing_arrivals.l0 k (st : Int) (tab (s.size + 2) (fst s t L st j)) (tab (s.size + 2) (rch s t L st j)) ((st + j + 1 : Nat) : Int) s t (L : Int)) (tab (s.size + 2) (fst s t L st n)) := by
  have hb : n ≤ 192 := by rw [hn]; exact Nat.le_trans (Nat.mul_le_mul (show s.size + 2 ≤ 16 by omega) ht.2) (by omega)
  have e1 := Aside0.mk (w_end (a := s.size + 2) (b := t.size) hn.symm hb hst)
  induction d with
  | zero =>
    intro j hj
    obtain rfl : j = n := by omega
    refine Ev.step (fun k => ?_) (Ev.now _)
    simp only [impl_crossing_arrivals.l0]
    rw [places_eq s t _ hs.2]
    rw [Option.bind_some, e1.out]
    rw [if_neg (by omega)]
  | succ d ih =>
    intro j hj
    refine Ev.step (fun k => ?_) (one_l1 s t L st hs ht hL j (by omega) _ (s.size + 2) 0 _ (fun _ => false) (by omega) (fun i hi => by omega) (fun _ _ => rfl) (fun i hi => by omega) (fun _ _ => rfl) (ih (j + 1) (by omega)))
    simp only [impl_crossing_arrivals.l0]
    rw [places_eq s t _ hs.2]
    rw [Option.bind_some, e1.out]
    rw [if_pos (by omega), Option.bind_some, if_pos (by omega), if_pos (by omega), Option.bind_some]
    simp only [List.length_replicate]
    rw [show (((s.size + 2 : Nat) : Int)).toNat = s.size + 2 by omega, tab_const]; rfl
theorem impl_arr (hst : st ≤ 2000) : Ev (fun k => impl_crossing_arrivals.f k s t (L : Int) (st : Int)) (arrs s t L st) := by
  refine Ev.congr (fun k => ?_) (one_l0 s t L st hs ht hL _ rfl hst ((s.size + 2) * t.size) 0 (by omega))
  simp only [impl_crossing_arrivals.f]
  rw [places_eq s t _ hs.2]
  simp only [Option.bind_some]
  have hr : slices_Repeat_int_int.f ([(-1)] : List Int) ((s.size + 2 : Nat) : Int) = some (tab (s.size + 2) (fun _ => -1)) := by
    unfold slices_Repeat_int_int.f
    rw [if_pos ⟨rfl, by omega, by omega⟩, show (((s.size + 2 : Nat) : Int)).toNat = s.size + 2 by omega, tab_const]; rfl
  rw [hr]
  simp only [Option.bind_some, tab_len, List.length_replicate]
  rw [if_pos (by omega), if_pos (by omega), if_pos (by omega), if_pos (by omega), show (((s.size + 2 : Nat) : Int)).toNat = s.size + 2 by omega, tab_const, show ((0 : Int)).toNat = 0 from rfl, tab_set, tab_set, w_nat (n := st) (by omega)]
  all_goals rfl
/-- The first hour at the far bank, or -1. -/
def endOf : Int := fst s t L st ((s.size + 2) * t.size) (s.size + 1)
end

theorem spec_end (s t : ByteArray) (L st : Nat) (hs : 1 ≤ s.size ∧ s.size ≤ 14) (ht : 1 ≤ t.size ∧ t.size ≤ 12) (hL : 1 ≤ L ∧ L ≤ 15) (hst : st ≤ 2000) : Ev (fun k => spec_tdEnd.f k s t (L : Int) (st : Int)) (endOf s t L st) := by
  simp only [spec_tdEnd.f]
  refine Ev.bind (spec_arr s t L st hs ht hL hst) ?_
  simp only [arrs, tab_len]
  rw [w_id (n := (s.size : Int) + 1) (by omega) (by omega), if_pos (by omega), if_pos (by omega), show (s.size : Int) + 1 = ((s.size + 1 : Nat) : Int) by omega, rd_tab (by omega)]
  exact Ev.now _

theorem impl_end (s t : ByteArray) (L st : Nat) (hs : 1 ≤ s.size ∧ s.size ≤ 14) (ht : 1 ≤ t.size ∧ t.size ≤ 12) (hL : 1 ≤ L ∧ L ≤ 15) (hst : st ≤ 2000) : Ev (fun k => impl_crossing_earliest.f k s t (L : Int) (st : Int)) (endOf s t L st) := by
  simp only [impl_crossing_earliest.f]
  refine Ev.bind (impl_arr s t L st hs ht hL hst) ?_
  rw [places_eq s t _ hs.2]
  simp only [arrs, tab_len, Option.bind_some]
  rw [w_id (n := ((s.size + 2 : Nat) : Int) - 1) (by omega) (by omega), if_pos (by omega), if_pos (by omega), show ((s.size + 2 : Nat) : Int) - 1 = ((s.size + 1 : Nat) : Int) by omega, rd_tab (by omega)]
  exact Ev.now _

namespace Tide
variable {P L T : Nat} {dry : Nat → Nat → Bool}
theorem shift (h0 : ∀ h, dry 0 h = true) (hP : 0 < P) (st : Nat) : ∀ h p, reach P L dry st h p = true → reach P L dry 0 (st + h) p = true
  | 0, p, h => by
    have : p = 0 := by simpa [reach] using h
    subst this; exact stay h0 hP _
  | h + 1, p, hr => by
    obtain ⟨a, q, b, c, d⟩ := reach_succ.mp hr
    rw [show st + (h + 1) = (st + h) + 1 by omega]
    refine reach_succ.mpr ⟨?_, q, b, shift h0 hP st h q c, d⟩
    rw [show 0 + (st + h) + 1 = st + h + 1 by omega]; exact a
theorem turn (hd : ∀ p h, dry p (h + T) = dry p h) (st : Nat) : ∀ h p, reach P L dry (st + T) h p = reach P L dry st h p
  | 0, p => rfl
  | h + 1, p => by
    rw [Bool.eq_iff_iff, reach_succ, reach_succ]
    have e : dry p (st + T + h + 1) = dry p (st + h + 1) := by
      have := hd p (st + h + 1)
      rw [show st + T + h + 1 = st + h + 1 + T by omega]; exact this
    rw [e]
    constructor
    · rintro ⟨a, q, b, c, d⟩; exact ⟨a, q, b, by rw [← turn hd st h q]; exact c, d⟩
    · rintro ⟨a, q, b, c, d⟩; exact ⟨a, q, b, by rw [turn hd st h q]; exact c, d⟩
theorem turns (hd : ∀ p h, dry p (h + T) = dry p h) (st : Nat) : ∀ k h p, reach P L dry (st + k * T) h p = reach P L dry st h p
  | 0, h, p => by rw [Nat.zero_mul, Nat.add_zero]
  | k + 1, h, p => by rw [show st + (k + 1) * T = (st + k * T) + T by rw [Nat.add_mul, Nat.one_mul]; omega, turn hd, turns hd st k]
end Tide
/-- What a way takes from a start: -1, or its hours. -/
def ndOf (s t : ByteArray) (L st : Nat) : Int := if 0 ≤ endOf s t L st then endOf s t L st - (st : Int) else endOf s t L st
theorem end_cases (s t : ByteArray) (L st : Nat) : (endOf s t L st = -1 ∧ ∀ h, h ≤ (s.size + 2) * t.size → rch s t L st h (s.size + 1) = false) ∨
    ∃ h, h ≤ (s.size + 2) * t.size ∧ endOf s t L st = ((st + h : Nat) : Int) ∧ rch s t L st h (s.size + 1) = true ∧ ∀ h', h' < h → rch s t L st h' (s.size + 1) = false := by
  rcases Int.lt_or_le (endOf s t L st) 0 with c | c
  · exact .inl (Tide.first_neg _ _ c)
  · exact .inr (Tide.first_pos _ _ c)
theorem pt_le {a b : Nat} (ha : a ≤ 14) (hb : b ≤ 12) : (a + 2) * b ≤ 192 := Nat.le_trans (Nat.mul_le_mul (show a + 2 ≤ 16 by omega) hb) (by omega)
theorem tab_snoc {α : Type} {f : Nat → α} (i : Nat) : tab i f ++ [f i] = tab (i + 1) f := by simp [tab, List.range_succ]

/-- The saturated sum of the first q. -/
def acc (M : Nat) (f : Nat → Nat) : Nat → Nat
  | 0 => 0
  | q + 1 => min (acc M f q + f q) M
theorem acc_le {M : Nat} {f : Nat → Nat} : ∀ q, acc M f q ≤ M
  | 0 => Nat.zero_le _
  | q + 1 => Nat.min_le_right _ _
theorem acc_skip {M q : Nat} {f : Nat → Nat} (h : f q = 0) : acc M f (q + 1) = acc M f q := by
  have := acc_le (M := M) (f := f) q
  simp only [acc, h, Nat.add_zero]; omega
theorem acc_zero {M : Nat} {f : Nat → Nat} (h : ∀ q, f q = 0) : ∀ q, acc M f q = 0
  | 0 => rfl
  | q + 1 => by rw [acc_skip (h q), acc_zero h q]
abbrev cap : Nat := 1152921504606846976
/-- Ways from p to the far bank, told d hours before the end e. -/
def bk (s t : ByteArray) (L e : Nat) : Nat → Nat → Nat
  | 0, p => if p = s.size + 1 then 1 else 0
  | d + 1, p => if p < s.size + 1 then acc cap (fun q => if (Tide.near L p q && dryN s t p (e - (d + 1))) = true then bk s t L e d q else 0) (s.size + 2) else 0
theorem bk_le (s t : ByteArray) (L e : Nat) : ∀ d p, bk s t L e d p ≤ cap
  | 0, p => by simp only [bk]; split <;> decide
  | d + 1, p => by
    simp only [bk]; split
    · exact acc_le _
    · exact Nat.zero_le _
theorem w_big {n : Int} (h0 : 0 ≤ n) (h1 : n ≤ 4611686018427387904) : wrap64 n = n := by unfold wrap64; omega
theorem mn_cap {a b : Nat} (ha : a ≤ cap) (hb : b ≤ cap) : mn (wrap64 ((a : Int) + (b : Int))) 1152921504606846976 = ((min (a + b) cap : Nat) : Int) := by
  unfold cap at *
  rw [w_big (by omega) (by omega)]
  unfold mn
  by_cases c : (1152921504606846976 : Int) < (a : Int) + (b : Int)
  · rw [if_pos c]; omega
  · rw [if_neg c]; omega
theorem rdL_tab {N : Nat} {f : Nat → List Int} {j : Nat} (h : j < N) : rd_L3 (tab N f) (j : Int) = f j := by
  unfold rd_L3; rw [show ((j : Int)).toNat = j by omega]; exact tab_get [] h
theorem tab2_set {N P : Nat} {g : Nat → Nat → Int} {j p : Nat} {v : Int} (h : j < N) :
    (tab N (fun j' => tab P (g j'))).set j ((rd_L3 (tab N (fun j' => tab P (g j'))) (j : Int)).set p v) = tab N (fun j' => tab P (fun p' => if j' = j ∧ p' = p then v else g j' p')) := by
  rw [rdL_tab h, tab_set, tab_set]
  refine tab_congr fun i _ => ?_
  by_cases c : i = j
  · rw [if_pos c]
    refine tab_congr fun k _ => ?_
    by_cases e : k = p
    · rw [if_pos e, if_pos ⟨c, e⟩]
    · rw [if_neg e, if_neg (fun x => e x.2), c]
  · rw [if_neg c]
    refine tab_congr fun k _ => ?_
    rw [if_neg (fun x => c x.1)]
section
variable (s t : ByteArray) (L st : Nat) (hs : 1 ≤ s.size ∧ s.size ≤ 14) (ht : 1 ≤ t.size ∧ t.size ≤ 12) (hL : 1 ≤ L ∧ L ≤ 15)
include hs ht hL
abbrev row2 (H : Nat) (g : Nat → Nat → Int) : List (List Int) := tab (H + 1) fun j => tab (s.size + 2) (g j)
theorem row2_congr {H : Nat} {f g : Nat → Nat → Int} (h : ∀ i, i < H + 1 → ∀ p, p < s.size + 2 → f i p = g i p) : row2 s H f = row2 s H g :=
  tab_congr fun i hi => tab_congr fun p hp => h i hi p hp
abbrev cF (H j p : Nat) : Nat → Nat := fun q => if (Tide.near L p q && dryN s t p (st + H - (H - j - 1 + 1))) = true then bk s t L (st + H) (H - j - 1) q else 0
theorem cnt_l3 (H j p : Nat) (hb : st + H ≤ 5000) (hj : j < H) (hp : p < s.size + 1) (r : List (List Int)) (d : Nat) : ∀ (q : Nat) (g : Nat → Nat → Int), q + d = s.size + 2 → g j p = ((acc cap (cF s t L st H j p) q : Nat) : Int) →
    Ev (fun k => impl_crossing_counts.l2 k (st : Int) (row2 s H fun j' p' => if j' = j ∧ p' = p then ((acc cap (cF s t L st H j p) (s.size + 2) : Nat) : Int) else g j' p') (j : Int) ((s.size + 1 : Nat) : Int) ((p + 1 : Nat) : Int) s t (L : Int)) r →
    Ev (fun k => impl_crossing_counts.l3 k (st : Int) (row2 s H g) (j : Int) (p : Int) ((s.size + 1 : Nat) : Int) (p : Int) (tab (s.size + 2) fun q => ((bk s t L (st + H) (H - j - 1) q : Nat) : Int)) ((s.size + 2 : Nat) : Int) (q : Int) s t (L : Int)) r := by
  have ewp := Aside0.mk (show wrap64 ((p : Int) + 1) = ((p + 1 : Nat) : Int) from w_nat (by omega))
  have ewh := Aside0.mk (show wrap64 ((st : Int) + (j : Int)) = ((st + j : Nat) : Int) from by rw [w_id (by omega) (by omega)]; omega)
  have eh : st + H - (H - j - 1 + 1) = st + j := by omega
  have hp2 : p < s.size + 2 := by omega
  have hj2 : j < H + 1 := by omega
  induction d with
  | zero =>
    intro q g hq hg hE
    obtain rfl : q = s.size + 2 := by omega
    refine Ev.step (fun k => ?_) hE
    simp only [impl_crossing_counts.l3, ewp.out]
    rw [if_neg (by omega)]
    congr 1
    refine row2_congr s t L hs ht hL fun i _ k _ => ?_
    by_cases c : i = j ∧ k = p
    · rw [if_pos c, c.1, c.2, hg]
    · rw [if_neg c]
  | succ d ih =>
    intro q g hq hg hE
    have ewq := Aside0.mk (show wrap64 ((q : Int) + 1) = ((q + 1 : Nat) : Int) from w_nat (by omega))
    have hq2 : q < s.size + 2 := by omega
    have c1 : (q : Int) < ((s.size + 2 : Nat) : Int) := by omega
    have c2 : 0 ≤ (q : Int) := by omega
    have c3 : 0 ≤ (j : Int) := by omega
    have c4 : (j : Int) < ((H + 1 : Nat) : Int) := by omega
    have c5 : 0 ≤ (p : Int) := by omega
    have c6 : (p : Int) < ((s.size + 2 : Nat) : Int) := by omega
    have skip : cF s t L st H j p q = 0 → Ev (fun k => impl_crossing_counts.l3 k (st : Int) (row2 s H g) (j : Int) (p : Int) ((s.size + 1 : Nat) : Int) (p : Int) (tab (s.size + 2) fun q => ((bk s t L (st + H) (H - j - 1) q : Nat) : Int)) ((s.size + 2 : Nat) : Int) ((q + 1 : Nat) : Int) s t (L : Int)) r :=
      fun h => ih (q + 1) g (by omega) (by rw [acc_skip h]; exact hg) hE
    cases hn : Tide.near L p q with
    | false =>
      refine Ev.step (fun k => ?_) (skip (by simp only [cF, hn, Bool.false_and, Bool.false_eq_true, if_false]))
      simp only [impl_crossing_counts.l3, tab_len, ewq.out]
      rw [if_pos c1, if_pos c2, if_pos c1, near_nat s t L hs ht hL p q hp2 hq2, hn]
      simp only [Option.bind_some, Bool.false_eq_true, if_false]
    | true =>
      cases hd : dryN s t p (st + j) with
      | false =>
        refine Ev.step (fun k => ?_) (skip (by simp only [cF, eh, hn, hd, Bool.and_false, Bool.false_eq_true, if_false]))
        simp only [impl_crossing_counts.l3, tab_len, ewq.out, ewh.out]
        rw [if_pos c1, if_pos c2, if_pos c1, near_nat s t L hs ht hL p q hp2 hq2, hn]
        simp only [Option.bind_some, if_true]
        rw [dry_eq, dry_nat s t L hs ht hL p _ hp2, hd]
        simp only [Option.bind_some, Bool.false_eq_true, if_false]
      | true =>
        have hf : cF s t L st H j p q = bk s t L (st + H) (H - j - 1) q := by simp only [cF, eh, hn, hd, Bool.and_true, if_true]
        refine Ev.step (fun k => ?_) (ih (q + 1) (fun j' p' => if j' = j ∧ p' = p then ((acc cap (cF s t L st H j p) (q + 1) : Nat) : Int) else g j' p') (by omega) (if_pos ⟨rfl, rfl⟩) ?_)
        · simp only [impl_crossing_counts.l3, tab_len, ewq.out, ewh.out]
          rw [if_pos c1, if_pos c2, if_pos c1, near_nat s t L hs ht hL p q hp2 hq2, hn]
          simp only [Option.bind_some, if_true]
          rw [dry_eq, dry_nat s t L hs ht hL p _ hp2, hd]
          simp only [Option.bind_some, if_true]
          rw [if_pos c3, if_pos c4, if_pos c5, rdL_tab hj2, tab_len, if_pos c6, rd_tab hp2, rd_tab hq2, hg, mn_cap (acc_le _) (bk_le _ _ _ _ _ _), ← hf]
          rw [show ((j : Int)).toNat = j by omega, show ((p : Int)).toNat = p by omega]
          have := tab2_set (N := H + 1) (P := s.size + 2) (g := g) (j := j) (p := p) (v := ((acc cap (cF s t L st H j p) (q + 1) : Nat) : Int)) hj2
          rw [rdL_tab hj2] at this
          exact congrArg (fun x => impl_crossing_counts.l3 k (st : Int) x (j : Int) (p : Int) ((s.size + 1 : Nat) : Int) (p : Int) (tab (s.size + 2) fun q => ((bk s t L (st + H) (H - j - 1) q : Nat) : Int)) ((s.size + 2 : Nat) : Int) ((q + 1 : Nat) : Int) s t (L : Int)) this
        · refine Ev.congr (fun k => ?_) hE
          congr 1
          refine row2_congr s t L hs ht hL fun i _ k _ => ?_
          by_cases c : i = j ∧ k = p
          · rw [if_pos c, if_pos c]
          · rw [if_neg c, if_neg c, if_neg c]
abbrev cG (H j p : Nat) : Nat → Nat → Int := fun j' p' => if j < j' ∨ (j' = j ∧ p' < p) then ((bk s t L (st + H) (H - j') p' : Nat) : Int) else 0
abbrev cD (H n : Nat) : Nat → Nat → Int := fun j' p' => if n ≤ j' then ((bk s t L (st + H) (H - j') p' : Nat) : Int) else 0
theorem bk_row (H j p : Nat) (hj : j < H) (hp : p < s.size + 1) : bk s t L (st + H) (H - j) p = acc cap (cF s t L st H j p) (s.size + 2) := by
  obtain ⟨m, hm⟩ : ∃ m, H - j = m + 1 := ⟨H - j - 1, by omega⟩
  have h2 : H - j - 1 = m := by omega
  unfold cF
  rw [h2, hm]
  simp only [bk]
  rw [if_pos hp]
theorem bk_far (H j : Nat) (hj : j < H) : bk s t L (st + H) (H - j) (s.size + 1) = 0 := by
  obtain ⟨m, hm⟩ : ∃ m, H - j = m + 1 := ⟨H - j - 1, by omega⟩
  rw [hm]
  simp only [bk]
  rw [if_neg (by omega)]
theorem cnt_l2 (H j : Nat) (hb : st + H ≤ 5000) (hj : j < H) (r : List (List Int)) (d : Nat) : ∀ (p : Nat), p + d = s.size + 1 →
    Ev (fun k => impl_crossing_counts.l1 k (st : Int) (row2 s H (cD s t L st H j)) ((j : Int) - 1) s t (L : Int)) r →
    Ev (fun k => impl_crossing_counts.l2 k (st : Int) (row2 s H (cG s t L st H j p)) (j : Int) ((s.size + 1 : Nat) : Int) (p : Int) s t (L : Int)) r := by
  have ewj := Aside0.mk (show wrap64 ((j : Int) - 1) = (j : Int) - 1 from w_id (by omega) (by omega))
  have ewn := Aside0.mk (show wrap64 ((j : Int) + 1) = ((j + 1 : Nat) : Int) from w_nat (by omega))
  induction d with
  | zero =>
    intro p hp hE
    obtain rfl : p = s.size + 1 := by omega
    refine Ev.step (fun k => ?_) hE
    simp only [impl_crossing_counts.l2, ewj.out]
    rw [if_neg (by omega)]
    congr 1
    refine row2_congr s t L hs ht hL fun i _ k hk => ?_
    simp only [cG, cD]
    by_cases c : j < i
    · rw [if_pos (.inl c), if_pos (by omega)]
    · by_cases e : i = j
      · by_cases f : k < s.size + 1
        · rw [if_pos (.inr ⟨e, f⟩), if_pos (by omega)]
        · obtain rfl : k = s.size + 1 := by omega
          rw [if_neg (by omega), if_pos (by omega), e, bk_far s t L st hs ht hL H j hj]; rfl
      · rw [if_neg (by omega), if_neg (by omega)]
  | succ d ih =>
    intro p hp hE
    have hp1 : p < s.size + 1 := by omega
    have hj1 : j + 1 < H + 1 := by omega
    have erow : (fun q => cG s t L st H j p (j + 1) q) = fun q => ((bk s t L (st + H) (H - j - 1) q : Nat) : Int) := by
      funext q
      simp only [cG]
      rw [if_pos (.inl (by omega)), show H - (j + 1) = H - j - 1 by omega]
    refine Ev.step (f := fun k => impl_crossing_counts.l3 k (st : Int) (row2 s H (cG s t L st H j p)) (j : Int) (p : Int) ((s.size + 1 : Nat) : Int) (p : Int) (tab (s.size + 2) fun q => ((bk s t L (st + H) (H - j - 1) q : Nat) : Int)) ((s.size + 2 : Nat) : Int) ((0 : Nat) : Int) s t (L : Int)) (fun k => ?_) ?_
    · simp only [impl_crossing_counts.l2, tab_len, ewn.out]
      rw [if_pos (by omega), if_pos (by omega), if_pos (by omega), rdL_tab hj1, tab_len]
      show impl_crossing_counts.l3 k _ _ _ _ _ _ (tab (s.size + 2) (fun q => cG s t L st H j p (j + 1) q)) _ _ _ _ _ = _
      rw [erow]; rfl
    · refine cnt_l3 s t L st hs ht hL H j p hb hj hp1 r (s.size + 2) 0 _ (by omega) ?_ ?_
      · simp only [cG, acc]; rw [if_neg (by omega)]; rfl
      · refine Ev.congr (fun k => ?_) (ih (p + 1) (by omega) hE)
        congr 1
        refine row2_congr s t L hs ht hL fun i _ k _ => ?_
        simp only [cG]
        by_cases c : i = j ∧ k = p
        · rw [if_pos c, if_pos (.inr ⟨c.1, by omega⟩), c.1, c.2, bk_row s t L st hs ht hL H j p hj hp1]
        · rw [if_neg c]
          by_cases e : j < i ∨ (i = j ∧ k < p)
          · rw [if_pos e, if_pos (by omega)]
          · rw [if_neg e, if_neg (by omega)]
theorem cnt_l1 (H : Nat) (hb : st + H ≤ 5000) : ∀ n, n ≤ H →
    Ev (fun k => impl_crossing_counts.l1 k (st : Int) (row2 s H (cD s t L st H n)) ((n : Int) - 1) s t (L : Int)) (row2 s H (cD s t L st H 0)) := by
  intro n
  induction n with
  | zero =>
    intro _
    refine Ev.step (fun k => ?_) (Ev.now _)
    simp only [impl_crossing_counts.l1]
    rw [if_neg (by omega)]
  | succ n ih =>
    intro hn
    have e1 := Aside0.mk (show wrap64 (((s.size + 2 : Nat) : Int) - 1) = ((s.size + 1 : Nat) : Int) from by rw [w_id (by omega) (by omega)]; omega)
    have eG : row2 s H (cD s t L st H (n + 1)) = row2 s H (cG s t L st H n 0) := by
      refine row2_congr s t L hs ht hL fun i _ k _ => ?_
      simp only [cD, cG]
      by_cases c : n + 1 ≤ i
      · rw [if_pos c, if_pos (by omega)]
      · rw [if_neg c, if_neg (by omega)]
    refine Ev.step (f := fun k => impl_crossing_counts.l2 k (st : Int) (row2 s H (cG s t L st H n 0)) (n : Int) ((s.size + 1 : Nat) : Int) ((0 : Nat) : Int) s t (L : Int)) (fun k => ?_) (cnt_l2 s t L st hs ht hL H n hb (by omega) _ (s.size + 1) 0 (by omega) (ih (by omega)))
    rw [eG, show ((n + 1 : Nat) : Int) - 1 = (n : Int) by omega]
    simp only [impl_crossing_counts.l1]
    rw [if_pos (by omega), places_eq s t _ hs.2, Option.bind_some, e1.out]; rfl
theorem cnt_l0 (H : Nat) (hb : st + H ≤ 5000) (d : Nat) : ∀ i, i + d = H + 1 →
    Ev (fun k => impl_crossing_counts.l0 k (st : Int) ((st + H : Nat) : Int) (tab (H + 1) fun j => if j < i then tab (s.size + 2) (fun _ => (0 : Int)) else []) ((H + 1 : Nat) : Int) (i : Int) s t (L : Int)) (row2 s H (cD s t L st H 0)) := by
  have e1 := Aside0.mk (show wrap64 (((s.size + 2 : Nat) : Int) - 1) = ((s.size + 1 : Nat) : Int) from by rw [w_id (by omega) (by omega)]; omega)
  have e2 := Aside0.mk (show wrap64 (((st + H : Nat) : Int) - (st : Int)) = (H : Int) from by rw [w_id (by omega) (by omega)]; omega)
  have e3 := Aside0.mk (show wrap64 ((H : Int) - 1) = (H : Int) - 1 from w_id (by omega) (by omega))
  have e4 : (((s.size + 2 : Nat) : Int)).toNat = s.size + 2 := by omega
  induction d with
  | zero =>
    intro i hi
    obtain rfl : i = H + 1 := by omega
    have ez : (tab (H + 1) fun j => if j < H + 1 then tab (s.size + 2) (fun _ => (0 : Int)) else []) = row2 s H (fun _ _ => 0) := tab_congr fun j hj => if_pos hj
    rw [ez]
    have ed : row2 s H (fun j' p' => if j' = H ∧ p' = s.size + 1 then 1 else 0) = row2 s H (cD s t L st H H) := by
      refine row2_congr s t L hs ht hL fun i hi k hk => ?_
      simp only [cD]
      by_cases c : H ≤ i
      · obtain rfl : i = H := by omega
        rw [if_pos c, Nat.sub_self]
        simp only [bk]
        by_cases e : k = s.size + 1
        · rw [if_pos ⟨trivial, e⟩, if_pos e]; rfl
        · rw [if_neg (fun x => e x.2), if_neg e]; rfl
      · rw [if_neg c, if_neg (by omega)]
    refine Ev.step (fun k => ?_) (cnt_l1 s t L st hs ht hL H hb H (Nat.le_refl _))
    rw [← ed]
    simp only [impl_crossing_counts.l0, tab_len, e2.out]
    rw [if_neg (by omega), if_pos (by omega), if_pos (by omega), places_eq s t _ hs.2, Option.bind_some, e1.out, if_pos (by omega), rdL_tab (by omega), tab_len, if_pos (by omega), e3.out]
    rw [show ((H : Int)).toNat = H by omega, show (((s.size + 1 : Nat) : Int)).toNat = s.size + 1 by omega]
    have := tab2_set (N := H + 1) (P := s.size + 2) (g := fun _ _ => 0) (j := H) (p := s.size + 1) (v := 1) (by omega)
    rw [rdL_tab (by omega)] at this
    exact congrArg (fun x => impl_crossing_counts.l1 k (st : Int) x ((H : Int) - 1) s t (L : Int)) this
  | succ d ih =>
    intro i hi
    have ewi := Aside0.mk (show wrap64 ((i : Int) + 1) = ((i + 1 : Nat) : Int) from w_nat (by omega))
    refine Ev.step (fun k => ?_) (ih (i + 1) (by omega))
    simp only [impl_crossing_counts.l0, tab_len, ewi.out]
    rw [if_pos (by omega), places_eq s t _ hs.2, Option.bind_some, if_pos (by omega), if_pos (by omega), if_pos (by omega), if_pos (by omega), e4, tab_const, show ((i : Int)).toNat = i by omega, tab_set]
    congr 1
    refine tab_congr fun j _ => ?_
    by_cases c : j = i
    · rw [if_pos c, if_pos (by omega)]
    · rw [if_neg c]
      by_cases e : j < i
      · rw [if_pos e, if_pos (by omega)]
      · rw [if_neg e, if_neg (by omega)]
theorem counts_ok (H : Nat) (hb : st + H ≤ 5000) : Ev (fun k => impl_crossing_counts.f k s t (L : Int) (st : Int) ((st + H : Nat) : Int)) (row2 s H fun j p => ((bk s t L (st + H) (H - j) p : Nat) : Int)) := by
  have h := cnt_l0 s t L st hs ht hL H hb (H + 1) 0 (by omega)
  have er : row2 s H (cD s t L st H 0) = row2 s H fun j p => ((bk s t L (st + H) (H - j) p : Nat) : Int) := row2_congr s t L hs ht hL fun i _ k _ => by simp only [cD]; rw [if_pos (Nat.zero_le _)]
  rw [er] at h
  refine Ev.congr (fun k => ?_) h
  simp only [impl_crossing_counts.f]
  rw [w_id (n := ((st + H : Nat) : Int) - (st : Int)) (by omega) (by omega), show ((st + H : Nat) : Int) - (st : Int) = (H : Int) by omega, w_nat (n := H) (by omega), if_pos (by omega), if_pos (by omega), Option.bind_some, show (((H + 1 : Nat) : Int)).toNat = H + 1 by omega, tab_const, tab_len]
  exact congrArg (fun x => impl_crossing_counts.l0 k (st : Int) ((st + H : Nat) : Int) x ((H + 1 : Nat) : Int) ((0 : Nat) : Int) s t (L : Int)) (tab_congr fun j _ => (if_neg (by omega)).symm)
end

def sm : Nat → (Nat → Nat) → Nat
  | 0, _ => 0
  | n + 1, f => sm n f + f n
theorem sm_congr {f g : Nat → Nat} : ∀ {n}, (∀ i, i < n → f i = g i) → sm n f = sm n g
  | 0, _ => rfl
  | n + 1, h => by simp only [sm]; rw [sm_congr fun i hi => h i (by omega), h n (by omega)]
theorem sm_zero : ∀ n, sm n (fun _ => 0) = 0
  | 0 => rfl
  | n + 1 => by simp only [sm]; rw [sm_zero n]
theorem sm_add (f g : Nat → Nat) : ∀ n, sm n (fun i => f i + g i) = sm n f + sm n g
  | 0 => rfl
  | n + 1 => by simp only [sm]; rw [sm_add f g n]; omega
theorem sm_mul (c : Nat) (f : Nat → Nat) : ∀ n, sm n (fun i => c * f i) = c * sm n f
  | 0 => by simp [sm]
  | n + 1 => by simp only [sm]; rw [sm_mul c f n, Nat.mul_add]
theorem sm_mulr (c : Nat) (f : Nat → Nat) : ∀ n, sm n (fun i => f i * c) = sm n f * c
  | 0 => by simp [sm]
  | n + 1 => by simp only [sm]; rw [sm_mulr c f n, Nat.add_mul]
theorem sm_swap (m : Nat) (f : Nat → Nat → Nat) : ∀ n, sm n (fun i => sm m (fun j => f i j)) = sm m (fun j => sm n (fun i => f i j))
  | 0 => by simp only [sm]; exact (sm_zero m).symm
  | n + 1 => by simp only [sm]; rw [sm_swap m f n, ← sm_add]
theorem sm_le {f : Nat → Nat} {B : Nat} : ∀ {n}, (∀ i, i < n → f i ≤ B) → sm n f ≤ n * B
  | 0, _ => by simp [sm]
  | n + 1, h => by
    have := sm_le (n := n) fun i hi => h i (by omega)
    have := h n (by omega)
    simp only [sm]; rw [Nat.add_mul, Nat.one_mul]; omega
theorem sm_one (a : Nat) (g : Nat → Nat) : ∀ n, sm n (fun i => if i = a then g i else 0) = if a < n then g a else 0
  | 0 => by simp [sm]
  | n + 1 => by
    simp only [sm]; rw [sm_one a g n]
    by_cases c : n = a
    · subst c; rw [if_neg (by omega), if_pos rfl, if_pos (by omega)]; omega
    · rw [if_neg c]
      by_cases e : a < n
      · rw [if_pos e, if_pos (by omega), Nat.add_zero]
      · rw [if_neg e, if_neg (by omega)]
theorem acc_sm {M : Nat} {f : Nat → Nat} : ∀ n, acc M f n = min (sm n f) M
  | 0 => by simp [acc, sm]
  | n + 1 => by simp only [acc, sm]; rw [acc_sm n]; omega

theorem tab_cons {α : Type} {f : Nat → α} (n : Nat) : [f 0] ++ tab n (fun i => f (i + 1)) = tab (n + 1) f := by
  unfold tab; rw [List.range_succ_eq_map]; simp
theorem tab_drop {α : Type} {f : Nat → α} (n : Nat) : (tab (n + 1) f).drop 1 = tab n (fun i => f (i + 1)) := by
  rw [← tab_cons]; rfl
theorem rdB_tab {N : Nat} {f : Nat → List Bool} {j : Nat} (h : j < N) : rd_L2 (tab N f) (j : Int) = f j := by
  unfold rd_L2; rw [show ((j : Int)).toNat = j by omega]; exact tab_get [] h
/-- Whether the far bank can be held d hours on, at the end e. -/
def sb (s t : ByteArray) (L e : Nat) : Nat → Nat → Bool
  | 0, p => decide (p = s.size + 1)
  | d + 1, p => dryN s t p (e - (d + 1)) && anyFrom (fun q => sb s t L e d q) (p - L) (min (s.size + 2) (p + L + 1) - (p - L))
section
variable (s t : ByteArray) (L st : Nat) (hs : 1 ≤ s.size ∧ s.size ≤ 14) (ht : 1 ≤ t.size ∧ t.size ≤ 12) (hL : 1 ≤ L ∧ L ≤ 15)
include hs ht hL
abbrev brow (H d : Nat) : List (List Bool) := tab (d + 1) fun i => tab (s.size + 2) (fun q => sb s t L (st + H) (d - i) q)
theorem back_l2 (H h p : Nat) (hh : 1 ≤ h ∧ h ≤ 5000) (hp : p < s.size + 2) (r : List (List Bool)) (D : Nat) (d : Nat) : ∀ (q : Nat) (g : Nat → Bool), q + d = min (s.size + 2) (p + L + 1) →
    Ev (fun k => spec_tdBack.l1 k s t (L : Int) (st : Int) ((s.size + 2 : Nat) : Int) (brow s t L st H D) (h : Int) (tab (s.size + 2) (fun i => if i = p then g p || (dryN s t p (h - 1) && anyFrom (fun q => sb s t L (st + H) D q) q d) else g i)) ((s.size + 2 : Nat) : Int) ((p + 1 : Nat) : Int)) r →
    Ev (fun k => spec_tdBack.l2 k s t (L : Int) (st : Int) ((s.size + 2 : Nat) : Int) (brow s t L st H D) (h : Int) (tab (s.size + 2) g) (p : Int) (q : Int) ((s.size + 2 : Nat) : Int) (p : Int)) r := by
  have ewp := Aside0.mk (show wrap64 ((p : Int) + 1) = ((p + 1 : Nat) : Int) from w_nat (by omega))
  have ewl := Aside0.mk (show wrap64 ((p : Int) + (L : Int)) = ((p + L : Nat) : Int) from by rw [w_id (by omega) (by omega)]; omega)
  have ewh := Aside0.mk (show wrap64 ((h : Int) - 1) = ((h - 1 : Nat) : Int) from by rw [w_id (by omega) (by omega)]; omega)
  have erow : rd_L2 (brow s t L st H D) 0 = tab (s.size + 2) (fun q => sb s t L (st + H) D q) := rdB_tab (j := 0) (by omega)
  have elen : ((brow s t L st H D).length : Int) = ((D + 1 : Nat) : Int) := by rw [tab_len]
  have hsame : ∀ (b : Bool) (g : Nat → Bool), b = false → tab (s.size + 2) (fun i => if i = p then g p || b else g i) = tab (s.size + 2) g := by
    intro b g hb
    refine tab_congr fun i _ => ?_
    by_cases c : i = p
    · rw [if_pos c, hb, c]; simp
    · rw [if_neg c]
  induction d with
  | zero =>
    intro q g hq hE
    rw [hsame _ g (by simp [anyFrom])] at hE
    refine Ev.step (fun k => ?_) hE
    simp only [spec_tdBack.l2, ewp.out, ewl.out]
    by_cases c : (q : Int) < ((s.size + 2 : Nat) : Int)
    · rw [if_pos c, if_neg (by omega)]
    · rw [if_neg c]
  | succ d ih =>
    intro q g hq hE
    have c1 : (q : Int) < ((s.size + 2 : Nat) : Int) := by omega
    have c2 : (q : Int) ≤ ((p + L : Nat) : Int) := by omega
    have c3 : 0 ≤ (p : Int) := by omega
    have c4 : (p : Int) < ((s.size + 2 : Nat) : Int) := by omega
    have c5 : 0 ≤ (q : Int) := by omega
    have c6 : (0 : Int) < ((D + 1 : Nat) : Int) := by omega
    have ewq := Aside0.mk (show wrap64 ((q : Int) + 1) = ((q + 1 : Nat) : Int) from w_nat (by omega))
    have hq2 : q < s.size + 2 := by omega
    cases hd : dryN s t p (h - 1) with
    | false =>
      rw [hsame _ g (by rw [hd]; simp)] at hE
      refine Ev.step (fun k => ?_) hE
      simp only [spec_tdBack.l2, ewp.out, ewl.out, ewh.out]
      rw [if_pos c1, if_pos c2, dry_nat s t L hs ht hL p _ hp, hd]
      simp only [Option.bind_some, Bool.false_eq_true, if_false]
    | true =>
      rw [hd] at hE
      have step : ∀ v : Bool, v = (g p || sb s t L (st + H) D q) → Ev (fun k => spec_tdBack.l2 k s t (L : Int) (st : Int) ((s.size + 2 : Nat) : Int) (brow s t L st H D) (h : Int) (tab (s.size + 2) (fun i => if i = p then v else g i)) (p : Int) ((q + 1 : Nat) : Int) ((s.size + 2 : Nat) : Int) (p : Int)) r := by
        intro v hv
        refine ih (q + 1) _ (by omega) ?_
        rw [hd]
        have e2 : tab (s.size + 2) (fun i => if i = p then (if p = p then v else g p) || (true && anyFrom (fun q => sb s t L (st + H) D q) (q + 1) d) else if i = p then v else g i) = tab (s.size + 2) (fun i => if i = p then g p || (true && anyFrom (fun q => sb s t L (st + H) D q) q (d + 1)) else g i) := by
          refine tab_congr fun i _ => ?_
          by_cases c : i = p
          · rw [if_pos c, if_pos c, if_pos rfl, hv]; simp only [anyFrom, Bool.true_and, Bool.or_assoc]
          · rw [if_neg c, if_neg c, if_neg c]
        rw [e2]; exact hE
      cases hg : g p with
      | true =>
        refine Ev.step (fun k => ?_) (step true (by rw [hg]; rfl))
        simp only [spec_tdBack.l2, ewp.out, ewl.out, ewh.out, ewq.out]
        rw [if_pos c1, if_pos c2, dry_nat s t L hs ht hL p _ hp, hd]
        simp only [Option.bind_some, if_true]
        rw [if_pos c3, tab_len, if_pos c4, rdOf_tab false hp, if_pos hg, show ((p : Int)).toNat = p by omega, tab_set]
      | false =>
        refine Ev.step (fun k => ?_) (step (sb s t L (st + H) D q) (by rw [hg]; rfl))
        simp only [spec_tdBack.l2, ewp.out, ewl.out, ewh.out, ewq.out]
        rw [if_pos c1, if_pos c2, dry_nat s t L hs ht hL p _ hp, hd]
        simp only [Option.bind_some, if_true]
        rw [if_pos c3, tab_len (f := g), if_pos c4, rdOf_tab false hp, if_neg (by rw [hg]; decide), elen, if_pos c6, if_pos c5, erow, tab_len, if_pos c1, rdOf_tab false hq2, show ((p : Int)).toNat = p by omega, tab_set]
theorem back_l1 (H D : Nat) (hD : D < H) (hb : st + H ≤ 5000) (r : List (List Bool)) (d : Nat) : ∀ (p : Nat) (g : Nat → Bool), p + d = s.size + 2 → (∀ i, i < p → g i = sb s t L (st + H) (D + 1) i) → (∀ i, p ≤ i → g i = false) →
    Ev (fun k => spec_tdBack.l0 k s t (L : Int) (st : Int) ((s.size + 2 : Nat) : Int) (brow s t L st H (D + 1)) ((st + H - (D + 1) : Nat) : Int)) r →
    Ev (fun k => spec_tdBack.l1 k s t (L : Int) (st : Int) ((s.size + 2 : Nat) : Int) (brow s t L st H D) ((st + H - D : Nat) : Int) (tab (s.size + 2) g) ((s.size + 2 : Nat) : Int) (p : Int)) r := by
  have ewh := Aside0.mk (show wrap64 (((st + H - D : Nat) : Int) - 1) = ((st + H - (D + 1) : Nat) : Int) from by rw [w_id (by omega) (by omega)]; omega)
  induction d with
  | zero =>
    intro p g hp h1 h2 hE
    have eb : [tab (s.size + 2) g] ++ brow s t L st H D = brow s t L st H (D + 1) := by
      rw [tab_congr (f := g) fun i hi => h1 i (by omega)]
      have := tab_cons (f := fun i => tab (s.size + 2) (fun q => sb s t L (st + H) (D + 1 - i) q)) (D + 1)
      refine Eq.trans (congrArg (fun x => [tab (s.size + 2) (sb s t L (st + H) (D + 1))] ++ x) (tab_congr fun i _ => ?_)) this
      rw [show D + 1 - (i + 1) = D - i by omega]
    refine Ev.step (fun k => ?_) hE
    simp only [spec_tdBack.l1, ewh.out]
    rw [if_neg (by omega), Option.bind_some, if_pos (by rw [tab_len]; simp only [List.length_cons, List.length_nil]; omega), eb]
  | succ d ih =>
    intro p g hp h1 h2 hE
    have hm : spec_l1Most.f 0 (wrap64 ((p : Int) - (L : Int))) = some ((p - L : Nat) : Int) := by
      unfold spec_l1Most.f
      rw [w_id (by omega) (by omega)]
      by_cases c : (0 : Int) > (p : Int) - (L : Int)
      · rw [if_pos c]; exact congrArg some (by omega)
      · rw [if_neg c]; exact congrArg some (by omega)
    refine Ev.step (f := fun k => spec_tdBack.l2 k s t (L : Int) (st : Int) ((s.size + 2 : Nat) : Int) (brow s t L st H D) ((st + H - D : Nat) : Int) (tab (s.size + 2) g) (p : Int) ((p - L : Nat) : Int) ((s.size + 2 : Nat) : Int) (p : Int)) (fun k => ?_) ?_
    · simp only [spec_tdBack.l1]
      rw [if_pos (by omega), hm]; rfl
    · refine back_l2 s t L st hs ht hL H (st + H - D) p (by omega) (by omega) r D (min (s.size + 2) (p + L + 1) - (p - L)) (p - L) g (by omega) ?_
      refine ih (p + 1) _ (by omega) (fun i hi => ?_) (fun i hi => ?_) hE
      · by_cases c : i = p
        · rw [if_pos c, c, h2 p (Nat.le_refl _), Bool.false_or, show st + H - D - 1 = st + H - (D + 1) by omega]; rfl
        · rw [if_neg c]; exact h1 i (by omega)
      · rw [if_neg (by omega)]; exact h2 i (by omega)
theorem back_l0 (H : Nat) (hb : st + H ≤ 5000) (m : Nat) : ∀ D, D + m = H →
    Ev (fun k => spec_tdBack.l0 k s t (L : Int) (st : Int) ((s.size + 2 : Nat) : Int) (brow s t L st H D) ((st + H - D : Nat) : Int)) (brow s t L st H H) := by
  induction m with
  | zero =>
    intro D hD
    obtain rfl : D = H := by omega
    refine Ev.step (fun k => ?_) (Ev.now _)
    simp only [spec_tdBack.l0]
    rw [if_neg (by omega)]
  | succ m ih =>
    intro D hD
    refine Ev.step (fun k => ?_) (back_l1 s t L st hs ht hL H D (by omega) hb _ (s.size + 2) 0 (fun _ => false) (by omega) (fun i hi => by omega) (fun _ _ => rfl) (ih (D + 1) (by omega)))
    simp only [spec_tdBack.l0]
    rw [if_pos (by omega), if_pos (by omega), if_pos (by omega), Option.bind_some, show (((s.size + 2 : Nat) : Int)).toNat = s.size + 2 by omega, tab_const, tab_len]
    rfl
theorem back_ok (H : Nat) (hb : st + H ≤ 5000) : Ev (fun k => spec_tdBack.f k s t (L : Int) (st : Int) ((st + H : Nat) : Int)) (brow s t L st H H) := by
  have e1 := Aside0.mk (show wrap64 ((s.size : Int) + 2) = ((s.size + 2 : Nat) : Int) from by rw [w_id (by omega) (by omega)]; omega)
  have e2 := Aside0.mk (show wrap64 (((s.size + 2 : Nat) : Int) - 1) = ((s.size + 1 : Nat) : Int) from by rw [w_id (by omega) (by omega)]; omega)
  have h0 := back_l0 s t L st hs ht hL H hb H 0 (by omega)
  have er : brow s t L st H 0 = [tab (s.size + 2) (fun i => if i = s.size + 1 then true else false)] := by
    show [tab (s.size + 2) (fun q => sb s t L (st + H) 0 q)] = _
    refine congrArg (fun x => [x]) (tab_congr fun i _ => ?_)
    simp only [sb]
    by_cases c : i = s.size + 1
    · rw [if_pos c, decide_eq_true c]
    · rw [if_neg c, decide_eq_false c]
  rw [er, Nat.sub_zero] at h0
  refine Ev.congr (fun k => ?_) h0
  simp only [spec_tdBack.f, e1.out, e2.out]
  rw [if_pos (by omega), if_pos (by omega), Option.bind_some, show (((s.size + 2 : Nat) : Int)).toNat = s.size + 2 by omega, tab_const, if_pos (by omega), tab_len, if_pos (by omega), show (((s.size + 1 : Nat) : Int)).toNat = s.size + 1 by omega, tab_set]
theorem sm_pos {f : Nat → Nat} : ∀ {n}, 0 < sm n f ↔ ∃ i, i < n ∧ 0 < f i
  | 0 => ⟨fun h => by simp [sm] at h, fun ⟨i, h, _⟩ => by omega⟩
  | n + 1 => by
    simp only [sm]
    constructor
    · intro h
      by_cases c : 0 < f n
      · exact ⟨n, Nat.lt_succ_self _, c⟩
      · obtain ⟨i, a, b⟩ := (sm_pos (n := n)).mp (by have c0 : f n = 0 := Nat.eq_zero_of_not_pos c; rw [c0] at h; exact h)
        exact ⟨i, by omega, b⟩
    · rintro ⟨i, a, b⟩
      by_cases c : i = n
      · subst c; omega
      · have := (sm_pos (n := n)).mpr ⟨i, by omega, b⟩
        omega
theorem bk_pos (e d p : Nat) : 0 < bk s t L e (d + 1) p ↔ p < s.size + 1 ∧ dryN s t p (e - (d + 1)) = true ∧ ∃ q, q < s.size + 2 ∧ Tide.near L p q = true ∧ 0 < bk s t L e d q := by
  simp only [bk]
  by_cases c : p < s.size + 1
  · rw [if_pos c, acc_sm]
    have hc : 0 < cap := by decide
    constructor
    · intro h
      obtain ⟨q, a, b⟩ := (sm_pos s t L hs ht hL).mp (show 0 < sm (s.size + 2) (fun q => if (Tide.near L p q && dryN s t p (e - (d + 1))) = true then bk s t L e d q else 0) by omega)
      by_cases f : (Tide.near L p q && dryN s t p (e - (d + 1))) = true
      · rw [if_pos f] at b
        simp only [Bool.and_eq_true] at f
        exact ⟨c, f.2, q, a, f.1, b⟩
      · rw [if_neg f] at b; omega
    · rintro ⟨_, a, q, b, f, g⟩
      have : 0 < sm (s.size + 2) (fun q => if (Tide.near L p q && dryN s t p (e - (d + 1))) = true then bk s t L e d q else 0) :=
        (sm_pos s t L hs ht hL).mpr ⟨q, b, by rw [f, a]; exact g⟩
      omega
  · rw [if_neg c]
    exact ⟨fun h => by omega, fun h => absurd h.1 c⟩
theorem bk_pos0 (e p : Nat) : 0 < bk s t L e 0 p ↔ p = s.size + 1 := by
  simp only [bk]
  by_cases c : p = s.size + 1
  · rw [if_pos c]; exact ⟨fun _ => c, fun _ => by decide⟩
  · rw [if_neg c]; exact ⟨fun h => by omega, fun h => absurd h c⟩
theorem sb_iff (e d p : Nat) : sb s t L e (d + 1) p = true ↔ dryN s t p (e - (d + 1)) = true ∧ ∃ q, q < s.size + 2 ∧ Tide.near L p q = true ∧ sb s t L e d q = true := by
  simp only [sb, Bool.and_eq_true, anyFrom_iff]
  constructor
  · rintro ⟨a, q, b, c, d⟩
    exact ⟨a, q, by omega, by simp only [Tide.near, decide_eq_true_eq]; omega, d⟩
  · rintro ⟨a, q, b, c, d⟩
    simp only [Tide.near, decide_eq_true_eq] at c
    exact ⟨a, q, by omega, by omega, d⟩
theorem sb_dry (e : Nat) : ∀ d p, sb s t L e d p = true → dryN s t p (e - d) = true
  | 0, p, h => by
    simp only [sb, decide_eq_true_eq] at h
    rw [h]; exact dryN_end s t _
  | d + 1, p, h => ((sb_iff s t L hs ht hL e d p).mp h).1
theorem bk_sb (e : Nat) : ∀ d p, 0 < bk s t L e d p → sb s t L e d p = true
  | 0, p, h => by
    simp only [sb, decide_eq_true_eq]; exact (bk_pos0 s t L hs ht hL e p).mp h
  | d + 1, p, h => by
    obtain ⟨_, a, q, b, c, f⟩ := (bk_pos s t L hs ht hL e d p).mp h
    exact (sb_iff s t L hs ht hL e d p).mpr ⟨a, q, b, c, bk_sb e d q f⟩
theorem near_sym (a b : Nat) : Tide.near L a b = Tide.near L b a := by
  unfold Tide.near; exact decide_eq_decide.mpr (by omega)
theorem rch_dry (k p : Nat) (h : rch s t L st k p = true) : dryN s t p (st + k) = true := by
  cases k with
  | zero =>
    have : p = 0 := by simpa [Tide.reach] using h
    rw [this]; exact dryN_bank s t _
  | succ k => exact (Tide.reach_succ.mp h).1
theorem sb_bk (H : Nat) (hn : ∀ k, k < H → rch s t L st k (s.size + 1) = false) : ∀ d k p, k + d = H → p < s.size + 2 → rch s t L st k p = true → sb s t L (st + H) d p = true → 0 < bk s t L (st + H) d p
  | 0, k, p, _, _, _, h => by
    simp only [sb, decide_eq_true_eq] at h
    exact (bk_pos0 s t L hs ht hL _ p).mpr h
  | d + 1, k, p, hk, hp, hr, h => by
    obtain ⟨a, q, b, c, f⟩ := (sb_iff s t L hs ht hL _ d p).mp h
    refine (bk_pos s t L hs ht hL _ d p).mpr ⟨?_, a, q, b, c, ?_⟩
    · refine Classical.byContradiction fun x => ?_
      have e : p = s.size + 1 := by omega
      rw [e, hn k (by omega)] at hr; cases hr
    · refine sb_bk H hn d (k + 1) q (by omega) b ?_ f
      refine Tide.reach_succ.mpr ⟨?_, p, hp, hr, c⟩
      have := sb_dry s t L hs ht hL (st + H) d q f
      rw [show st + k + 1 = st + H - d by omega]; exact this
theorem bk_start (H : Nat) (hn : ∀ k, k < H → rch s t L st k (s.size + 1) = false) : ∀ k p, k ≤ H → rch s t L st k p = true → 0 < bk s t L (st + H) (H - k) p → 0 < bk s t L (st + H) H 0
  | 0, p, _, hr, h => by
    have : p = 0 := by simpa [Tide.reach] using hr
    rw [this] at h; exact h
  | k + 1, p, hk, hr, h => by
    obtain ⟨a, q, b, c, d⟩ := Tide.reach_succ.mp hr
    refine bk_start H hn k q (by omega) c ?_
    rw [show H - k = (H - (k + 1)) + 1 by omega]
    refine (bk_pos s t L hs ht hL _ _ q).mpr ⟨?_, ?_, p, ?_, d, h⟩
    · refine Classical.byContradiction fun x => ?_
      have e : q = s.size + 1 := by omega
      rw [e] at c
      have c' := hn k (by omega)
      exact Bool.false_ne_true (c'.symm.trans c)
    · have := rch_dry s t L st hs ht hL k q c
      rw [show st + H - (H - (k + 1) + 1) = st + k by omega]; exact this
    · have h0 := bk_sb s t L hs ht hL (st + H) (H - (k + 1)) p h
      refine Classical.byContradiction fun x => ?_
      cases hh : H - (k + 1) with
      | zero => rw [hh] at h; have := (bk_pos0 s t L hs ht hL _ p).mp h; omega
      | succ m => rw [hh] at h; have := ((bk_pos s t L hs ht hL _ m p).mp h).1; omega
theorem least {f : Nat → Bool} : ∀ n, f n = true → ∃ m, m ≤ n ∧ f m = true ∧ ∀ i, i < m → f i = false := by
  intro n
  induction n using Nat.strongRecOn with
  | _ n ih =>
    intro h
    by_cases c : ∃ i, i < n ∧ f i = true
    · obtain ⟨i, a, b⟩ := c
      obtain ⟨m, x, y, z⟩ := ih i a b
      exact ⟨m, by omega, y, z⟩
    · refine ⟨n, Nat.le_refl _, h, fun i hi => ?_⟩
      cases e : f i with
      | false => rfl
      | true => exact absurd ⟨i, hi, e⟩ c
theorem spec_find (H j q0 : Nat) (hj : j < H) (hH : H ≤ 192) (hq0 : q0 < s.size + 2) (w : List Int) (hw : w.length ≤ 1000) (r : List Int × Bool) (ht0 : sb s t L (st + H) (H - (j + 1)) q0 = true) (d : Nat) : ∀ q, q + d = q0 → (∀ i, q ≤ i → i < q0 → sb s t L (st + H) (H - (j + 1)) i = false) →
    Ev (fun k => spec_EarliestWay.l0 k (L : Int) (w ++ [(q0 : Int)]) (q0 : Int) (tab H fun j => tab (s.size + 2) fun p => sb s t L (st + H) (H - (j + 1)) p) (H : Int) ((j + 1 : Nat) : Int)) r →
    Ev (fun k => spec_EarliestWay.l1 k (L : Int) w (tab (s.size + 2) fun p => sb s t L (st + H) (H - (j + 1)) p) (q : Int) (tab H fun j => tab (s.size + 2) fun p => sb s t L (st + H) (H - (j + 1)) p) (H : Int) (j : Int)) r := by
  have ewj := Aside0.mk (show wrap64 ((j : Int) + 1) = ((j + 1 : Nat) : Int) from w_nat (by omega))
  induction d with
  | zero =>
    intro q hq _ hE
    obtain rfl : q = q0 := by omega
    refine Ev.step (fun k => ?_) hE
    simp only [spec_EarliestWay.l1, ewj.out]
    rw [if_pos (by omega), tab_len, if_pos (by omega), rdOf_tab false hq0, if_pos ht0, if_pos (by omega)]
  | succ d ih =>
    intro q hq hf hE
    have ewq := Aside0.mk (show wrap64 ((q : Int) + 1) = ((q + 1 : Nat) : Int) from w_nat (by omega))
    refine Ev.step (fun k => ?_) (ih (q + 1) (by omega) (fun i a b => hf i (by omega) b) hE)
    simp only [spec_EarliestWay.l1, ewq.out]
    rw [if_pos (by omega), tab_len, if_pos (by omega), rdOf_tab false (by omega), if_neg (by rw [hf q (Nat.le_refl _) (by omega)]; decide)]
theorem impl_find (H j q0 a : Nat) (hj : j < H) (hH : H ≤ 192) (hq0 : q0 < s.size + 2) (ha : a < s.size + 2) (w : List Int) (hw : w.length = j + 1) (hwa : rd w (j : Int) = (a : Int)) (r : List Int × Bool) (h0 : 0 < bk s t L (st + H) (H - (j + 1)) q0) (hn0 : Tide.near L a q0 = true) (d : Nat) : ∀ q, q + d = q0 → (∀ i, q ≤ i → i < q0 → (decide (0 < bk s t L (st + H) (H - (j + 1)) i) && Tide.near L a i) = false) →
    Ev (fun k => impl_EarliestWay.l0 k (w ++ [(q0 : Int)]) (row2 s H fun j p => ((bk s t L (st + H) (H - j) p : Nat) : Int)) ((j + 1 + 1 : Nat) : Int) s t (L : Int)) r →
    Ev (fun k => impl_EarliestWay.l1 k w (row2 s H fun j p => ((bk s t L (st + H) (H - j) p : Nat) : Int)) ((j + 1 : Nat) : Int) (q : Int) s t (L : Int)) r := by
  have ewj := Aside0.mk (show wrap64 (((j + 1 : Nat) : Int) + 1) = ((j + 1 + 1 : Nat) : Int) from w_nat (by omega))
  have ewi := Aside0.mk (show wrap64 (((j + 1 : Nat) : Int) - 1) = (j : Int) from by rw [w_id (by omega) (by omega)]; omega)
  have erow : rd_L3 (row2 s H fun j p => ((bk s t L (st + H) (H - j) p : Nat) : Int)) ((j + 1 : Nat) : Int) = tab (s.size + 2) fun p => ((bk s t L (st + H) (H - (j + 1)) p : Nat) : Int) := rdL_tab (by omega)
  have elen : ((row2 s H fun j p => ((bk s t L (st + H) (H - j) p : Nat) : Int)).length : Int) = ((H + 1 : Nat) : Int) := by rw [tab_len]
  have g1 : (0 : Int) ≤ ((j + 1 : Nat) : Int) := by omega
  have g2 : ((j + 1 : Nat) : Int) < ((H + 1 : Nat) : Int) := by omega
  have g3 : (0 : Int) ≤ (j : Int) := by omega
  have g4 : (j : Int) < (w.length : Int) := by omega
  induction d with
  | zero =>
    intro q hq _ hE
    obtain rfl : q = q0 := by omega
    refine Ev.step (fun k => ?_) hE
    simp only [impl_EarliestWay.l1, ewj.out, ewi.out, erow, elen]
    rw [if_pos g1, if_pos g2, if_pos (by omega), tab_len, if_pos (by omega), rd_tab hq0, if_neg (by omega), if_pos g3, if_pos g4, hwa, near_nat s t L hs ht hL a q ha hq0, hn0, Option.bind_some, if_pos rfl, if_pos (by omega)]
  | succ d ih =>
    intro q hq hf hE
    have hq2 : q < s.size + 2 := by omega
    have ewq := Aside0.mk (show wrap64 ((q : Int) + 1) = ((q + 1 : Nat) : Int) from w_nat (by omega))
    have hq' := hf q (Nat.le_refl _) (by omega)
    refine Ev.step (fun k => ?_) (ih (q + 1) (by omega) (fun i a b => hf i (by omega) b) hE)
    simp only [impl_EarliestWay.l1, ewq.out, ewi.out, erow, elen]
    rw [if_pos g1, if_pos g2, if_pos (by omega), tab_len, if_pos (by omega), rd_tab hq2]
    by_cases c : ((bk s t L (st + H) (H - (j + 1)) q : Nat) : Int) = 0
    · rw [if_pos c]
    · rw [if_neg c, if_pos g3, if_pos g4, hwa, near_nat s t L hs ht hL a q ha hq2]
      rw [decide_eq_true (show 0 < bk s t L (st + H) (H - (j + 1)) q by omega), Bool.true_and] at hq'
      rw [hq', Option.bind_some, if_neg (by decide)]
theorem ways_same (H : Nat) (hH : H ≤ 192) (hn : ∀ k, k < H → rch s t L st k (s.size + 1) = false) (d : Nat) : ∀ j a (w : List Int), j + d = H → a < s.size + 2 → w.length = j + 1 → rd w (j : Int) = (a : Int) → rch s t L st j a = true → 0 < bk s t L (st + H) (H - j) a →
    ∃ r : List Int × Bool, r.1.length ≤ 1000 ∧ Ev (fun k => spec_EarliestWay.l0 k (L : Int) w (a : Int) (tab H fun j => tab (s.size + 2) fun p => sb s t L (st + H) (H - (j + 1)) p) (H : Int) (j : Int)) r ∧
      Ev (fun k => impl_EarliestWay.l0 k w (row2 s H fun j p => ((bk s t L (st + H) (H - j) p : Nat) : Int)) ((j + 1 : Nat) : Int) s t (L : Int)) r := by
  have elen : ((row2 s H fun j p => ((bk s t L (st + H) (H - j) p : Nat) : Int)).length : Int) = ((H + 1 : Nat) : Int) := by rw [tab_len]
  induction d with
  | zero =>
    intro j a w hj ha hw hwa hr hb
    obtain rfl : j = H := by omega
    refine ⟨(w, true), by simp only; omega, Ev.step (fun k => ?_) (Ev.now _), Ev.step (fun k => ?_) (Ev.now _)⟩
    · simp only [spec_EarliestWay.l0]
      rw [if_neg (by omega)]
    · simp only [impl_EarliestWay.l0, elen]
      rw [if_neg (by omega)]
  | succ d ih =>
    intro j a w hj ha hw hwa hr hb
    have hm : H - j = (H - (j + 1)) + 1 := by omega
    rw [hm] at hb
    obtain ⟨_, hda, q, hq, hnq, hbq⟩ := (bk_pos s t L hs ht hL _ _ a).mp hb
    obtain ⟨q0, hle, hq0, hmin⟩ := least (f := fun i => decide (0 < bk s t L (st + H) (H - (j + 1)) i) && Tide.near L a i) s t L hs ht hL q (by simp only [Bool.and_eq_true, decide_eq_true_eq]; exact ⟨hbq, hnq⟩)
    simp only [Bool.and_eq_true, decide_eq_true_eq] at hq0
    have hq2 : q0 < s.size + 2 := by omega
    have hs0 : sb s t L (st + H) (H - (j + 1)) q0 = true := bk_sb s t L hs ht hL _ _ _ hq0.1
    have reach : ∀ i, i < s.size + 2 → Tide.near L a i = true → sb s t L (st + H) (H - (j + 1)) i = true → rch s t L st (j + 1) i = true := by
      intro i hi hni hsi
      refine Tide.reach_succ.mpr ⟨?_, a, ha, hr, hni⟩
      have := sb_dry s t L hs ht hL (st + H) _ i hsi
      rw [show st + j + 1 = st + H - (H - (j + 1)) by omega]; exact this
    have hn1 := hq0.2
    simp only [Tide.near, decide_eq_true_eq] at hn1
    have hbelow : ∀ i, a - L ≤ i → i < q0 → sb s t L (st + H) (H - (j + 1)) i = false := by
      intro i h1 h2
      cases e : sb s t L (st + H) (H - (j + 1)) i with
      | false => rfl
      | true =>
        have hni : Tide.near L a i = true := by simp only [Tide.near, decide_eq_true_eq]; omega
        have hri := reach i (by omega) hni e
        have hpi := sb_bk s t L st hs ht hL H hn (H - (j + 1)) (j + 1) i (by omega) (by omega) hri e
        have := hmin i h2
        rw [hni, decide_eq_true hpi] at this; cases this
    have hrd : rd (w ++ [(q0 : Int)]) ((j + 1 : Nat) : Int) = (q0 : Int) := by
      unfold rd
      rw [show (((j + 1 : Nat) : Int)).toNat = w.length by omega, List.getD_eq_getElem?_getD, List.getElem?_append_right (Nat.le_refl _), Nat.sub_self]; rfl
    obtain ⟨r, hlen, e1, e2⟩ := ih (j + 1) q0 (w ++ [(q0 : Int)]) (by omega) hq2 (by rw [List.length_append, hw]; rfl) hrd (reach q0 hq2 hq0.2 hs0) hq0.1
    have hmost : spec_l1Most.f 0 (wrap64 ((a : Int) - (L : Int))) = some ((a - L : Nat) : Int) := by
      unfold spec_l1Most.f
      rw [w_id (by omega) (by omega)]
      by_cases c : (0 : Int) > (a : Int) - (L : Int)
      · rw [if_pos c]; exact congrArg some (by omega)
      · rw [if_neg c]; exact congrArg some (by omega)
    have erow : rd_L2 (tab H fun j => tab (s.size + 2) fun p => sb s t L (st + H) (H - (j + 1)) p) (j : Int) = tab (s.size + 2) fun p => sb s t L (st + H) (H - (j + 1)) p := rdB_tab (by omega)
    refine ⟨r, hlen, ?_, ?_⟩
    · refine Ev.step (f := fun k => spec_EarliestWay.l1 k (L : Int) w (tab (s.size + 2) fun p => sb s t L (st + H) (H - (j + 1)) p) ((a - L : Nat) : Int) (tab H fun j => tab (s.size + 2) fun p => sb s t L (st + H) (H - (j + 1)) p) (H : Int) (j : Int)) (fun k => ?_) (spec_find s t L st hs ht hL H j q0 (by omega) hH hq2 w (by omega) r hs0 (q0 - (a - L)) (a - L) (by omega) hbelow e1)
      simp only [spec_EarliestWay.l0, erow]
      rw [if_pos (by omega), if_pos (by omega), tab_len, if_pos (by omega), hmost]; rfl
    · refine Ev.step (f := fun k => impl_EarliestWay.l1 k w (row2 s H fun j p => ((bk s t L (st + H) (H - j) p : Nat) : Int)) ((j + 1 : Nat) : Int) ((0 : Nat) : Int) s t (L : Int)) (fun k => ?_) (impl_find s t L st hs ht hL H j q0 a (by omega) hH hq2 ha w hw hwa r hq0.1 hq0.2 q0 0 (by omega) (fun i _ hi => hmin i hi) e2)
      simp only [impl_EarliestWay.l0, elen]
      rw [if_pos (by omega)]; rfl
end

def R (n : Nat) : List Int := (List.range n).map fun j => ((j + 1 : Nat) : Int)
theorem R_len (n : Nat) : (R n).length = n := by simp [R]
theorem R_succ (n : Nat) : R (n + 1) = R n ++ [((n + 1 : Nat) : Int)] := by simp [R, List.range_succ]
theorem R_rd {n i : Nat} (h : i < n) : rd (R n) (i : Int) = ((i + 1 : Nat) : Int) := by
  unfold rd R
  rw [List.getD_eq_getElem?_getD, show ((i : Int)).toNat = i by omega, List.getElem?_map, List.getElem?_range h]
  rfl
theorem eq_l0 (l : List Int) (hl : l.length ≤ 1099511627776) (d : Nat) : ∀ i, i + d = l.length → ∀ k, d < k → laws_eqIntS.l0 k l l (i : Int) = some true := by
  induction d with
  | zero =>
    intro i hi k hk
    obtain ⟨k, rfl⟩ : ∃ m, k = m + 1 := ⟨k - 1, by omega⟩
    simp only [laws_eqIntS.l0]; rw [if_neg (by omega)]
  | succ d ih =>
    intro i hi k hk
    obtain ⟨k, rfl⟩ : ∃ m, k = m + 1 := ⟨k - 1, by omega⟩
    simp only [laws_eqIntS.l0]
    rw [if_pos (by omega), if_pos (by omega), if_pos (by omega), if_pos trivial, show wrap64 ((i : Int) + 1) = ((i + 1 : Nat) : Int) by unfold wrap64; omega]
    exact ih (i + 1) (by omega) k (by omega)
theorem eq_self (l : List Int) (hl : l.length ≤ 1099511627776) (k : Nat) (hk : l.length < k) : laws_eqIntS.f k l l = some true := by
  unfold laws_eqIntS.f
  rw [if_pos rfl]; exact eq_l0 l hl l.length 0 (by omega) k hk
theorem mark_l0 : ∀ (y : List Int) (i k : Nat), y.length < k → i + y.length ≤ 1099511627776 → laws_markIntS.l0 k (R i ++ y) ((i + 1 : Nat) : Int) (i : Int) = some (((i + y.length + 1 : Nat) : Int), R (i + y.length))
  | [], i, k, hk, hl => by
    obtain ⟨k, rfl⟩ : ∃ m, k = m + 1 := ⟨k - 1, by simp at hk; omega⟩
    simp only [laws_markIntS.l0]
    rw [if_neg (by simp [R_len])]; simp
  | a :: y, i, k, hk, hl => by
    simp only [List.length_cons] at hk hl
    obtain ⟨k, rfl⟩ : ∃ m, k = m + 1 := ⟨k - 1, by omega⟩
    simp only [laws_markIntS.l0]
    rw [if_pos (by simp [R_len]; omega), if_pos (by omega), show wrap64 (((i + 1 : Nat) : Int) + 1) = ((i + 1 + 1 : Nat) : Int) by unfold wrap64; omega, show wrap64 ((i : Int) + 1) = ((i + 1 : Nat) : Int) by unfold wrap64; omega]
    have e : (R i ++ a :: y).set ((i : Int)).toNat ((i + 1 : Nat) : Int) = R (i + 1) ++ y := by
      rw [show ((i : Int)).toNat = i by omega, List.set_append_right _ _ (by rw [R_len]; omega), R_len, R_succ]; simp
    rw [e, mark_l0 y (i + 1) k (by omega) (by omega)]
    simp only [List.length_cons]
    rw [show i + 1 + y.length = i + (y.length + 1) by omega]
theorem held_l0 (n : Nat) (hn : n ≤ 1099511627776) (d : Nat) : ∀ i, i + d = n → ∀ k, d < k → laws_heldIntS.l0 k (R n) ((i + 1 : Nat) : Int) (i : Int) = some ((n + 1 : Nat) : Int) := by
  induction d with
  | zero =>
    intro i hi k hk
    obtain ⟨k, rfl⟩ : ∃ m, k = m + 1 := ⟨k - 1, by omega⟩
    simp only [laws_heldIntS.l0]; rw [if_neg (by rw [R_len]; omega)]
    rw [show i = n by omega]
  | succ d ih =>
    intro i hi k hk
    obtain ⟨k, rfl⟩ : ∃ m, k = m + 1 := ⟨k - 1, by omega⟩
    simp only [laws_heldIntS.l0]
    rw [if_pos (by rw [R_len]; omega), if_pos (by omega), R_rd (by omega), if_pos rfl, show wrap64 (((i + 1 : Nat) : Int) + 1) = ((i + 1 + 1 : Nat) : Int) by unfold wrap64; omega, show wrap64 ((i : Int) + 1) = ((i + 1 : Nat) : Int) by unfold wrap64; omega]
    exact ih (i + 1) (by omega) k (by omega)
theorem mark_ok (l : List Int) (hl : l.length ≤ 1099511627776) (k : Nat) (hk : l.length < k) : laws_markIntS.f k l 1 = some (((l.length + 1 : Nat) : Int), R l.length) := by
  unfold laws_markIntS.f
  have := mark_l0 l 0 k hk (by omega)
  simpa [R] using this
theorem held_ok (n : Nat) (hn : n ≤ 1099511627776) (k : Nat) (hk : n < k) : laws_heldIntS.f k (R n) 1 = some ((n + 1 : Nat) : Int) := by
  unfold laws_heldIntS.f
  have := held_l0 n hn n 0 (by omega) k hk
  simpa using this

theorem told_twice (s : ByteArray) (t : ByteArray) (lp : Int) (hr : Int) (l : List Int) (b : Bool) (hl : l.length ≤ 1099511627776) (hs : Ev (fun k => spec_EarliestWay.f k s t lp hr) (l, b)) (hi : Ev (fun k => impl_EarliestWay.f k s t lp hr) (l, b)) :
    ∃ k, (spec_EarliestWay.f k s t lp hr).bind (fun ws_ => (impl_EarliestWay.f k s t lp hr).bind fun gs_ => (laws_eqIntS.f k gs_.1 ws_.1).bind fun ts_ => (if ts_ = true then (laws_FnExactEarliestWay.j0 k s t lp hr ws_.1 ws_.2 gs_.1 (gs_.2 != ws_.2)) else (laws_FnExactEarliestWay.j0 k s t lp hr ws_.1 ws_.2 gs_.1 true))) = some true := by
  obtain ⟨K1, h1⟩ := hs
  obtain ⟨K2, h2⟩ := hi
  refine ⟨K1 + K2 + l.length + 3, ?_⟩
  have s0 := h1 (K1 + K2 + l.length + 3) (by omega)
  have i0 := h2 (K1 + K2 + l.length + 3) (by omega)
  have i1 := h2 (K1 + K2 + l.length + 2) (by omega)
  simp only at s0 i0 i1
  rw [s0]; simp only [Option.bind_some]
  rw [i0]; simp only [Option.bind_some]
  rw [eq_self l hl _ (by omega)]; simp only [Option.bind_some, if_true]
  simp only [laws_FnExactEarliestWay.j0]
  rw [mark_ok l hl _ (by omega)]; simp only [Option.bind_some]
  rw [held_ok _ hl _ (by omega)]; simp only [Option.bind_some]
  rw [if_neg (by simp), if_neg (by omega), if_pos trivial, i1]; simp only [Option.bind_some]
  rw [eq_self l hl _ (by omega)]; simp only [Option.bind_some, if_true]
  simp only [laws_FnExactEarliestWay.j1]
  rw [held_ok _ hl _ (by omega)]; simp only [Option.bind_some]
  rw [if_neg (by simp), if_neg (by omega), if_pos trivial]

theorem at_eq (s t : ByteArray) (L st : Nat) (z1 : 1 ≤ s.size ∧ s.size ≤ 14) (z2 : 1 ≤ t.size ∧ t.size ≤ 12) (zL : 1 ≤ L ∧ L ≤ 15) (hst : st ≤ 2000) (eR : ((okShore s && okTide t) && okLeap (L : Int)) = true) (eH : okHour (st : Int) = true) :
    Ev (fun k => impl_EarliestAt.f k s t (L : Int) (st : Int)) (if endOf s t L st < 0 then (0, false) else (endOf s t L st, true)) := by
  simp only [impl_EarliestAt.f]
  rw [isRight_eq s t _ (by omega) (by omega), isHour_eq, eR, eH]
  simp only [Option.bind_some, if_true, Bool.not_true]
  refine Ev.step (f := fun k => (impl_crossing_earliest.f k s t (L : Int) (st : Int)).bind fun y => if y < 0 then some (0, false) else some (y, true)) (fun k => by simp only [impl_EarliestAt.j0, Bool.false_eq_true, if_false]) ?_
  refine Ev.bind (impl_end s t L st z1 z2 zL hst) ?_
  split <;> exact Ev.now _
theorem FnExactEarliestWay : laws_FnExactEarliestWay.Pure := by
  intro s t l h hs ht _ _
  unfold laws_FnExactEarliestWay.f
  by_cases c1 : (s.size : Int) > 1048576
  · exact ⟨0, by rw [if_pos c1]⟩
  by_cases c2 : (t.size : Int) > 1048576
  · exact ⟨0, by rw [if_neg c1, if_pos c2]⟩
  have main : ∃ (r : List Int) (b : Bool), r.length ≤ 1099511627776 ∧ Ev (fun k => spec_EarliestWay.f k s t l h) (r, b) ∧ Ev (fun k => impl_EarliestWay.f k s t l h) (r, b) := by
    have hS : Ev (fun k => spec_tdAsked.f k s t l h) (((okShore s && okTide t) && okLeap l) && okHour h) := ⟨s.size + t.size + 1, fun k hk => asked_eq s t l h (by omega) (by omega) k (by omega) (by omega)⟩
    by_cases hg : (((okShore s && okTide t) && okLeap l) && okHour h) = true
    · have eR : ((okShore s && okTide t) && okLeap l) = true := by simp only [Bool.and_eq_true] at hg ⊢; exact hg.1
      have eH : okHour h = true := by simp only [Bool.and_eq_true] at hg; exact hg.2
      have hg' := hg
      simp only [Bool.and_eq_true, okLeap, okHour, decide_eq_true_eq] at hg'
      have z1 := okShore_size hg'.1.1.1
      have z2 := okTide_size hg'.1.1.2
      obtain ⟨L, rfl⟩ : ∃ L : Nat, l = (L : Int) := ⟨l.toNat, by omega⟩
      obtain ⟨st, rfl⟩ : ∃ st : Nat, h = (st : Int) := ⟨h.toNat, by omega⟩
      have zL : 1 ≤ L ∧ L ≤ 15 := by omega
      have zst : st ≤ 2000 := by omega
      have e1 := spec_end s t L st z1 z2 zL zst
      have e2 := at_eq s t L st z1 z2 zL zst eR eH
      rcases end_cases s t L st with ⟨hc, _⟩ | ⟨H, hH, hc, hr, hn⟩
      · rw [hc] at e1 e2
        refine ⟨[], false, by simp, ?_, ?_⟩
        · simp only [spec_EarliestWay.f]
          refine Ev.bind hS ?_
          rw [hg]; simp only [if_true]
          refine Ev.bind e1 ?_
          exact Ev.congr (f := fun _ => some ([], false)) (fun k => if_pos (by decide)) (Ev.now _)
        · simp only [impl_EarliestWay.f]
          rw [if_pos (by decide)] at e2
          refine Ev.bind e2 ?_
          simp only [Bool.false_eq_true, if_false]; exact Ev.now _
      · rw [hc] at e1 e2
        have hH2 : H ≤ 192 := Nat.le_trans hH (pt_le z1.2 z2.2)
        have hneg : ¬ ((st + H : Nat) : Int) < 0 := by omega
        rw [if_neg hneg] at e2
        have hb0 : 0 < bk s t L (st + H) H 0 := bk_start s t L st z1 z2 zL H hn H (s.size + 1) (Nat.le_refl _) hr (by rw [Nat.sub_self]; exact (bk_pos0 s t L z1 z2 zL _ _).mpr rfl)
        obtain ⟨⟨r, b⟩, hlen, x1, x2⟩ := ways_same s t L st z1 z2 zL H hH2 hn H 0 0 [0] (by omega) (by omega) rfl rfl (by simp [Tide.reach]) (by rw [Nat.sub_zero]; exact hb0)
        refine ⟨r, b, by simp only at hlen; omega, ?_, ?_⟩
        · simp only [spec_EarliestWay.f]
          refine Ev.bind hS ?_
          rw [hg]; simp only [if_true]
          refine Ev.bind e1 ?_
          refine Ev.congr (f := fun n => (spec_tdBack.f n s t (L : Int) (st : Int) ((st + H : Nat) : Int)).bind fun t162 => if 1 ≤ (t162.length : Int) then (some (t162.drop 1)).bind fun y168 => spec_EarliestWay.l0 n (L : Int) [0] 0 y168 (y168.length : Int) 0 else none) (fun k => if_neg hneg) ?_
          refine Ev.bind (back_ok s t L st z1 z2 zL H (by omega)) ?_
          refine Ev.congr (fun k => ?_) x1
          simp only [tab_len]
          rw [if_pos (by omega), Option.bind_some, tab_drop, tab_len]
          rfl
        · simp only [impl_EarliestWay.f]
          refine Ev.bind e2 ?_
          simp only [if_true]
          refine Ev.bind (counts_ok s t L st z1 z2 zL H (by omega)) ?_
          exact x2
    · have hg0 : (((okShore s && okTide t) && okLeap l) && okHour h) = false := by simpa using hg
      refine ⟨[], false, by simp, ?_, ?_⟩
      · simp only [spec_EarliestWay.f]
        refine Ev.bind hS ?_
        rw [hg0]; exact Ev.now _
      · have e : Ev (fun k => impl_EarliestAt.f k s t l h) (0, false) := by
          simp only [impl_EarliestAt.f]
          rw [isRight_eq s t _ (by omega) (by omega), isHour_eq]
          have : Ev (fun k => impl_EarliestAt.j0 k h true s t l) (0, false) := Ev.step (f := fun _ => some (0, false)) (fun k => by simp only [impl_EarliestAt.j0, if_true]) (Ev.now _)
          cases a : ((okShore s && okTide t) && okLeap l) with
          | false => simpa using this
          | true =>
            rw [a] at hg0
            simp only [Bool.true_and] at hg0
            rw [hg0]; simpa using this
        simp only [impl_EarliestWay.f]
        refine Ev.bind e ?_
        simp only [Bool.false_eq_true, if_false]; exact Ev.now _
  obtain ⟨r, b, hl, h1, h2⟩ := main
  obtain ⟨k, hk⟩ := told_twice s t l h r b hl h1 h2
  exact ⟨k, by rw [if_neg c1, if_neg c2]; exact hk⟩

end Go.Proofs.YteijbohbdhemoaaDoor.Pure
