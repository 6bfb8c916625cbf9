/- The pure law FnExactCountTideWays: for all arguments the printed function of the law answers true. No condition. -/
import Derived.Test.YteijbohbdhemoaaDoorPFnExactCountTideWaysx5
namespace Go.Proofs.YteijbohbdhemoaaDoor.Pure
open Go.RowKit Go.Proofs.YteijbohbdhemoaaDoor.PFnExactCountTideWays Go.Proofs.YteijbohbdhemoaaDoorW.PrintWords Go.Proofs.YteijbohbdhemoaaDoorW.PrintLast Go.Proofs.YteijbohbdhemoaaDoorW.PrintMore
set_option linter.unusedVariables false
set_option linter.unusedSimpArgs false

theorem l1In_eq (a lo hi : Int) : spec_l1In.f a lo hi = some (decide (lo ≤ a ∧ a ≤ hi)) := by
  unfold spec_l1In.f
  by_cases h : lo ≤ a
  · rw [if_pos h]; simp [h]
  · rw [if_neg h]; simp [h]
theorem within_eq (a lo hi : Int) : impl_within.f a lo hi = some (decide (lo ≤ a ∧ a ≤ hi)) := by
  unfold impl_within.f
  by_cases h : lo ≤ a
  · rw [if_pos h]; simp [h]
  · rw [if_neg h]; simp [h]

def isDig (b : UInt8) : Bool := decide (48 ≤ b.toNat) && decide (b.toNat ≤ 57)
def digs (s : ByteArray) : Bool := s.data.toList.all isDig
theorem size_list (s : ByteArray) : s.data.toList.length = s.size := by rw [Array.length_toList]; rfl
theorem bt_list (s : ByteArray) (n : Nat) (h : n < s.size) : bt s (n : Int) = ((s.data.toList[n]'(by rw [size_list]; exact h)).toNat : Int) := by
  unfold bt
  rw [dif_pos (show (n : Int).toNat < s.size by omega)]
  rfl
theorem isDig_iff (b : UInt8) : isDig b = true ↔ ¬ ((b.toNat : Int) < 48) ∧ ¬ ((b.toNat : Int) > 57) := by
  unfold isDig; simp only [Bool.and_eq_true, decide_eq_true_eq]; omega
theorem contains_dig (x : UInt8) : ([48, 49, 50, 51, 52, 53, 54, 55, 56, 57] : List UInt8).contains x = isDig x := by
  rw [Bool.eq_iff_iff]
  unfold isDig
  simp only [List.contains_iff_mem, List.mem_cons, List.mem_nil_iff, or_false, Bool.and_eq_true, decide_eq_true_eq, ← UInt8.toNat_inj]
  simp only [UInt8.toNat_ofNat]
  omega
theorem drop_nil {p : UInt8 → Bool} {l : List UInt8} : l.dropWhile p = [] ↔ ∀ x ∈ l, p x = true := by
  induction l with
  | nil => simp
  | cons a l ih =>
    rw [List.dropWhile_cons]
    by_cases h : p a = true
    · rw [if_pos h, ih]; simp [h]
    · rw [if_neg h]; simp [h]
theorem drop_head {p : UInt8 → Bool} : ∀ {l : List UInt8} {a : UInt8} {r : List UInt8}, l.dropWhile p = a :: r → p a = false
  | [], _, _, h => by simp at h
  | b :: l, a, r, h => by
    rw [List.dropWhile_cons] at h
    by_cases hb : p b = true
    · rw [if_pos hb] at h; exact drop_head h
    · rw [if_neg hb] at h
      injection h with h1 _
      subst h1
      simpa using hb
theorem trim_nil (l cs : List UInt8) : Lib.trimS l cs = [] ↔ ∀ x ∈ l, cs.contains x = true := by
  unfold Lib.trimS Lib.trimLeftS
  rw [drop_nil]
  constructor
  · intro h
    have e : l.reverse.dropWhile (cs.contains ·) = [] := by
      cases hd : l.reverse.dropWhile (cs.contains ·) with
      | nil => rfl
      | cons a r =>
        have h1 := drop_head hd
        have h2 := h a (by unfold Lib.trimRightS; rw [hd]; simp)
        rw [h1] at h2; cases h2
    intro x hx
    exact drop_nil.mp e x (by simpa using hx)
  · intro h x hx
    unfold Lib.trimRightS at hx
    have : x ∈ l.reverse.dropWhile (cs.contains ·) := by simpa using hx
    exact h x (by have := (List.dropWhile_sublist (cs.contains ·) (l := l.reverse)).subset this; simpa using this)
theorem trim_digs (s : ByteArray) (h : s.size ≤ 9223372036854775807) : ∃ t : ByteArray, strings_Trim.f s (⟨#[48, 49, 50, 51, 52, 53, 54, 55, 56, 57]⟩ : ByteArray) = some t ∧ (t.toList == ([] : List UInt8)) = digs s := by
  unfold strings_Trim.f
  rw [if_pos ⟨h, by decide, by decide⟩]
  refine ⟨_, rfl, ?_⟩
  rw [Bool.eq_iff_iff]
  rw [Lib.toList_data]
  simp only [beq_iff_eq, digs, List.all_eq_true]
  show Lib.trimS s.data.toList [48, 49, 50, 51, 52, 53, 54, 55, 56, 57] = [] ↔ _
  rw [trim_nil]
  constructor
  · intro h x hx; rw [← contains_dig]; exact h x hx
  · intro h x hx; rw [contains_dig]; exact h x hx
theorem tdText_l0 (s : ByteArray) (hs : s.size ≤ 9223372036854775806) (d : Nat) : ∀ n, n + d = s.size → ∀ k, d < k → spec_tdText.l0 k s (n : Int) = some ((s.data.toList.drop n).all isDig) := by
  induction d with
  | zero =>
    intro n hn k hk
    obtain ⟨k, rfl⟩ : ∃ m, k = m + 1 := ⟨k - 1, by omega⟩
    simp only [spec_tdText.l0]
    rw [if_neg (by omega), List.drop_of_length_le (by rw [size_list]; omega)]; rfl
  | succ d ih =>
    intro n hn k hk
    obtain ⟨k, rfl⟩ : ∃ m, k = m + 1 := ⟨k - 1, by omega⟩
    have hlt : n < s.data.toList.length := by rw [size_list]; omega
    simp only [spec_tdText.l0]
    rw [if_pos (show (n : Int) < (s.size : Int) by omega), if_pos (by omega), bt_list s n (by omega), List.drop_eq_getElem_cons hlt, List.all_cons]
    have hi := isDig_iff (s.data.toList[n]'hlt)
    have hw : wrap64 ((n : Int) + 1) = ((n + 1 : Nat) : Int) := by unfold wrap64; omega
    cases hd : isDig (s.data.toList[n]'hlt) with
    | true =>
      have := hi.mp hd
      rw [if_neg this.1, if_neg this.2, hw, ih (n + 1) (by omega) k (by omega)]; simp
    | false =>
      by_cases c : ((s.data.toList[n]'hlt).toNat : Int) < 48
      · rw [if_pos c]; simp
      · by_cases c' : ((s.data.toList[n]'hlt).toNat : Int) > 57
        · rw [if_neg c, if_pos c']; simp
        · have := hi.mpr ⟨c, c'⟩; rw [hd] at this; cases this
theorem tdText_eq (s : ByteArray) (hs : s.size ≤ 9223372036854775806) (m : Int) (k : Nat) (hk : s.size < k) : spec_tdText.f k s m = some (decide (1 ≤ (s.size : Int) ∧ (s.size : Int) ≤ m) && digs s) := by
  unfold spec_tdText.f
  rw [l1In_eq]
  by_cases h : 1 ≤ (s.size : Int) ∧ (s.size : Int) ≤ m
  · rw [decide_eq_true h]
    have := tdText_l0 s hs s.size 0 (by omega) k hk
    simp only [Option.bind_some, if_true, Bool.true_and]
    simpa [digs] using this
  · rw [decide_eq_false h]; simp

theorem isShore_eq (s : ByteArray) (hs : s.size ≤ 9223372036854775806) : impl_IsShore.f s = some (decide (1 ≤ (s.size : Int) ∧ (s.size : Int) ≤ 14) && digs s) := by
  unfold impl_IsShore.f
  rw [within_eq]
  obtain ⟨t, ht, hd⟩ := trim_digs s (by omega)
  rw [ht]
  by_cases h : 1 ≤ (s.size : Int) ∧ (s.size : Int) ≤ 14
  · rw [decide_eq_true h]; simp only [Option.bind_some, if_true, Bool.true_and, hd]
  · rw [decide_eq_false h]; simp

theorem isTide_eq (s : ByteArray) (hs : s.size ≤ 9223372036854775806) : impl_IsTide.f s = some (decide (1 ≤ (s.size : Int) ∧ (s.size : Int) ≤ 12) && digs s) := by
  unfold impl_IsTide.f
  rw [within_eq]
  obtain ⟨t, ht, hd⟩ := trim_digs s (by omega)
  rw [ht]
  by_cases h : 1 ≤ (s.size : Int) ∧ (s.size : Int) ≤ 12
  · rw [decide_eq_true h]; simp only [Option.bind_some, if_true, Bool.true_and, hd]
  · rw [decide_eq_false h]; simp

def okShore (s : ByteArray) : Bool := decide (1 ≤ (s.size : Int) ∧ (s.size : Int) ≤ 14) && digs s
def okTide (s : ByteArray) : Bool := decide (1 ≤ (s.size : Int) ∧ (s.size : Int) ≤ 12) && digs s
theorem okShore_size {s : ByteArray} (h : okShore s = true) : 1 ≤ s.size ∧ s.size ≤ 14 := by
  unfold okShore at h; simp only [Bool.and_eq_true, decide_eq_true_eq] at h; omega
theorem okTide_size {s : ByteArray} (h : okTide s = true) : 1 ≤ s.size ∧ s.size ≤ 12 := by
  unfold okTide at h; simp only [Bool.and_eq_true, decide_eq_true_eq] at h; omega
theorem tdGood_eq (s t : ByteArray) (hs : s.size ≤ 9223372036854775806) (ht : t.size ≤ 9223372036854775806) (k : Nat) (h1 : s.size < k) (h2 : t.size < k) : spec_tdGood.f k s t = some (okShore s && okTide t) := by
  unfold spec_tdGood.f
  rw [tdText_eq s hs _ k h1, tdText_eq t ht _ k h2]
  show (some (okShore s)).bind _ = _
  cases okShore s <;> simp [okTide]
theorem areShore_eq (s t : ByteArray) (hs : s.size ≤ 9223372036854775806) (ht : t.size ≤ 9223372036854775806) : impl_areShore.f s t = some (okShore s && okTide t) := by
  unfold impl_areShore.f
  rw [isShore_eq s hs, isTide_eq t ht]
  show (some (okShore s)).bind _ = _
  cases okShore s <;> simp [okTide]

theorem dry_eq (s t : ByteArray) (p h : Int) : impl_isDry.f s t p h = spec_tdDry.f s t p h := by
  unfold impl_isDry.f spec_tdDry.f; rfl
/-- Whether a place is dry at an hour. -/
def dryB (s t : ByteArray) (p h : Int) : Bool := decide (p = 0) || decide (p = (s.size : Int) + 1) || decide ((bt s (p - 1)) > (bt t (h % (t.size : Int))))
theorem dry_is (s t : ByteArray) (p h : Int) (hs : s.size ≤ 14) (ht : 1 ≤ t.size ∧ t.size ≤ 12) (hp : 0 ≤ p ∧ p ≤ (s.size : Int) + 1) (hh : 0 ≤ h) : spec_tdDry.f s t p h = some (dryB s t p h) := by
  unfold spec_tdDry.f dryB
  have e1 : wrap64 ((s.size : Int) + 1) = (s.size : Int) + 1 := by unfold wrap64; omega
  have e2 : wrap64 (p - 1) = p - 1 := by unfold wrap64; omega
  have e3 : Int.tmod h (t.size : Int) = h % (t.size : Int) := Int.tmod_eq_emod_of_nonneg hh
  have e4 : 0 ≤ h % (t.size : Int) ∧ h % (t.size : Int) < (t.size : Int) := ⟨Int.emod_nonneg _ (by omega), Int.emod_lt_of_pos _ (by omega)⟩
  rw [e1, e2, e3]
  by_cases c0 : p = 0
  · rw [if_pos c0]; simp [c0]
  · rw [if_neg c0]
    by_cases c1 : p = (s.size : Int) + 1
    · rw [if_pos c1]; simp [c1]
    · rw [if_neg c1, if_pos (by omega), if_pos (by omega), if_neg (by omega), if_pos e4.1, if_pos e4.2]
      simp [c0, c1]
namespace Tide
def near (L a b : Nat) : Bool := decide (a ≤ b + L ∧ b ≤ a + L)
def reach (P L : Nat) (dry : Nat → Nat → Bool) (s : Nat) : Nat → Nat → Bool
  | 0, p => p == 0
  | h + 1, p => dry p (s + h + 1) && (List.range P).any fun q => reach P L dry s h q && near L q p
def first (P L : Nat) (dry : Nat → Nat → Bool) (s : Nat) : Nat → Nat → Int
  | 0, p => if p = 0 then (s : Int) else -1
  | h + 1, p => if reach P L dry s (h + 1) p = true ∧ first P L dry s h p < 0 then ((s + h + 1 : Nat) : Int) else first P L dry s h p
section
variable {P L T : Nat} {dry : Nat → Nat → Bool} {s : Nat}

theorem reach_succ {h p : Nat} : reach P L dry s (h + 1) p = true ↔ dry p (s + h + 1) = true ∧ ∃ q, q < P ∧ reach P L dry s h q = true ∧ near L q p = true := by
  simp only [reach, Bool.and_eq_true, List.any_eq_true, List.mem_range]

theorem near_self (a : Nat) : near L a a = true := by simp [near]

theorem stay (h0 : ∀ h, dry 0 h = true) (hP : 0 < P) : ∀ h, reach P L dry s h 0 = true
  | 0 => by simp [reach]
  | h + 1 => reach_succ.mpr ⟨h0 _, 0, hP, stay h0 hP h, near_self 0⟩

theorem later (hd : ∀ p h, dry p (h + T) = dry p h) (h0 : ∀ h, dry 0 h = true) (hP : 0 < P) : ∀ h p, reach P L dry s h p = true → reach P L dry s (h + T) p = true
  | 0, p, h => by
    have : p = 0 := by simpa [reach] using h
    subst this
    exact stay h0 hP _
  | h + 1, p, hr => by
    obtain ⟨a, q, b, c, d⟩ := reach_succ.mp hr
    have e : h + 1 + T = (h + T) + 1 := by omega
    rw [e]
    refine reach_succ.mpr ⟨?_, q, b, later hd h0 hP h q c, d⟩
    have := hd p (s + h + 1)
    rw [show s + (h + T) + 1 = s + h + 1 + T by omega, this]
    exact a

/-- Once a tide brings nothing new at its end, no later hour brings anything new. -/
theorem still (hd : ∀ p h, dry p (h + T) = dry p h) {j : Nat} (hj : ∀ p, p < P → reach P L dry s (j + T) p = true → reach P L dry s j p = true) : ∀ d p, p < P → reach P L dry s (j + d + T) p = true → reach P L dry s (j + d) p = true
  | 0, p, hp, h => hj p hp h
  | d + 1, p, hp, h => by
    have e : j + (d + 1) + T = (j + d + T) + 1 := by omega
    rw [e] at h
    obtain ⟨a, q, b, c, e2⟩ := reach_succ.mp h
    rw [show j + (d + 1) = j + d + 1 by omega]
    refine reach_succ.mpr ⟨?_, q, b, still hd hj d q b c, e2⟩
    have := hd p (s + (j + d) + 1)
    rw [← this, show s + (j + d) + 1 + T = s + (j + d + T) + 1 by omega]
    exact a

def count (P : Nat) (f : Nat → Bool) : Nat := ((List.range P).filter f).length
theorem count_le (P : Nat) (f : Nat → Bool) : count P f ≤ P := by
  have := List.length_filter_le f (List.range P); simpa [count] using this
theorem count_mono {P : Nat} {f g : Nat → Bool} (h : ∀ p, p < P → f p = true → g p = true) : count P f ≤ count P g := by
  induction P with
  | zero => simp [count]
  | succ P ih =>
    have := ih fun p hp => h p (by omega)
    have hP := h P (by omega)
    simp only [count, List.range_succ, List.filter_append, List.length_append] at this ⊢
    cases hf : f P <;> cases hg : g P <;> simp [hf, hg] at hP ⊢ <;> omega
theorem count_lt {P : Nat} {f g : Nat → Bool} (h : ∀ p, p < P → f p = true → g p = true) {q : Nat} (hq : q < P) (hf : f q = false) (hg : g q = true) : count P f < count P g := by
  induction P with
  | zero => omega
  | succ P ih =>
    have hP := h P (by omega)
    have hm : count P f ≤ count P g := count_mono fun p hp => h p (by omega)
    by_cases e : q = P
    · subst e
      simp only [count, List.range_succ, List.filter_append, List.length_append] at hm ⊢
      simp [hf, hg]; omega
    · have := ih (fun p hp => h p (by omega)) (by omega)
      simp only [count, List.range_succ, List.filter_append, List.length_append] at this ⊢
      cases hf' : f P <;> cases hg' : g P <;> simp [hf', hg'] at hP ⊢ <;> omega

/-- At some tide among the first P ones nothing new comes. -/
theorem some_still (hd : ∀ p h, dry p (h + T) = dry p h) (h0 : ∀ h, dry 0 h = true) (hP : 0 < P) : ∃ j, j < P ∧ ∀ p, p < P → reach P L dry s (j * T + T) p = true → reach P L dry s (j * T) p = true := by
  refine Classical.byContradiction fun hn => ?_
  have step : ∀ j, j < P → ∃ p, p < P ∧ reach P L dry s (j * T + T) p = true ∧ reach P L dry s (j * T) p = false := by
    intro j hj
    refine Classical.byContradiction fun h => hn ⟨j, hj, fun p hp hr => ?_⟩
    cases hc : reach P L dry s (j * T) p with
    | true => rfl
    | false => exact absurd ⟨p, hp, hr, hc⟩ h
  have grow : ∀ j, j ≤ P → j + 1 ≤ count P (reach P L dry s (j * T)) := by
    intro j
    induction j with
    | zero =>
      intro _
      have := count_lt (P := P) (f := fun _ => false) (g := reach P L dry s (0 * T)) (fun _ _ h => by cases h) (q := 0) hP rfl (stay h0 hP _)
      omega
    | succ j ih =>
      intro hj
      obtain ⟨p, hp, h1, h2⟩ := step j (by omega)
      have e : (j + 1) * T = j * T + T := by rw [Nat.add_mul, Nat.one_mul]
      rw [e]
      have := count_lt (P := P) (f := reach P L dry s (j * T)) (g := reach P L dry s (j * T + T)) (fun p _ h => later hd h0 hP _ p h) hp h2 h1
      have := ih (by omega)
      omega
  have h1 := grow P (Nat.le_refl _)
  have := count_le P (reach P L dry s (P * T))
  omega

theorem back (hd : ∀ p h, dry p (h + T) = dry p h) (h0 : ∀ h, dry 0 h = true) (hP : 0 < P) {h p : Nat} (hp : p < P) (hh : P * T ≤ h + T) (hr : reach P L dry s (h + T) p = true) : reach P L dry s h p = true := by
  obtain ⟨j, hj, hs⟩ := some_still (s := s) (L := L) hd h0 hP
  have hle : j * T ≤ h := by
    have : (j + 1) * T ≤ P * T := Nat.mul_le_mul_right T (by omega)
    rw [Nat.add_mul, Nat.one_mul] at this
    omega
  have := still hd hs (h - j * T) p hp
  rw [show j * T + (h - j * T) = h by omega] at this
  exact this hr

/-- Whatever is reached at all is reached within P tides. -/
theorem within_tides (hd : ∀ p h, dry p (h + T) = dry p h) (h0 : ∀ h, dry 0 h = true) (hP : 0 < P) (hT : 0 < T) (h : Nat) : ∀ p, p < P → reach P L dry s h p = true → ∃ h', h' ≤ P * T ∧ h' ≤ h ∧ reach P L dry s h' p = true := by
  induction h using Nat.strongRecOn with
  | _ h ih =>
    intro p hp hr
    by_cases hle : h ≤ P * T
    · exact ⟨h, hle, Nat.le_refl _, hr⟩
    · have hT' : T ≤ P * T := Nat.le_mul_of_pos_left T hP
      obtain ⟨m, rfl⟩ : ∃ m, h = m + T := ⟨h - T, by omega⟩
      obtain ⟨h', a, b, c⟩ := ih m (by omega) p hp (back hd h0 hP hp (by omega) hr)
      exact ⟨h', a, by omega, c⟩

theorem first_neg : ∀ n p, first P L dry s n p < 0 → first P L dry s n p = -1 ∧ ∀ h, h ≤ n → reach P L dry s h p = false
  | 0, p, hf => by
    simp only [first] at hf ⊢
    by_cases hp : p = 0
    · rw [if_pos hp] at hf; omega
    · rw [if_neg hp]
      refine ⟨rfl, fun h hh => ?_⟩
      obtain rfl : h = 0 := by omega
      simp [reach, hp]
  | n + 1, p, hf => by
    simp only [first] at hf ⊢
    split at hf
    · omega
    · rename_i hc
      obtain ⟨a, b⟩ := first_neg n p hf
      rw [if_neg hc]
      refine ⟨a, fun h hh => ?_⟩
      by_cases e : h = n + 1
      · subst e
        cases hr : reach P L dry s (n + 1) p with
        | false => rfl
        | true => exact absurd ⟨hr, hf⟩ hc
      · exact b h (by omega)
theorem first_pos : ∀ n p, 0 ≤ first P L dry s n p → ∃ h, h ≤ n ∧ first P L dry s n p = ((s + h : Nat) : Int) ∧ reach P L dry s h p = true ∧ ∀ h', h' < h → reach P L dry s h' p = false
  | 0, p, hf => by
    simp only [first] at hf ⊢
    by_cases hp : p = 0
    · rw [if_pos hp]; exact ⟨0, Nat.le_refl _, rfl, by simp [reach, hp], fun h' hh => by omega⟩
    · rw [if_neg hp] at hf; omega
  | n + 1, p, hf => by
    simp only [first] at hf ⊢
    split
    · rename_i hc
      exact ⟨n + 1, Nat.le_refl _, rfl, hc.1, fun h' hh => (first_neg n p hc.2).2 h' (by omega)⟩
    · rename_i hc
      rw [if_neg hc] at hf
      obtain ⟨h, a, b, c, d⟩ := first_pos n p hf
      exact ⟨h, by omega, b, c, d⟩
theorem first_of_reach {n p h : Nat} (hh : h ≤ n) (hr : reach P L dry s h p = true) : 0 ≤ first P L dry s n p := by
  rcases Int.lt_or_le (first P L dry s n p) 0 with c | c
  · have := (first_neg n p c).2 h hh; rw [hr] at this; cases this
  · exact c
theorem first_unique {n p h : Nat} (hh : h ≤ n) (hr : reach P L dry s h p = true) (hn : ∀ h', h' < h → reach P L dry s h' p = false) : first P L dry s n p = ((s + h : Nat) : Int) := by
  obtain ⟨h2, a, b, c, d⟩ := first_pos n p (first_of_reach hh hr)
  have : h2 = h := by
    rcases Nat.lt_trichotomy h2 h with l | l | l
    · have := hn h2 l; rw [c] at this; cases this
    · exact l
    · have := d h l; rw [hr] at this; cases this
  rw [b, this]
/-- More rounds than P tides tell nothing new. -/
theorem first_enough (hd : ∀ p h, dry p (h + T) = dry p h) (h0 : ∀ h, dry 0 h = true) (hP : 0 < P) (hT : 0 < T) {n p : Nat} (hp : p < P) (hn : P * T ≤ n) : first P L dry s n p = first P L dry s (P * T) p := by
  rcases Int.lt_or_le (first P L dry s (P * T) p) 0 with c | c
  · obtain ⟨a, b⟩ := first_neg _ p c
    rcases Int.lt_or_le (first P L dry s n p) 0 with c' | c'
    · rw [a, (first_neg _ p c').1]
    · obtain ⟨h, _, _, hr, _⟩ := first_pos n p c'
      obtain ⟨h', x, _, z⟩ := within_tides hd h0 hP hT h p hp hr
      have := b h' x; rw [z] at this; cases this
  · obtain ⟨h, x, y, z, u⟩ := first_pos _ p c
    rw [y]; exact first_unique (by omega) z u
end
end Tide

section
variable {α : Type} {P : Nat} {f g : Nat → α}
def tab (P : Nat) (f : Nat → α) : List α := (List.range P).map f
theorem tab_len : (tab P f).length = P := by simp [tab]
theorem tab_congr (h : ∀ i, i < P → f i = g i) : tab P f = tab P g := by
  unfold tab
  exact List.map_congr_left fun i hi => h i (List.mem_range.mp hi)
theorem tab_get (d : α) {p : Nat} (h : p < P) : (tab P f).getD p d = f p := by
  rw [List.getD_eq_getElem?_getD, tab, List.getElem?_map, List.getElem?_range h]; rfl
theorem tab_set {p : Nat} {v : α} : (tab P f).set p v = tab P (fun i => if i = p then v else f i) := by
  apply List.ext_getElem
  · simp [tab]
  · intro i h1 h2
    rw [List.getElem_set]
    simp only [tab, List.getElem_map, List.getElem_range]
    by_cases e : p = i
    · rw [if_pos e, if_pos e.symm]
    · rw [if_neg e, if_neg (fun h => e h.symm)]
theorem tab_const (v : α) : List.replicate P v = tab P (fun _ => v) := by
  apply List.ext_getElem
  · simp [tab]
  · intro i h1 h2; simp [tab]
end
theorem rdOf_tab {α : Type} {P : Nat} {f : Nat → α} (d : α) {p : Nat} (h : p < P) : rdOf d (tab P f) (p : Int) = f p := by
  unfold rdOf; rw [show ((p : Int)).toNat = p by omega]; exact tab_get d h
theorem rd_tab {P : Nat} {f : Nat → Int} {p : Nat} (h : p < P) : rd (tab P f) (p : Int) = f p := by
  unfold rd; rw [show ((p : Int)).toNat = p by omega]; exact tab_get 0 h
theorem w_nat {n : Nat} (h : n ≤ 100000) : wrap64 ((n : Int) + 1) = ((n + 1 : Nat) : Int) := by unfold wrap64; omega
theorem w_id {n : Int} (h0 : -100000 ≤ n) (h1 : n ≤ 100000) : wrap64 n = n := by unfold wrap64; omega

def okLeap (p : Int) : Bool := decide (1 ≤ p ∧ p ≤ 15)
def okHour (p : Int) : Bool := decide (0 ≤ p ∧ p ≤ 1000)
theorem tdLeap_eq (s t : ByteArray) (p : Int) (hs : s.size ≤ 9223372036854775806) (ht : t.size ≤ 9223372036854775806) (k : Nat) (h1 : s.size < k) (h2 : t.size < k) : spec_tdLeap.f k s t p = some ((okShore s && okTide t) && okLeap p) := by
  unfold spec_tdLeap.f
  rw [tdGood_eq s t hs ht k h1 h2, l1In_eq]
  unfold okLeap
  cases (okShore s && okTide t) <;> simp
theorem isRight_eq (s t : ByteArray) (p : Int) (hs : s.size ≤ 9223372036854775806) (ht : t.size ≤ 9223372036854775806) : impl_crossing_isRight.f s t p = some ((okShore s && okTide t) && okLeap p) := by
  unfold impl_crossing_isRight.f
  rw [areShore_eq s t hs ht, within_eq]
  unfold okLeap
  cases (okShore s && okTide t) <;> simp

theorem asked_eq (s t : ByteArray) (p h : Int) (hs : s.size ≤ 9223372036854775806) (ht : t.size ≤ 9223372036854775806) (k : Nat) (h1 : s.size < k) (h2 : t.size < k) : spec_tdAsked.f k s t p h = some (((okShore s && okTide t) && okLeap p) && okHour h) := by
  unfold spec_tdAsked.f spec_tdHour.f
  rw [tdLeap_eq s t p hs ht k h1 h2, l1In_eq]
  unfold okHour
  cases ((okShore s && okTide t) && okLeap p) <;> simp

theorem isHour_eq (h : Int) : impl_isHour.f h = some (okHour h) := by
  unfold impl_isHour.f; rw [within_eq]; rfl

theorem places_eq (s t : ByteArray) (p : Int) (hs : s.size ≤ 14) : impl_crossing_places.f s t p = some ((s.size + 2 : Nat) : Int) := by
  unfold impl_crossing_places.f; rw [w_id (by omega) (by omega)]; rfl
theorem w_end {a b st n : Nat} (h : a * b = n) (hn : n ≤ 192) (hst : st ≤ 2000) : wrap64 ((st : Int) + wrap64 ((a : Int) * (b : Int))) = ((st + n : Nat) : Int) := by
  rw [← Int.natCast_mul, h, w_id (n := (n : Int)) (by omega) (by omega), w_id (by omega) (by omega)]; omega
def anyFrom (f : Nat → Bool) : Nat → Nat → Bool
  | _, 0 => false
  | q, d + 1 => f q || anyFrom f (q + 1) d
theorem anyFrom_iff {f : Nat → Bool} : ∀ {d q}, anyFrom f q d = true ↔ ∃ i, q ≤ i ∧ i < q + d ∧ f i = true
  | 0, q => by
    simp only [anyFrom]
    constructor
    · intro h; cases h
    · rintro ⟨i, a, b, _⟩; omega
  | d + 1, q => by
    simp only [anyFrom, Bool.or_eq_true, anyFrom_iff (d := d) (q := q + 1)]
    constructor
    · rintro (h | ⟨i, a, b, c⟩)
      · exact ⟨q, by omega, by omega, h⟩
      · exact ⟨i, by omega, by omega, c⟩
    · rintro ⟨i, a, b, c⟩
      by_cases e : i = q
      · subst e; exact .inl c
      · exact .inr ⟨i, by omega, by omega, c⟩
/-- Dry, by natural numbers. -/
def dryN (s t : ByteArray) (p h : Nat) : Bool := dryB s t (p : Int) (h : Int)
theorem dryN_tide (s t : ByteArray) (p h : Nat) (ht : 1 ≤ t.size) : dryN s t p (h + t.size) = dryN s t p h := by
  unfold dryN dryB
  rw [show ((h + t.size : Nat) : Int) = (h : Int) + (t.size : Int) by omega, Int.add_emod_right]
theorem dryN_bank (s t : ByteArray) (h : Nat) : dryN s t 0 h = true := by unfold dryN dryB; simp
theorem dryN_end (s t : ByteArray) (h : Nat) : dryN s t (s.size + 1) h = true := by
  unfold dryN dryB
  rw [decide_eq_true (show ((s.size + 1 : Nat) : Int) = (s.size : Int) + 1 by omega)]; simp
abbrev rch (s t : ByteArray) (L st h p : Nat) : Bool := Tide.reach (s.size + 2) L (dryN s t) st h p
abbrev fst (s t : ByteArray) (L st n p : Nat) : Int := Tide.first (s.size + 2) L (dryN s t) st n p
set_option linter.unusedSectionVars false
section
variable (s t : ByteArray) (L st : Nat) (hs : 1 ≤ s.size ∧ s.size ≤ 14) (ht : 1 ≤ t.size ∧ t.size ≤ 12) (hL : 1 ≤ L ∧ L ≤ 15)
include hs ht hL
theorem dry_nat (p h : Nat) (hp : p < s.size + 2) : spec_tdDry.f s t (p : Int) (h : Int) = some (dryN s t p h) := dry_is s t _ _ hs.2 ht (by omega) (by omega)
theorem near_nat (q p : Nat) (hq : q < s.size + 2) (hp : p < s.size + 2) : impl_crossing_near.f s t (L : Int) (q : Int) (p : Int) = some (Tide.near L q p) := by
  unfold impl_crossing_near.f
  rw [w_id (n := (p : Int) - (q : Int)) (by omega) (by omega), w_id (n := -(L : Int)) (by omega) (by omega), within_eq]
  unfold Tide.near
  simp only [Option.bind_some]
  exact congrArg some (decide_eq_decide.mpr (by omega))
end

/-- The saturated sum of the first q. -/
def acc (M : Nat) (f : Nat → Nat) : Nat → Nat
  | 0 => 0
  | q + 1 => min (acc M f q + f q) M
theorem acc_le {M : Nat} {f : Nat → Nat} : ∀ q, acc M f q ≤ M
  | 0 => Nat.zero_le _
  | q + 1 => Nat.min_le_right _ _
theorem acc_skip {M q : Nat} {f : Nat → Nat} (h : f q = 0) : acc M f (q + 1) = acc M f q := by
  have := acc_le (M := M) (f := f) q
  simp only [acc, h, Nat.add_zero]; omega
theorem acc_zero {M : Nat} {f : Nat → Nat} (h : ∀ q, f q = 0) : ∀ q, acc M f q = 0
  | 0 => rfl
  | q + 1 => by rw [acc_skip (h q), acc_zero h q]
abbrev cap : Nat := 1152921504606846976
/-- Ways from p to the far bank, told d hours before the end e. -/
def bk (s t : ByteArray) (L e : Nat) : Nat → Nat → Nat
  | 0, p => if p = s.size + 1 then 1 else 0
  | d + 1, p => if p < s.size + 1 then acc cap (fun q => if (Tide.near L p q && dryN s t p (e - (d + 1))) = true then bk s t L e d q else 0) (s.size + 2) else 0
theorem bk_le (s t : ByteArray) (L e : Nat) : ∀ d p, bk s t L e d p ≤ cap
  | 0, p => by simp only [bk]; split <;> decide
  | d + 1, p => by
    simp only [bk]; split
    · exact acc_le _
    · exact Nat.zero_le _
theorem w_big {n : Int} (h0 : 0 ≤ n) (h1 : n ≤ 4611686018427387904) : wrap64 n = n := by unfold wrap64; omega
theorem mn_cap {a b : Nat} (ha : a ≤ cap) (hb : b ≤ cap) : mn (wrap64 ((a : Int) + (b : Int))) 1152921504606846976 = ((min (a + b) cap : Nat) : Int) := by
  unfold cap at *
  rw [w_big (by omega) (by omega)]
  unfold mn
  by_cases c : (1152921504606846976 : Int) < (a : Int) + (b : Int)
  · rw [if_pos c]; omega
  · rw [if_neg c]; omega
theorem rdL_tab {N : Nat} {f : Nat → List Int} {j : Nat} (h : j < N) : rd_L1 (tab N f) (j : Int) = f j := by
  unfold rd_L1; rw [show ((j : Int)).toNat = j by omega]; exact tab_get [] h
theorem tab2_set {N P : Nat} {g : Nat → Nat → Int} {j p : Nat} {v : Int} (h : j < N) :
    (tab N (fun j' => tab P (g j'))).set j ((rd_L1 (tab N (fun j' => tab P (g j'))) (j : Int)).set p v) = tab N (fun j' => tab P (fun p' => if j' = j ∧ p' = p then v else g j' p')) := by
  rw [rdL_tab h, tab_set, tab_set]
  refine tab_congr fun i _ => ?_
  by_cases c : i = j
  · rw [if_pos c]
    refine tab_congr fun k _ => ?_
    by_cases e : k = p
    · rw [if_pos e, if_pos ⟨c, e⟩]
    · rw [if_neg e, if_neg (fun x => e x.2), c]
  · rw [if_neg c]
    refine tab_congr fun k _ => ?_
    rw [if_neg (fun x => c x.1)]
section
variable (s t : ByteArray) (L st : Nat) (hs : 1 ≤ s.size ∧ s.size ≤ 14) (ht : 1 ≤ t.size ∧ t.size ≤ 12) (hL : 1 ≤ L ∧ L ≤ 15)
include hs ht hL
abbrev row2 (H : Nat) (g : Nat → Nat → Int) : List (List Int) := tab (H + 1) fun j => tab (s.size + 2) (g j)
theorem row2_congr {H : Nat} {f g : Nat → Nat → Int} (h : ∀ i, i < H + 1 → ∀ p, p < s.size + 2 → f i p = g i p) : row2 s H f = row2 s H g :=
  tab_congr fun i hi => tab_congr fun p hp => h i hi p hp
abbrev cF (H j p : Nat) : Nat → Nat := fun q => if (Tide.near L p q && dryN s t p (st + H - (H - j - 1 + 1))) = true then bk s t L (st + H) (H - j - 1) q else 0
theorem cnt_l3 (H j p : Nat) (hb : st + H ≤ 5000) (hj : j < H) (hp : p < s.size + 1) (r : List (List Int)) (d : Nat) : ∀ (q : Nat) (g : Nat → Nat → Int), q + d = s.size + 2 → g j p = ((acc cap (cF s t L st H j p) q : Nat) : Int) →
    Ev (fun k => impl_crossing_counts.l2 k (st : Int) (row2 s H fun j' p' => if j' = j ∧ p' = p then ((acc cap (cF s t L st H j p) (s.size + 2) : Nat) : Int) else g j' p') (j : Int) ((s.size + 1 : Nat) : Int) ((p + 1 : Nat) : Int) s t (L : Int)) r →
    Ev (fun k => impl_crossing_counts.l3 k (st : Int) (row2 s H g) (j : Int) (p : Int) ((s.size + 1 : Nat) : Int) (p : Int) (tab (s.size + 2) fun q => ((bk s t L (st + H) (H - j - 1) q : Nat) : Int)) ((s.size + 2 : Nat) : Int) (q : Int) s t (L : Int)) r := by
  have ewp := Aside0.mk (show wrap64 ((p : Int) + 1) = ((p + 1 : Nat) : Int) from w_nat (by omega))
  have ewh := Aside0.mk (show wrap64 ((st : Int) + (j : Int)) = ((st + j : Nat) : Int) from by rw [w_id (by omega) (by omega)]; omega)
  have eh : st + H - (H - j - 1 + 1) = st + j := by omega
  have hp2 : p < s.size + 2 := by omega
  have hj2 : j < H + 1 := by omega
  induction d with
  | zero =>
    intro q g hq hg hE
    obtain rfl : q = s.size + 2 := by omega
    refine Ev.step (fun k => ?_) hE
    simp only [impl_crossing_counts.l3, ewp.out]
    rw [if_neg (by omega)]
    congr 1
    refine row2_congr s t L hs ht hL fun i _ k _ => ?_
    by_cases c : i = j ∧ k = p
    · rw [if_pos c, c.1, c.2, hg]
    · rw [if_neg c]
  | succ d ih =>
    intro q g hq hg hE
    have ewq := Aside0.mk (show wrap64 ((q : Int) + 1) = ((q + 1 : Nat) : Int) from w_nat (by omega))
    have hq2 : q < s.size + 2 := by omega
    have c1 : (q : Int) < ((s.size + 2 : Nat) : Int) := by omega
    have c2 : 0 ≤ (q : Int) := by omega
    have c3 : 0 ≤ (j : Int) := by omega
    have c4 : (j : Int) < ((H + 1 : Nat) : Int) := by omega
    have c5 : 0 ≤ (p : Int) := by omega
    have c6 : (p : Int) < ((s.size + 2 : Nat) : Int) := by omega
    have skip : cF s t L st H j p q = 0 → Ev (fun k => impl_crossing_counts.l3 k (st : Int) (row2 s H g) (j : Int) (p : Int) ((s.size + 1 : Nat) : Int) (p : Int) (tab (s.size + 2) fun q => ((bk s t L (st + H) (H - j - 1) q : Nat) : Int)) ((s.size + 2 : Nat) : Int) ((q + 1 : Nat) : Int) s t (L : Int)) r :=
      fun h => ih (q + 1) g (by omega) (by rw [acc_skip h]; exact hg) hE
    cases hn : Tide.near L p q with
    | false =>
      refine Ev.step (fun k => ?_) (skip (by simp only [cF, hn, Bool.false_and, Bool.false_eq_true, if_false]))
      simp only [impl_crossing_counts.l3, tab_len, ewq.out]
      rw [if_pos c1, if_pos c2, if_pos c1, near_nat s t L hs ht hL p q hp2 hq2, hn]
      simp only [Option.bind_some, Bool.false_eq_true, if_false]
    | true =>
      cases hd : dryN s t p (st + j) with
      | false =>
        refine Ev.step (fun k => ?_) (skip (by simp only [cF, eh, hn, hd, Bool.and_false, Bool.false_eq_true, if_false]))
        simp only [impl_crossing_counts.l3, tab_len, ewq.out, ewh.out]
        rw [if_pos c1, if_pos c2, if_pos c1, near_nat s t L hs ht hL p q hp2 hq2, hn]
        simp only [Option.bind_some, if_true]
        rw [dry_eq, dry_nat s t L hs ht hL p _ hp2, hd]
        simp only [Option.bind_some, Bool.false_eq_true, if_false]
      | true =>
        have hf : cF s t L st H j p q = bk s t L (st + H) (H - j - 1) q := by simp only [cF, eh, hn, hd, Bool.and_true, if_true]
        refine Ev.step (fun k => ?_) (ih (q + 1) (fun j' p' => if j' = j ∧ p' = p then ((acc cap (cF s t L st H j p) (q + 1) : Nat) : Int) else g j' p') (by omega) (if_pos ⟨rfl, rfl⟩) ?_)
        · simp only [impl_crossing_counts.l3, tab_len, ewq.out, ewh.out]
          rw [if_pos c1, if_pos c2, if_pos c1, near_nat s t L hs ht hL p q hp2 hq2, hn]
          simp only [Option.bind_some, if_true]
          rw [dry_eq, dry_nat s t L hs ht hL p _ hp2, hd]
          simp only [Option.bind_some, if_true]
          rw [if_pos c3, if_pos c4, if_pos c5, rdL_tab hj2, tab_len, if_pos c6, rd_tab hp2, rd_tab hq2, hg, mn_cap (acc_le _) (bk_le _ _ _ _ _ _), ← hf]
          rw [show ((j : Int)).toNat = j by omega, show ((p : Int)).toNat = p by omega]
          have := tab2_set (N := H + 1) (P := s.size + 2) (g := g) (j := j) (p := p) (v := ((acc cap (cF s t L st H j p) (q + 1) : Nat) : Int)) hj2
          rw [rdL_tab hj2] at this
          exact congrArg (fun x => impl_crossing_counts.l3 k (st : Int) x (j : Int) (p : Int) ((s.size + 1 : Nat) : Int) (p : Int) (tab (s.size + 2) fun q => ((bk s t L (st + H) (H - j - 1) q : Nat) : Int)) ((s.size + 2 : Nat) : Int) ((q + 1 : Nat) : Int) s t (L : Int)) this
        · refine Ev.congr (fun k => ?_) hE
          congr 1
          refine row2_congr s t L hs ht hL fun i _ k _ => ?_
          by_cases c : i = j ∧ k = p
          · rw [if_pos c, if_pos c]
          · rw [if_neg c, if_neg c, if_neg c]
abbrev cG (H j p : Nat) : Nat → Nat → Int := fun j' p' => if j < j' ∨ (j' = j ∧ p' < p) then ((bk s t L (st + H) (H - j') p' : Nat) : Int) else 0
abbrev cD (H n : Nat) : Nat → Nat → Int := fun j' p' => if n ≤ j' then ((bk s t L (st + H) (H - j') p' : Nat) : Int) else 0
theorem bk_row (H j p : Nat) (hj : j < H) (hp : p < s.size + 1) : bk s t L (st + H) (H - j) p = acc cap (cF s t L st H j p) (s.size + 2) := by
  obtain ⟨m, hm⟩ : ∃ m, H - j = m + 1 := ⟨H - j - 1, by omega⟩
  have h2 : H - j - 1 = m := by omega
  unfold cF
  rw [h2, hm]
  simp only [bk]
  rw [if_pos hp]
theorem bk_far (H j : Nat) (hj : j < H) : bk s t L (st + H) (H - j) (s.size + 1) = 0 := by
  obtain ⟨m, hm⟩ : ∃ m, H - j = m + 1 := ⟨H - j - 1, by omega⟩
  rw [hm]
  simp only [bk]
  rw [if_neg (by omega)]
theorem cnt_l2 (H j : Nat) (hb : st + H ≤ 5000) (hj : j < H) (r : List (List Int)) (d : Nat) : ∀ (p : Nat), p + d = s.size + 1 →
    Ev (fun k => impl_crossing_counts.l1 k (st : Int) (row2 s H (cD s t L st H j)) ((j : Int) - 1) s t (L : Int)) r →
    Ev (fun k => impl_crossing_counts.l2 k (st : Int) (row2 s H (cG s t L st H j p)) (j : Int) ((s.size + 1 : Nat) : Int) (p : Int) s t (L : Int)) r := by
  have ewj := Aside0.mk (show wrap64 ((j : Int) - 1) = (j : Int) - 1 from w_id (by omega) (by omega))
  have ewn := Aside0.mk (show wrap64 ((j : Int) + 1) = ((j + 1 : Nat) : Int) from w_nat (by omega))
  induction d with
  | zero =>
    intro p hp hE
    obtain rfl : p = s.size + 1 := by omega
    refine Ev.step (fun k => ?_) hE
    simp only [impl_crossing_counts.l2, ewj.out]
    rw [if_neg (by omega)]
    congr 1
    refine row2_congr s t L hs ht hL fun i _ k hk => ?_
    simp only [cG, cD]
    by_cases c : j < i
    · rw [if_pos (.inl c), if_pos (by omega)]
    · by_cases e : i = j
      · by_cases f : k < s.size + 1
        · rw [if_pos (.inr ⟨e, f⟩), if_pos (by omega)]
        · obtain rfl : k = s.size + 1 := by omega
          rw [if_neg (by omega), if_pos (by omega), e, bk_far s t L st hs ht hL H j hj]; rfl
      · rw [if_neg (by omega), if_neg (by omega)]
  | succ d ih =>
    intro p hp hE
    have hp1 : p < s.size + 1 := by omega
    have hj1 : j + 1 < H + 1 := by omega
    have erow : (fun q => cG s t L st H j p (j + 1) q) = fun q => ((bk s t L (st + H) (H - j - 1) q : Nat) : Int) := by
      funext q
      simp only [cG]
      rw [if_pos (.inl (by omega)), show H - (j + 1) = H - j - 1 by omega]
    refine Ev.step (f := fun k => impl_crossing_counts.l3 k (st : Int) (row2 s H (cG s t L st H j p)) (j : Int) (p : Int) ((s.size + 1 : Nat) : Int) (p : Int) (tab (s.size + 2) fun q => ((bk s t L (st + H) (H - j - 1) q : Nat) : Int)) ((s.size + 2 : Nat) : Int) ((0 : Nat) : Int) s t (L : Int)) (fun k => ?_) ?_
    · simp only [impl_crossing_counts.l2, tab_len, ewn.out]
      rw [if_pos (by omega), if_pos (by omega), if_pos (by omega), rdL_tab hj1, tab_len]
      show impl_crossing_counts.l3 k _ _ _ _ _ _ (tab (s.size + 2) (fun q => cG s t L st H j p (j + 1) q)) _ _ _ _ _ = _
      rw [erow]; rfl
    · refine cnt_l3 s t L st hs ht hL H j p hb hj hp1 r (s.size + 2) 0 _ (by omega) ?_ ?_
      · simp only [cG, acc]; rw [if_neg (by omega)]; rfl
      · refine Ev.congr (fun k => ?_) (ih (p + 1) (by omega) hE)
        congr 1
        refine row2_congr s t L hs ht hL fun i _ k _ => ?_
        simp only [cG]
        by_cases c : i = j ∧ k = p
        · rw [if_pos c, if_pos (.inr ⟨c.1, by omega⟩), c.1, c.2, bk_row s t L st hs ht hL H j p hj hp1]
        · rw [if_neg c]
          by_cases e : j < i ∨ (i = j ∧ k < p)
          · rw [if_pos e, if_pos (by omega)]
          · rw [if_neg e, if_neg (by omega)]
theorem cnt_l1 (H : Nat) (hb : st + H ≤ 5000) : ∀ n, n ≤ H →
    Ev (fun k => impl_crossing_counts.l1 k (st : Int) (row2 s H (cD s t L st H n)) ((n : Int) - 1) s t (L : Int)) (row2 s H (cD s t L st H 0)) := by
  intro n
  induction n with
  | zero =>
    intro _
    refine Ev.step (fun k => ?_) (Ev.now _)
    simp only [impl_crossing_counts.l1]
    rw [if_neg (by omega)]
  | succ n ih =>
    intro hn
    have e1 := Aside0.mk (show wrap64 (((s.size + 2 : Nat) : Int) - 1) = ((s.size + 1 : Nat) : Int) from by rw [w_id (by omega) (by omega)]; omega)
    have eG : row2 s H (cD s t L st H (n + 1)) = row2 s H (cG s t L st H n 0) := by
      refine row2_congr s t L hs ht hL fun i _ k _ => ?_
      simp only [cD, cG]
      by_cases c : n + 1 ≤ i
      · rw [if_pos c, if_pos (by omega)]
      · rw [if_neg c, if_neg (by omega)]
    refine Ev.step (f := fun k => impl_crossing_counts.l2 k (st : Int) (row2 s H (cG s t L st H n 0)) (n : Int) ((s.size + 1 : Nat) : Int) ((0 : Nat) : Int) s t (L : Int)) (fun k => ?_) (cnt_l2 s t L st hs ht hL H n hb (by omega) _ (s.size + 1) 0 (by omega) (ih (by omega)))
    rw [eG, show ((n + 1 : Nat) : Int) - 1 = (n : Int) by omega]
    simp only [impl_crossing_counts.l1]
    rw [if_pos (by omega), places_eq s t _ hs.2, Option.bind_some, e1.out]; rfl
theorem cnt_l0 (H : Nat) (hb : st + H ≤ 5000) (d : Nat) : ∀ i, i + d = H + 1 →
    Ev (fun k => impl_crossing_counts.l0 k (st : Int) ((st + H : Nat) : Int) (tab (H + 1) fun j => if j < i then tab (s.size + 2) (fun _ => (0 : Int)) else []) ((H + 1 : Nat) : Int) (i : Int) s t (L : Int)) (row2 s H (cD s t L st H 0)) := by
  have e1 := Aside0.mk (show wrap64 (((s.size + 2 : Nat) : Int) - 1) = ((s.size + 1 : Nat) : Int) from by rw [w_id (by omega) (by omega)]; omega)
  have e2 := Aside0.mk (show wrap64 (((st + H : Nat) : Int) - (st : Int)) = (H : Int) from by rw [w_id (by omega) (by omega)]; omega)
  have e3 := Aside0.mk (show wrap64 ((H : Int) - 1) = (H : Int) - 1 from w_id (by omega) (by omega))
  have e4 : (((s.size + 2 : Nat) : Int)).toNat = s.size + 2 := by omega
  induction d with
  | zero =>
    intro i hi
    obtain rfl : i = H + 1 := by omega
    have ez : (tab (H + 1) fun j => if j < H + 1 then tab (s.size + 2) (fun _ => (0 : Int)) else []) = row2 s H (fun _ _ => 0) := tab_congr fun j hj => if_pos hj
    rw [ez]
    have ed : row2 s H (fun j' p' => if j' = H ∧ p' = s.size + 1 then 1 else 0) = row2 s H (cD s t L st H H) := by
      refine row2_congr s t L hs ht hL fun i hi k hk => ?_
      simp only [cD]
      by_cases c : H ≤ i
      · obtain rfl : i = H := by omega
        rw [if_pos c, Nat.sub_self]
        simp only [bk]
        by_cases e : k = s.size + 1
        · rw [if_pos ⟨trivial, e⟩, if_pos e]; rfl
        · rw [if_neg (fun x => e x.2), if_neg e]; rfl
      · rw [if_neg c, if_neg (by omega)]
    refine Ev.step (fun k => ?_) (cnt_l1 s t L st hs ht hL H hb H (Nat.le_refl _))
    rw [← ed]
    simp only [impl_crossing_counts.l0, tab_len, e2.out]
    rw [if_neg (by omega), if_pos (by omega), if_pos (by omega), places_eq s t _ hs.2, Option.bind_some, e1.out, if_pos (by omega), rdL_tab (by omega), tab_len, if_pos (by omega), e3.out]
    rw [show ((H : Int)).toNat = H by omega, show (((s.size + 1 : Nat) : Int)).toNat = s.size + 1 by omega]
    have := tab2_set (N := H + 1) (P := s.size + 2) (g := fun _ _ => 0) (j := H) (p := s.size + 1) (v := 1) (by omega)
    rw [rdL_tab (by omega)] at this
    exact congrArg (fun x => impl_crossing_counts.l1 k (st : Int) x ((H : Int) - 1) s t (L : Int)) this
  | succ d ih =>
    intro i hi
    have ewi := Aside0.mk (show wrap64 ((i : Int) + 1) = ((i + 1 : Nat) : Int) from w_nat (by omega))
    refine Ev.step (fun k => ?_) (ih (i + 1) (by omega))
    simp only [impl_crossing_counts.l0, tab_len, ewi.out]
    rw [if_pos (by omega), places_eq s t _ hs.2, Option.bind_some, if_pos (by omega), if_pos (by omega), if_pos (by omega), if_pos (by omega), e4, tab_const, show ((i : Int)).toNat = i by omega, tab_set]
    congr 1
    refine tab_congr fun j _ => ?_
    by_cases c : j = i
    · rw [if_pos c, if_pos (by omega)]
    · rw [if_neg c]
      by_cases e : j < i
      · rw [if_pos e, if_pos (by omega)]
      · rw [if_neg e, if_neg (by omega)]
theorem counts_ok (H : Nat) (hb : st + H ≤ 5000) : Ev (fun k => impl_crossing_counts.f k s t (L : Int) (st : Int) ((st + H : Nat) : Int)) (row2 s H fun j p => ((bk s t L (st + H) (H - j) p : Nat) : Int)) := by
  have h := cnt_l0 s t L st hs ht hL H hb (H + 1) 0 (by omega)
  have er : row2 s H (cD s t L st H 0) = row2 s H fun j p => ((bk s t L (st + H) (H - j) p : Nat) : Int) := row2_congr s t L hs ht hL fun i _ k _ => by simp only [cD]; rw [if_pos (Nat.zero_le _)]
  rw [er] at h
  refine Ev.congr (fun k => ?_) h
  simp only [impl_crossing_counts.f]
  rw [w_id (n := ((st + H : Nat) : Int) - (st : Int)) (by omega) (by omega), show ((st + H : Nat) : Int) - (st : Int) = (H : Int) by omega, w_nat (n := H) (by omega), if_pos (by omega), if_pos (by omega), Option.bind_some, show (((H + 1 : Nat) : Int)).toNat = H + 1 by omega, tab_const, tab_len]
  exact congrArg (fun x => impl_crossing_counts.l0 k (st : Int) ((st + H : Nat) : Int) x ((H + 1 : Nat) : Int) ((0 : Nat) : Int) s t (L : Int)) (tab_congr fun j _ => (if_neg (by omega)).symm)
end

def sm : Nat → (Nat → Nat) → Nat
  | 0, _ => 0
  | n + 1, f => sm n f + f n
theorem sm_congr {f g : Nat → Nat} : ∀ {n}, (∀ i, i < n → f i = g i) → sm n f = sm n g
  | 0, _ => rfl
  | n + 1, h => by simp only [sm]; rw [sm_congr fun i hi => h i (by omega), h n (by omega)]
theorem sm_zero : ∀ n, sm n (fun _ => 0) = 0
  | 0 => rfl
  | n + 1 => by simp only [sm]; rw [sm_zero n]
theorem sm_add (f g : Nat → Nat) : ∀ n, sm n (fun i => f i + g i) = sm n f + sm n g
  | 0 => rfl
  | n + 1 => by simp only [sm]; rw [sm_add f g n]; omega
theorem sm_mul (c : Nat) (f : Nat → Nat) : ∀ n, sm n (fun i => c * f i) = c * sm n f
  | 0 => by simp [sm]
  | n + 1 => by simp only [sm]; rw [sm_mul c f n, Nat.mul_add]
theorem sm_mulr (c : Nat) (f : Nat → Nat) : ∀ n, sm n (fun i => f i * c) = sm n f * c
  | 0 => by simp [sm]
  | n + 1 => by simp only [sm]; rw [sm_mulr c f n, Nat.add_mul]
theorem sm_swap (m : Nat) (f : Nat → Nat → Nat) : ∀ n, sm n (fun i => sm m (fun j => f i j)) = sm m (fun j => sm n (fun i => f i j))
  | 0 => by simp only [sm]; exact (sm_zero m).symm
  | n + 1 => by simp only [sm]; rw [sm_swap m f n, ← sm_add]
theorem sm_le {f : Nat → Nat} {B : Nat} : ∀ {n}, (∀ i, i < n → f i ≤ B) → sm n f ≤ n * B
  | 0, _ => by simp [sm]
  | n + 1, h => by
    have := sm_le (n := n) fun i hi => h i (by omega)
    have := h n (by omega)
    simp only [sm]; rw [Nat.add_mul, Nat.one_mul]; omega
theorem sm_one (a : Nat) (g : Nat → Nat) : ∀ n, sm n (fun i => if i = a then g i else 0) = if a < n then g a else 0
  | 0 => by simp [sm]
  | n + 1 => by
    simp only [sm]; rw [sm_one a g n]
    by_cases c : n = a
    · subst c; rw [if_neg (by omega), if_pos rfl, if_pos (by omega)]; omega
    · rw [if_neg c]
      by_cases e : a < n
      · rw [if_pos e, if_pos (by omega), Nat.add_zero]
      · rw [if_neg e, if_neg (by omega)]
theorem acc_sm {M : Nat} {f : Nat → Nat} : ∀ n, acc M f n = min (sm n f) M
  | 0 => by simp [acc, sm]
  | n + 1 => by simp only [acc, sm]; rw [acc_sm n]; omega
/-- The sum of d of them from q. -/
def sf (f : Nat → Nat) : Nat → Nat → Nat
  | _, 0 => 0
  | q, d + 1 => f q + sf f (q + 1) d
theorem sf_sm (f : Nat → Nat) (n : Nat) : ∀ d q, q + d ≤ n → sm n (fun i => if q ≤ i ∧ i < q + d then f i else 0) = sf f q d
  | 0, q, _ => by
    rw [sm_congr (g := fun _ => 0) fun i _ => if_neg (by omega)]
    exact sm_zero n
  | d + 1, q, h => by
    rw [sm_congr (g := fun i => (if i = q then f i else 0) + (if q + 1 ≤ i ∧ i < q + 1 + d then f i else 0)) fun i _ => ?_, sm_add, sm_one, if_pos (by omega), sf_sm f n d (q + 1) (by omega)]
    · rfl
    · by_cases c : i = q
      · rw [if_pos c, if_pos (by omega), if_neg (by omega)]; rfl
      · rw [if_neg c]
        by_cases e : q ≤ i ∧ i < q + (d + 1)
        · rw [if_pos e, if_pos (by omega)]; omega
        · rw [if_neg e, if_neg (by omega)]
theorem sf_le {f : Nat → Nat} {B : Nat} (h : ∀ i, f i ≤ B) : ∀ d q, sf f q d ≤ d * B
  | 0, q => by simp [sf]
  | d + 1, q => by
    have := sf_le h d (q + 1)
    have := h q
    simp only [sf]; rw [Nat.add_mul, Nat.one_mul]; omega
/-- Ways from the near bank to p, told k hours after the start. -/
def fw (s t : ByteArray) (L st : Nat) : Nat → Nat → Nat
  | 0, p => if p = 0 then 1 else 0
  | k + 1, p => if dryN s t p (st + k + 1) = true then sf (fun q => fw s t L st k q) (p - L) (min (s.size + 1) (p + L + 1) - (p - L)) else 0
theorem pow_small {k : Nat} (h : k ≤ 10) : 16 ^ k ≤ 1099511627776 := by
  have : 16 ^ k ≤ 16 ^ 10 := Nat.pow_le_pow_right (by decide) h
  exact Nat.le_trans this (by decide)
theorem fw_le (s t : ByteArray) (L st : Nat) (hs : s.size ≤ 14) : ∀ k p, fw s t L st k p ≤ 16 ^ k
  | 0, p => by simp only [fw]; split <;> decide
  | k + 1, p => by
    simp only [fw]; split
    · refine Nat.le_trans (sf_le (fun i => fw_le s t L st hs k i) _ _) ?_
      rw [Nat.pow_succ, Nat.mul_comm]
      exact Nat.mul_le_mul_left _ (by omega)
    · exact Nat.zero_le _
theorem bk_pow (s t : ByteArray) (L e : Nat) (hs : s.size ≤ 14) : ∀ d p, bk s t L e d p ≤ 16 ^ d
  | 0, p => by simp only [bk]; split <;> decide
  | d + 1, p => by
    simp only [bk]; split
    · rw [acc_sm]
      refine Nat.le_trans (Nat.min_le_left _ _) (Nat.le_trans (sm_le (B := 16 ^ d) fun i _ => ?_) ?_)
      · split
        · exact bk_pow s t L e hs d i
        · exact Nat.zero_le _
      · rw [Nat.pow_succ, Nat.mul_comm]; exact Nat.mul_le_mul_left _ (by omega)
    · exact Nat.zero_le _
theorem bk_sm (s t : ByteArray) (L e : Nat) (hs : s.size ≤ 14) (d p : Nat) (hd : d + 1 ≤ 10) (hp : p < s.size + 1) : bk s t L e (d + 1) p = sm (s.size + 2) (fun q => if (Tide.near L p q && dryN s t p (e - (d + 1))) = true then bk s t L e d q else 0) := by
  simp only [bk]
  rw [if_pos hp, acc_sm]
  refine Nat.min_eq_left ?_
  have hm : (s.size + 2) * 16 ^ d ≤ 16 ^ (d + 1) := by rw [Nat.pow_succ, Nat.mul_comm]; exact Nat.mul_le_mul_left _ (by omega)
  refine Nat.le_trans (Nat.le_trans (sm_le (B := 16 ^ d) fun i _ => ?_) hm) (Nat.le_trans (pow_small hd) (by decide))
  split
  · exact bk_pow s t L e hs d i
  · exact Nat.zero_le _
theorem bk_dry (s t : ByteArray) (L e : Nat) : ∀ d p, dryN s t p (e - d) = false → bk s t L e d p = 0
  | 0, p, h => by
    simp only [bk]
    by_cases c : p = s.size + 1
    · rw [c, dryN_end] at h; cases h
    · rw [if_neg c]
  | d + 1, p, h => by
    simp only [bk]
    split
    · exact acc_zero (fun q => by rw [h, Bool.and_false]; rfl) _
    · rfl
theorem fw_dry (s t : ByteArray) (L st : Nat) : ∀ k p, dryN s t p (st + k) = false → fw s t L st k p = 0
  | 0, p, h => by
    simp only [fw]
    by_cases c : p = 0
    · rw [c, dryN_bank] at h; cases h
    · rw [if_neg c]
  | k + 1, p, h => by
    simp only [fw]
    rw [if_neg (by rw [show st + k + 1 = st + (k + 1) by omega, h]; decide)]
theorem meet_step (s t : ByteArray) (L st H : Nat) (hs : s.size ≤ 14) (hL : 1 ≤ L) (hH : H ≤ 10) (k : Nat) (hk : k < H) :
    sm (s.size + 2) (fun p => fw s t L st k p * bk s t L (st + H) (H - k) p) = sm (s.size + 2) (fun p => fw s t L st (k + 1) p * bk s t L (st + H) (H - (k + 1)) p) := by
  obtain ⟨m, hm⟩ : ∃ m, H - k = m + 1 := ⟨H - k - 1, by omega⟩
  have hm2 : H - (k + 1) = m := by omega
  have h1 : st + H - (m + 1) = st + k := by omega
  have h2 : st + H - m = st + k + 1 := by omega
  rw [hm, hm2]
  have hl : ∀ p, p < s.size + 2 → fw s t L st k p * bk s t L (st + H) (m + 1) p = sm (s.size + 2) (fun q => if p < s.size + 1 ∧ Tide.near L p q = true then fw s t L st k p * bk s t L (st + H) m q else 0) := by
    intro p hp
    by_cases c : p < s.size + 1
    · rw [bk_sm s t L _ hs m p (by omega) c, ← sm_mul, h1]
      refine sm_congr fun q _ => ?_
      cases hn : Tide.near L p q with
      | false => rw [Bool.false_and, if_neg (by decide), if_neg (fun x => by cases x.2), Nat.mul_zero]
      | true =>
        rw [Bool.true_and, if_pos (show p < s.size + 1 ∧ true = true from ⟨c, rfl⟩)]
        cases hd : dryN s t p (st + k) with
        | false => rw [fw_dry s t L st k p hd, Nat.zero_mul, Nat.zero_mul]
        | true => rw [if_pos rfl]
    · rw [sm_congr (g := fun _ => 0) fun q _ => if_neg (fun x => c x.1), sm_zero]
      simp only [bk]; rw [if_neg c, Nat.mul_zero]
  have hr : ∀ q, q < s.size + 2 → fw s t L st (k + 1) q * bk s t L (st + H) m q = sm (s.size + 2) (fun p => if p < s.size + 1 ∧ Tide.near L p q = true then fw s t L st k p * bk s t L (st + H) m q else 0) := by
    intro q hq
    cases hd : dryN s t q (st + k + 1) with
    | false =>
      have hz : bk s t L (st + H) m q = 0 := bk_dry s t L (st + H) m q (by rw [h2]; exact hd)
      rw [hz, Nat.mul_zero, sm_congr (g := fun _ => 0) fun p _ => ?_, sm_zero]
      split
      · exact Nat.mul_zero _
      · rfl
    | true =>
      have hf : fw s t L st (k + 1) q = sm (s.size + 2) (fun p => if q - L ≤ p ∧ p < q - L + (min (s.size + 1) (q + L + 1) - (q - L)) then fw s t L st k p else 0) := by
        simp only [fw]
        rw [if_pos hd, sf_sm _ _ _ _ (by omega)]
      rw [hf, ← sm_mulr]
      refine sm_congr fun p _ => ?_
      by_cases c : p < s.size + 1 ∧ Tide.near L p q = true
      · rw [if_pos c]
        have c2 := c.2
        simp only [Tide.near, decide_eq_true_eq] at c2
        rw [if_pos (by omega)]
      · rw [if_neg c]
        rw [if_neg (fun x => c ⟨by omega, by simp only [Tide.near, decide_eq_true_eq]; omega⟩), Nat.zero_mul]
  rw [sm_congr hl, sm_congr hr, sm_swap]
theorem meet (s t : ByteArray) (L st H : Nat) (hs : s.size ≤ 14) (hL : 1 ≤ L) (hH : H ≤ 10) : fw s t L st H (s.size + 1) = bk s t L (st + H) H 0 := by
  have h : ∀ k, k ≤ H → sm (s.size + 2) (fun p => fw s t L st k p * bk s t L (st + H) (H - k) p) = bk s t L (st + H) H 0 := by
    intro k
    induction k with
    | zero =>
      intro _
      rw [sm_congr (g := fun p => if p = 0 then bk s t L (st + H) (H - 0) p else 0) fun p _ => ?_, sm_one, if_pos (by omega), Nat.sub_zero]
      simp only [fw]
      by_cases c : p = 0
      · rw [if_pos c, if_pos c, Nat.one_mul]
      · rw [if_neg c, if_neg c, Nat.zero_mul]
    | succ k ih => intro hk; rw [← meet_step s t L st H hs hL hH k (by omega)]; exact ih (by omega)
  have h2 := h H (Nat.le_refl _)
  rw [sm_congr (g := fun p => if p = s.size + 1 then fw s t L st H p else 0) fun p _ => ?_, sm_one, if_pos (by omega)] at h2
  · exact h2
  · rw [Nat.sub_self]
    simp only [bk]
    by_cases c : p = s.size + 1
    · rw [if_pos c, if_pos c, Nat.mul_one]
    · rw [if_neg c, if_neg c, Nat.mul_zero]

theorem w_sum2 {a b : Nat} (ha : a ≤ 1000000000000000000) (hb : b ≤ 1000000000000000000) : wrap64 ((a : Int) + (b : Int)) = ((a + b : Nat) : Int) := by
  rw [w_big (by omega) (by omega)]; omega
section
variable (s t : ByteArray) (L st : Nat) (hs : 1 ≤ s.size ∧ s.size ≤ 14) (ht : 1 ≤ t.size ∧ t.size ≤ 12) (hL : 1 ≤ L ∧ L ≤ 15)
include hs ht hL
abbrev nrow (g : Nat → Nat) : List Int := tab (s.size + 2) fun i => ((g i : Nat) : Int)
theorem nrow_congr {f g : Nat → Nat} (h : ∀ i, i < s.size + 2 → f i = g i) : nrow s f = nrow s g := tab_congr fun i hi => congrArg (fun x : Nat => (x : Int)) (h i hi)
theorem ways_l2 (H k p : Nat) (hst : st ≤ 2000) (hk : k < H) (hH : H ≤ 10) (hp : p < s.size + 2) (r : Int × Bool) (d : Nat) : ∀ (q : Nat) (g : Nat → Nat), q + d = min (s.size + 1) (p + L + 1) → g p ≤ q * 1099511627776 →
    Ev (fun j => spec_CountTideWays.l1 j s t (L : Int) (st : Int) (H : Int) ((s.size + 1 : Nat) : Int) (nrow s (fw s t L st k)) ((st + k : Nat) : Int) (nrow s fun i => if i = p then g p + (if dryN s t p (st + k + 1) = true then sf (fun q => fw s t L st k q) q d else 0) else g i) ((s.size + 2 : Nat) : Int) ((p + 1 : Nat) : Int)) r →
    Ev (fun j => spec_CountTideWays.l2 j s t (L : Int) (st : Int) (H : Int) ((s.size + 1 : Nat) : Int) (nrow s (fw s t L st k)) ((st + k : Nat) : Int) (nrow s g) (p : Int) (q : Int) ((s.size + 2 : Nat) : Int) (p : Int)) r := by
  have ewp := Aside0.mk (show wrap64 ((p : Int) + 1) = ((p + 1 : Nat) : Int) from w_nat (by omega))
  have ewl := Aside0.mk (show wrap64 ((p : Int) + (L : Int)) = ((p + L : Nat) : Int) from by rw [w_id (by omega) (by omega)]; omega)
  have ewh := Aside0.mk (show wrap64 (((st + k : Nat) : Int) + 1) = ((st + k + 1 : Nat) : Int) from w_nat (by omega))
  have hsame : ∀ (b : Nat) (g : Nat → Nat), b = 0 → nrow s (fun i => if i = p then g p + b else g i) = nrow s g := by
    intro b g hb
    refine nrow_congr s t L hs ht hL fun i _ => ?_
    by_cases c : i = p
    · rw [if_pos c, hb, c]; rfl
    · rw [if_neg c]
  induction d with
  | zero =>
    intro q g hq hb hE
    rw [hsame _ g (by split <;> rfl)] at hE
    refine Ev.step (fun j => ?_) hE
    simp only [spec_CountTideWays.l2, ewp.out, ewl.out]
    by_cases c : (q : Int) < ((s.size + 1 : Nat) : Int)
    · rw [if_pos c, if_neg (by omega)]
    · rw [if_neg c]
  | succ d ih =>
    intro q g hq hb hE
    have c1 : (q : Int) < ((s.size + 1 : Nat) : Int) := by omega
    have c2 : (q : Int) ≤ ((p + L : Nat) : Int) := by omega
    have c3 : 0 ≤ (p : Int) := by omega
    have c4 : (p : Int) < ((s.size + 2 : Nat) : Int) := by omega
    have c5 : 0 ≤ (q : Int) := by omega
    have c6 : (q : Int) < ((s.size + 2 : Nat) : Int) := by omega
    have ewq := Aside0.mk (show wrap64 ((q : Int) + 1) = ((q + 1 : Nat) : Int) from w_nat (by omega))
    have hq2 : q < s.size + 2 := by omega
    cases hd : dryN s t p (st + k + 1) with
    | false =>
      rw [hsame _ g (by rw [hd]; rfl)] at hE
      refine Ev.step (fun j => ?_) hE
      simp only [spec_CountTideWays.l2, ewp.out, ewl.out, ewh.out]
      rw [if_pos c1, if_pos c2, dry_nat s t L hs ht hL p _ hp, hd]
      simp only [Option.bind_some, Bool.false_eq_true, if_false]
    | true =>
      have hfl : fw s t L st k q ≤ 1099511627776 := Nat.le_trans (fw_le s t L st hs.2 k q) (pow_small (by omega))
      have hb2 : g p + fw s t L st k q ≤ (q + 1) * 1099511627776 := by omega
      have hsum := Aside0.mk (w_sum2 (a := g p) (b := fw s t L st k q) (by omega) (by omega))
      refine Ev.step (fun j => ?_) (ih (q + 1) (fun i => if i = p then g p + fw s t L st k q else g i) (by omega) (by rw [if_pos rfl]; exact hb2) ?_)
      · simp only [spec_CountTideWays.l2, tab_len, ewp.out, ewl.out, ewh.out, ewq.out]
        rw [if_pos c1, if_pos c2, dry_nat s t L hs ht hL p _ hp, hd]
        simp only [Option.bind_some, if_true]
        rw [if_pos c3, if_pos c4, if_pos c5, if_pos c6, rd_tab hp, rd_tab hq2, hsum.out, show ((p : Int)).toNat = p by omega, tab_set]
        congr 1
        refine tab_congr fun i _ => ?_
        by_cases c : i = p
        · simp only [if_pos c]
        · simp only [if_neg c]
      · rw [hd] at hE ⊢
        have e2 : nrow s (fun i => if i = p then (if p = p then g p + fw s t L st k q else g p) + (if true = true then sf (fun q => fw s t L st k q) (q + 1) d else 0) else if i = p then g p + fw s t L st k q else g i) = nrow s (fun i => if i = p then g p + (if true = true then sf (fun q => fw s t L st k q) q (d + 1) else 0) else g i) := by
          refine nrow_congr s t L hs ht hL fun i _ => ?_
          by_cases c : i = p
          · rw [if_pos c, if_pos c, if_pos rfl, if_pos rfl, if_pos rfl]; simp only [sf]; omega
          · rw [if_neg c, if_neg c, if_neg c]
        rw [e2]; exact hE
theorem ways_l1 (H k : Nat) (hst : st ≤ 2000) (hk : k < H) (hH : H ≤ 10) (r : Int × Bool) (d : Nat) : ∀ (p : Nat) (g : Nat → Nat), p + d = s.size + 2 → (∀ i, i < p → g i = fw s t L st (k + 1) i) → (∀ i, p ≤ i → g i = 0) →
    Ev (fun j => spec_CountTideWays.l0 j s t (L : Int) (st : Int) (H : Int) ((s.size + 1 : Nat) : Int) (nrow s (fw s t L st (k + 1))) ((st + (k + 1) : Nat) : Int)) r →
    Ev (fun j => spec_CountTideWays.l1 j s t (L : Int) (st : Int) (H : Int) ((s.size + 1 : Nat) : Int) (nrow s (fw s t L st k)) ((st + k : Nat) : Int) (nrow s g) ((s.size + 2 : Nat) : Int) (p : Int)) r := by
  have ewh := Aside0.mk (show wrap64 (((st + k : Nat) : Int) + 1) = ((st + (k + 1) : Nat) : Int) from w_nat (by omega))
  induction d with
  | zero =>
    intro p g hp h1 h2 hE
    refine Ev.step (fun j => ?_) hE
    simp only [spec_CountTideWays.l1, ewh.out]
    rw [if_neg (by omega)]
    rw [nrow_congr s t L hs ht hL (f := g) fun i hi => h1 i (by omega)]
  | succ d ih =>
    intro p g hp h1 h2 hE
    have hm : spec_l1Most.f 0 (wrap64 ((p : Int) - (L : Int))) = some ((p - L : Nat) : Int) := by
      unfold spec_l1Most.f
      rw [w_id (by omega) (by omega)]
      by_cases c : (0 : Int) > (p : Int) - (L : Int)
      · rw [if_pos c]; exact congrArg some (by omega)
      · rw [if_neg c]; exact congrArg some (by omega)
    refine Ev.step (f := fun j => spec_CountTideWays.l2 j s t (L : Int) (st : Int) (H : Int) ((s.size + 1 : Nat) : Int) (nrow s (fw s t L st k)) ((st + k : Nat) : Int) (nrow s g) (p : Int) ((p - L : Nat) : Int) ((s.size + 2 : Nat) : Int) (p : Int)) (fun j => ?_) ?_
    · simp only [spec_CountTideWays.l1]
      rw [if_pos (by omega), hm]; rfl
    · refine ways_l2 s t L st hs ht hL H k p hst hk hH (by omega) _ (min (s.size + 1) (p + L + 1) - (p - L)) (p - L) g (by omega) (by rw [h2 p (Nat.le_refl _)]; exact Nat.zero_le _) ?_
      refine ih (p + 1) _ (by omega) (fun i hi => ?_) (fun i hi => ?_) hE
      · by_cases c : i = p
        · rw [if_pos c, c, h2 p (Nat.le_refl _), Nat.zero_add]; simp only [fw]
        · rw [if_neg c]; exact h1 i (by omega)
      · rw [if_neg (by omega)]; exact h2 i (by omega)
theorem ways_l0 (H : Nat) (hst : st ≤ 2000) (hH : H ≤ 10) (d : Nat) : ∀ k, k + d = H →
    Ev (fun j => spec_CountTideWays.l0 j s t (L : Int) (st : Int) (H : Int) ((s.size + 1 : Nat) : Int) (nrow s (fw s t L st k)) ((st + k : Nat) : Int)) (((fw s t L st H (s.size + 1) : Nat) : Int), true) := by
  have e1 := Aside0.mk (show wrap64 ((st : Int) + (H : Int)) = ((st + H : Nat) : Int) from by rw [w_id (by omega) (by omega)]; omega)
  have e2 := Aside0.mk (show wrap64 (((s.size + 1 : Nat) : Int) + 1) = ((s.size + 2 : Nat) : Int) from w_nat (by omega))
  induction d with
  | zero =>
    intro k hk
    obtain rfl : k = H := by omega
    refine Ev.step (fun j => ?_) (Ev.now _)
    simp only [spec_CountTideWays.l0, e1.out, tab_len]
    rw [if_neg (by omega), if_pos (by omega), if_pos (by omega), rd_tab (by omega)]
  | succ d ih =>
    intro k hk
    refine Ev.step (fun j => ?_) (ways_l1 s t L st hs ht hL H k hst (by omega) hH _ (s.size + 2) 0 (fun _ => 0) (by omega) (fun i hi => by omega) (fun _ _ => rfl) (ih (k + 1) (by omega)))
    simp only [spec_CountTideWays.l0, e1.out, e2.out]
    rw [if_pos (by omega), if_pos (by omega), if_pos (by omega), Option.bind_some, show (((s.size + 2 : Nat) : Int)).toNat = s.size + 2 by omega, tab_const, tab_len]
    rfl
theorem ways_j0 (H : Nat) (hst : st ≤ 2000) (hH : H ≤ 10) : Ev (fun j => spec_CountTideWays.j0 j s t (L : Int) (st : Int) (H : Int) false) (((fw s t L st H (s.size + 1) : Nat) : Int), true) := by
  have e1 := Aside0.mk (show wrap64 ((s.size : Int) + 1) = ((s.size + 1 : Nat) : Int) from w_nat (by omega))
  have e2 := Aside0.mk (show wrap64 (((s.size + 1 : Nat) : Int) + 1) = ((s.size + 2 : Nat) : Int) from w_nat (by omega))
  refine Ev.step (fun j => ?_) (ways_l0 s t L st hs ht hL H hst hH H 0 (by omega))
  simp only [spec_CountTideWays.j0, e1.out, e2.out, Bool.false_eq_true, if_false]
  rw [if_pos (by omega), if_pos (by omega), Option.bind_some, show (((s.size + 2 : Nat) : Int)).toNat = s.size + 2 by omega, tab_const, tab_len, if_pos (by omega), show ((0 : Int)).toNat = 0 from rfl, tab_set]
  congr 1
  refine tab_congr fun i _ => ?_
  simp only [fw]
  by_cases c : i = 0
  · rw [if_pos c, if_pos c]; rfl
  · rw [if_neg c, if_neg c]; rfl
end

theorem FnExactCountTideWays : laws_FnExactCountTideWays.Pure := by
  intro s t l h n hs ht _ _ _
  unfold laws_FnExactCountTideWays.f
  by_cases c1 : (s.size : Int) > 1048576
  · exact ⟨0, by rw [if_pos c1]⟩
  by_cases c2 : (t.size : Int) > 1048576
  · exact ⟨0, by rw [if_neg c1, if_pos c2]⟩
  have main : ∃ r : Int × Bool, Ev (fun k => spec_CountTideWays.f k s t l h n) r ∧ Ev (fun k => impl_CountTideWays.f k s t l h n) r := by
    have hS : Ev (fun k => spec_tdAsked.f k s t l h) (((okShore s && okTide t) && okLeap l) && okHour h) := ⟨s.size + t.size + 1, fun k hk => asked_eq s t l h (by omega) (by omega) k (by omega) (by omega)⟩
    have hno : Ev (fun k => spec_CountTideWays.j0 k s t l h n true) (0, false) := Ev.step (f := fun _ => some (0, false)) (fun k => by simp only [spec_CountTideWays.j0, if_true]) (Ev.now _)
    by_cases hg : (((okShore s && okTide t) && okLeap l) && okHour h) = true
    · have eR : ((okShore s && okTide t) && okLeap l) = true := by simp only [Bool.and_eq_true] at hg ⊢; exact hg.1
      have eH : okHour h = true := by simp only [Bool.and_eq_true] at hg; exact hg.2
      by_cases hn : 0 ≤ n ∧ n ≤ 10
      · have hg' := hg
        simp only [Bool.and_eq_true, okLeap, okHour, decide_eq_true_eq] at hg'
        have z1 := okShore_size hg'.1.1.1
        have z2 := okTide_size hg'.1.1.2
        obtain ⟨L, rfl⟩ : ∃ L : Nat, l = (L : Int) := ⟨l.toNat, by omega⟩
        obtain ⟨st, rfl⟩ : ∃ st : Nat, h = (st : Int) := ⟨h.toNat, by omega⟩
        obtain ⟨H, rfl⟩ : ∃ H : Nat, n = (H : Int) := ⟨n.toNat, by omega⟩
        have zL : 1 ≤ L ∧ L ≤ 15 := by omega
        have zH : H ≤ 10 := by omega
        have zst : st ≤ 2000 := by omega
        refine ⟨(((fw s t L st H (s.size + 1) : Nat) : Int), true), ?_, ?_⟩
        · refine Ev.congr (f := fun k => (spec_tdAsked.f k s t (L : Int) (st : Int)).bind fun y => if y = true then spec_CountTideWays.j0 k s t (L : Int) (st : Int) (H : Int) false else spec_CountTideWays.j0 k s t (L : Int) (st : Int) (H : Int) true) (fun k => ?_) (Ev.bind hS ?_)
          · simp only [spec_CountTideWays.f]
            rw [l1In_eq, decide_eq_true hn]; rfl
          · rw [hg]; simp only [if_true]
            exact ways_j0 s t L st z1 z2 zL H zst zH
        · have ec := counts_ok s t L st z1 z2 zL H (by omega)
          refine Ev.congr (f := fun k => (impl_crossing_counts.f k s t (L : Int) (st : Int) ((st + H : Nat) : Int)).bind fun y => if 0 < (y.length : Int) then (if 0 < ((rd_L1 y 0).length : Int) then (some (rd (rd_L1 y 0) 0, true)) else none) else none) (fun k => ?_) (Ev.bind ec ?_)
          · unfold impl_CountTideWays.f
            rw [isRight_eq s t _ (by omega) (by omega), isHour_eq, eR, eH, within_eq, decide_eq_true hn, w_id (n := (st : Int) + (H : Int)) (by omega) (by omega)]
            rw [Option.bind_some, if_pos rfl, Option.bind_some, if_pos rfl, Option.bind_some, if_pos rfl]
            rfl
          · have e0 : rd_L1 (row2 s H fun j p => ((bk s t L (st + H) (H - j) p : Nat) : Int)) 0 = tab (s.size + 2) fun p => ((bk s t L (st + H) (H - 0) p : Nat) : Int) := rdL_tab (j := 0) (by omega)
            have e1 : rd (tab (s.size + 2) fun p => ((bk s t L (st + H) (H - 0) p : Nat) : Int)) 0 = ((bk s t L (st + H) (H - 0) 0 : Nat) : Int) := rd_tab (p := 0) (by omega)
            rw [e0, tab_len, tab_len, if_pos (by omega), if_pos (by omega), e1, Nat.sub_zero, meet s t L st H z1.2 zL.1 zH]
            exact Ev.now _
      · refine ⟨(0, false), ?_, ?_⟩
        · refine Ev.congr (f := fun k => (spec_tdAsked.f k s t l h).bind fun y => if y = true then spec_CountTideWays.j0 k s t l h n true else spec_CountTideWays.j0 k s t l h n true) (fun k => ?_) (Ev.bind hS ?_)
          · simp only [spec_CountTideWays.f]
            rw [l1In_eq, decide_eq_false hn]; rfl
          · rw [hg]; simp only [if_true]
            exact hno
        · refine Ev.congr (f := fun _ => some (0, false)) (fun k => ?_) (Ev.now _)
          unfold impl_CountTideWays.f
          rw [isRight_eq s t _ (by omega) (by omega), isHour_eq, eR, eH, within_eq, decide_eq_false hn]
          rfl
    · have hg0 : (((okShore s && okTide t) && okLeap l) && okHour h) = false := by simpa using hg
      refine ⟨(0, false), ?_, ?_⟩
      · simp only [spec_CountTideWays.f]
        refine Ev.bind hS ?_
        rw [hg0]; exact hno
      · simp only [impl_CountTideWays.f]
        rw [isRight_eq s t _ (by omega) (by omega), isHour_eq]
        cases a : ((okShore s && okTide t) && okLeap l) with
        | false => simp only [Option.bind_some, Bool.false_eq_true, if_false]; exact Ev.now _
        | true =>
          rw [a] at hg0
          simp only [Bool.true_and] at hg0
          rw [hg0]; simp only [Option.bind_some, Bool.false_eq_true, if_false, if_true]; exact Ev.now _
  obtain ⟨r, ⟨K1, h1⟩, ⟨K2, h2⟩⟩ := main
  refine ⟨K1 + K2, ?_⟩
  rw [if_neg c1, if_neg c2]
  have a1 := h1 (K1 + K2) (by omega)
  have a2 := h2 (K1 + K2) (by omega)
  simp only at a1 a2
  rw [a1, a2]; simp

end Go.Proofs.YteijbohbdhemoaaDoor.Pure
