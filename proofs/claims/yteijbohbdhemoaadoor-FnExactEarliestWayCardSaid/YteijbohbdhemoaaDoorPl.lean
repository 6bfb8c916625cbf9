/- Plain words of ways over tides: who can be where when, and the first hour of each place. -/
import Derived.Test.YteijbohbdhemoaaDoorTb
namespace Go.Proofs.YteijbohbdhemoaaDoor.Pl
set_option linter.unusedVariables false
set_option linter.unusedSimpArgs false
open Go.RowKit Go.Proofs.YteijbohbdhemoaaDoorW.PrintWords Go.Proofs.YteijbohbdhemoaaDoorW.PrintLast Go.Proofs.YteijbohbdhemoaaDoorW.PrintMore Sh Cr Sm Tb
namespace Tide
def near (L a b : Nat) : Bool := decide (a ≤ b + L ∧ b ≤ a + L)
def reach (P L : Nat) (dry : Nat → Nat → Bool) (s : Nat) : Nat → Nat → Bool
  | 0, p => p == 0
  | h + 1, p => dry p (s + h + 1) && (List.range P).any fun q => reach P L dry s h q && near L q p
def first (P L : Nat) (dry : Nat → Nat → Bool) (s : Nat) : Nat → Nat → Int
  | 0, p => if p = 0 then (s : Int) else -1
  | h + 1, p => if reach P L dry s (h + 1) p = true ∧ first P L dry s h p < 0 then ((s + h + 1 : Nat) : Int) else first P L dry s h p
section
variable {P L T : Nat} {dry : Nat → Nat → Bool} {s : Nat}

theorem reach_succ {h p : Nat} : reach P L dry s (h + 1) p = true ↔ dry p (s + h + 1) = true ∧ ∃ q, q < P ∧ reach P L dry s h q = true ∧ near L q p = true := by
  simp only [reach, Bool.and_eq_true, List.any_eq_true, List.mem_range]

theorem near_self (a : Nat) : near L a a = true := by simp [near]

theorem stay (h0 : ∀ h, dry 0 h = true) (hP : 0 < P) : ∀ h, reach P L dry s h 0 = true
  | 0 => by simp [reach]
  | h + 1 => reach_succ.mpr ⟨h0 _, 0, hP, stay h0 hP h, near_self 0⟩

theorem later (hd : ∀ p h, dry p (h + T) = dry p h) (h0 : ∀ h, dry 0 h = true) (hP : 0 < P) : ∀ h p, reach P L dry s h p = true → reach P L dry s (h + T) p = true
  | 0, p, h => by
    have : p = 0 := by simpa [reach] using h
    subst this
    exact stay h0 hP _
  | h + 1, p, hr => by
    obtain ⟨a, q, b, c, d⟩ := reach_succ.mp hr
    have e : h + 1 + T = (h + T) + 1 := by omega
    rw [e]
    refine reach_succ.mpr ⟨?_, q, b, later hd h0 hP h q c, d⟩
    have := hd p (s + h + 1)
    rw [show s + (h + T) + 1 = s + h + 1 + T by omega, this]
    exact a

/-- Once a tide brings nothing new at its end, no later hour brings anything new. -/
theorem still (hd : ∀ p h, dry p (h + T) = dry p h) {j : Nat} (hj : ∀ p, p < P → reach P L dry s (j + T) p = true → reach P L dry s j p = true) : ∀ d p, p < P → reach P L dry s (j + d + T) p = true → reach P L dry s (j + d) p = true
  | 0, p, hp, h => hj p hp h
  | d + 1, p, hp, h => by
    have e : j + (d + 1) + T = (j + d + T) + 1 := by omega
    rw [e] at h
    obtain ⟨a, q, b, c, e2⟩ := reach_succ.mp h
    rw [show j + (d + 1) = j + d + 1 by omega]
    refine reach_succ.mpr ⟨?_, q, b, still hd hj d q b c, e2⟩
    have := hd p (s + (j + d) + 1)
    rw [← this, show s + (j + d) + 1 + T = s + (j + d + T) + 1 by omega]
    exact a

def count (P : Nat) (f : Nat → Bool) : Nat := ((List.range P).filter f).length
theorem count_le (P : Nat) (f : Nat → Bool) : count P f ≤ P := by
  have := List.length_filter_le f (List.range P); simpa [count] using this
theorem count_mono {P : Nat} {f g : Nat → Bool} (h : ∀ p, p < P → f p = true → g p = true) : count P f ≤ count P g := by
  induction P with
  | zero => simp [count]
  | succ P ih =>
    have := ih fun p hp => h p (by omega)
    have hP := h P (by omega)
    simp only [count, List.range_succ, List.filter_append, List.length_append] at this ⊢
    cases hf : f P <;> cases hg : g P <;> simp [hf, hg] at hP ⊢ <;> omega
theorem count_lt {P : Nat} {f g : Nat → Bool} (h : ∀ p, p < P → f p = true → g p = true) {q : Nat} (hq : q < P) (hf : f q = false) (hg : g q = true) : count P f < count P g := by
  induction P with
  | zero => omega
  | succ P ih =>
    have hP := h P (by omega)
    have hm : count P f ≤ count P g := count_mono fun p hp => h p (by omega)
    by_cases e : q = P
    · subst e
      simp only [count, List.range_succ, List.filter_append, List.length_append] at hm ⊢
      simp [hf, hg]; omega
    · have := ih (fun p hp => h p (by omega)) (by omega)
      simp only [count, List.range_succ, List.filter_append, List.length_append] at this ⊢
      cases hf' : f P <;> cases hg' : g P <;> simp [hf', hg'] at hP ⊢ <;> omega

/-- At some tide among the first P ones nothing new comes. -/
theorem some_still (hd : ∀ p h, dry p (h + T) = dry p h) (h0 : ∀ h, dry 0 h = true) (hP : 0 < P) : ∃ j, j < P ∧ ∀ p, p < P → reach P L dry s (j * T + T) p = true → reach P L dry s (j * T) p = true := by
  refine Classical.byContradiction fun hn => ?_
  have step : ∀ j, j < P → ∃ p, p < P ∧ reach P L dry s (j * T + T) p = true ∧ reach P L dry s (j * T) p = false := by
    intro j hj
    refine Classical.byContradiction fun h => hn ⟨j, hj, fun p hp hr => ?_⟩
    cases hc : reach P L dry s (j * T) p with
    | true => rfl
    | false => exact absurd ⟨p, hp, hr, hc⟩ h
  have grow : ∀ j, j ≤ P → j + 1 ≤ count P (reach P L dry s (j * T)) := by
    intro j
    induction j with
    | zero =>
      intro _
      have := count_lt (P := P) (f := fun _ => false) (g := reach P L dry s (0 * T)) (fun _ _ h => by cases h) (q := 0) hP rfl (stay h0 hP _)
      omega
    | succ j ih =>
      intro hj
      obtain ⟨p, hp, h1, h2⟩ := step j (by omega)
      have e : (j + 1) * T = j * T + T := by rw [Nat.add_mul, Nat.one_mul]
      rw [e]
      have := count_lt (P := P) (f := reach P L dry s (j * T)) (g := reach P L dry s (j * T + T)) (fun p _ h => later hd h0 hP _ p h) hp h2 h1
      have := ih (by omega)
      omega
  have h1 := grow P (Nat.le_refl _)
  have := count_le P (reach P L dry s (P * T))
  omega

theorem back (hd : ∀ p h, dry p (h + T) = dry p h) (h0 : ∀ h, dry 0 h = true) (hP : 0 < P) {h p : Nat} (hp : p < P) (hh : P * T ≤ h + T) (hr : reach P L dry s (h + T) p = true) : reach P L dry s h p = true := by
  obtain ⟨j, hj, hs⟩ := some_still (s := s) (L := L) hd h0 hP
  have hle : j * T ≤ h := by
    have : (j + 1) * T ≤ P * T := Nat.mul_le_mul_right T (by omega)
    rw [Nat.add_mul, Nat.one_mul] at this
    omega
  have := still hd hs (h - j * T) p hp
  rw [show j * T + (h - j * T) = h by omega] at this
  exact this hr

/-- Whatever is reached at all is reached within P tides. -/
theorem within_tides (hd : ∀ p h, dry p (h + T) = dry p h) (h0 : ∀ h, dry 0 h = true) (hP : 0 < P) (hT : 0 < T) (h : Nat) : ∀ p, p < P → reach P L dry s h p = true → ∃ h', h' ≤ P * T ∧ h' ≤ h ∧ reach P L dry s h' p = true := by
  induction h using Nat.strongRecOn with
  | _ h ih =>
    intro p hp hr
    by_cases hle : h ≤ P * T
    · exact ⟨h, hle, Nat.le_refl _, hr⟩
    · have hT' : T ≤ P * T := Nat.le_mul_of_pos_left T hP
      obtain ⟨m, rfl⟩ : ∃ m, h = m + T := ⟨h - T, by omega⟩
      obtain ⟨h', a, b, c⟩ := ih m (by omega) p hp (back hd h0 hP hp (by omega) hr)
      exact ⟨h', a, by omega, c⟩

theorem first_neg : ∀ n p, first P L dry s n p < 0 → first P L dry s n p = -1 ∧ ∀ h, h ≤ n → reach P L dry s h p = false
  | 0, p, hf => by
    simp only [first] at hf ⊢
    by_cases hp : p = 0
    · rw [if_pos hp] at hf; omega
    · rw [if_neg hp]
      refine ⟨rfl, fun h hh => ?_⟩
      obtain rfl : h = 0 := by omega
      simp [reach, hp]
  | n + 1, p, hf => by
    simp only [first] at hf ⊢
    split at hf
    · omega
    · rename_i hc
      obtain ⟨a, b⟩ := first_neg n p hf
      rw [if_neg hc]
      refine ⟨a, fun h hh => ?_⟩
      by_cases e : h = n + 1
      · subst e
        cases hr : reach P L dry s (n + 1) p with
        | false => rfl
        | true => exact absurd ⟨hr, hf⟩ hc
      · exact b h (by omega)
theorem first_pos : ∀ n p, 0 ≤ first P L dry s n p → ∃ h, h ≤ n ∧ first P L dry s n p = ((s + h : Nat) : Int) ∧ reach P L dry s h p = true ∧ ∀ h', h' < h → reach P L dry s h' p = false
  | 0, p, hf => by
    simp only [first] at hf ⊢
    by_cases hp : p = 0
    · rw [if_pos hp]; exact ⟨0, Nat.le_refl _, rfl, by simp [reach, hp], fun h' hh => by omega⟩
    · rw [if_neg hp] at hf; omega
  | n + 1, p, hf => by
    simp only [first] at hf ⊢
    split
    · rename_i hc
      exact ⟨n + 1, Nat.le_refl _, rfl, hc.1, fun h' hh => (first_neg n p hc.2).2 h' (by omega)⟩
    · rename_i hc
      rw [if_neg hc] at hf
      obtain ⟨h, a, b, c, d⟩ := first_pos n p hf
      exact ⟨h, by omega, b, c, d⟩
theorem first_of_reach {n p h : Nat} (hh : h ≤ n) (hr : reach P L dry s h p = true) : 0 ≤ first P L dry s n p := by
  rcases Int.lt_or_le (first P L dry s n p) 0 with c | c
  · have := (first_neg n p c).2 h hh; rw [hr] at this; cases this
  · exact c
theorem first_unique {n p h : Nat} (hh : h ≤ n) (hr : reach P L dry s h p = true) (hn : ∀ h', h' < h → reach P L dry s h' p = false) : first P L dry s n p = ((s + h : Nat) : Int) := by
  obtain ⟨h2, a, b, c, d⟩ := first_pos n p (first_of_reach hh hr)
  have : h2 = h := by
    rcases Nat.lt_trichotomy h2 h with l | l | l
    · have := hn h2 l; rw [c] at this; cases this
    · exact l
    · have := d h l; rw [hr] at this; cases this
  rw [b, this]
/-- More rounds than P tides tell nothing new. -/
theorem first_enough (hd : ∀ p h, dry p (h + T) = dry p h) (h0 : ∀ h, dry 0 h = true) (hP : 0 < P) (hT : 0 < T) {n p : Nat} (hp : p < P) (hn : P * T ≤ n) : first P L dry s n p = first P L dry s (P * T) p := by
  rcases Int.lt_or_le (first P L dry s (P * T) p) 0 with c | c
  · obtain ⟨a, b⟩ := first_neg _ p c
    rcases Int.lt_or_le (first P L dry s n p) 0 with c' | c'
    · rw [a, (first_neg _ p c').1]
    · obtain ⟨h, _, _, hr, _⟩ := first_pos n p c'
      obtain ⟨h', x, _, z⟩ := within_tides hd h0 hP hT h p hp hr
      have := b h' x; rw [z] at this; cases this
  · obtain ⟨h, x, y, z, u⟩ := first_pos _ p c
    rw [y]; exact first_unique (by omega) z u
end
end Tide
def anyFrom (f : Nat → Bool) : Nat → Nat → Bool
  | _, 0 => false
  | q, d + 1 => f q || anyFrom f (q + 1) d
theorem anyFrom_iff {f : Nat → Bool} : ∀ {d q}, anyFrom f q d = true ↔ ∃ i, q ≤ i ∧ i < q + d ∧ f i = true
  | 0, q => by
    simp only [anyFrom]
    constructor
    · intro h; cases h
    · rintro ⟨i, a, b, _⟩; omega
  | d + 1, q => by
    simp only [anyFrom, Bool.or_eq_true, anyFrom_iff (d := d) (q := q + 1)]
    constructor
    · rintro (h | ⟨i, a, b, c⟩)
      · exact ⟨q, by omega, by omega, h⟩
      · exact ⟨i, by omega, by omega, c⟩
    · rintro ⟨i, a, b, c⟩
      by_cases e : i = q
      · subst e; exact .inl c
      · exact .inr ⟨i, by omega, by omega, c⟩

theorem anyFrom_snoc {f : Nat → Bool} (q : Nat) : anyFrom f 0 (q + 1) = (anyFrom f 0 q || f q) := by
  rw [Bool.eq_iff_iff, Bool.or_eq_true, anyFrom_iff, anyFrom_iff]
  constructor
  · rintro ⟨i, a, b, c⟩
    by_cases e : i = q
    · subst e; exact .inr c
    · exact .inl ⟨i, by omega, by omega, c⟩
  · rintro (⟨i, a, b, c⟩ | c)
    · exact ⟨i, by omega, by omega, c⟩
    · exact ⟨q, by omega, by omega, c⟩
/-- Dry, by natural numbers. -/
def dryN (s t : ByteArray) (p h : Nat) : Bool := dryB s t (p : Int) (h : Int)
theorem dryN_tide (s t : ByteArray) (p h : Nat) (ht : 1 ≤ t.size) : dryN s t p (h + t.size) = dryN s t p h := by
  unfold dryN dryB
  rw [show ((h + t.size : Nat) : Int) = (h : Int) + (t.size : Int) by omega, Int.add_emod_right]
theorem dryN_bank (s t : ByteArray) (h : Nat) : dryN s t 0 h = true := by unfold dryN dryB; simp
theorem dryN_end (s t : ByteArray) (h : Nat) : dryN s t (s.size + 1) h = true := by
  unfold dryN dryB
  rw [decide_eq_true (show ((s.size + 1 : Nat) : Int) = (s.size : Int) + 1 by omega)]; simp
abbrev rch (s t : ByteArray) (L st h p : Nat) : Bool := Tide.reach (s.size + 2) L (dryN s t) st h p
abbrev fst (s t : ByteArray) (L st n p : Nat) : Int := Tide.first (s.size + 2) L (dryN s t) st n p

theorem reach_as (s t : ByteArray) (L st j p : Nat) : rch s t L st (j + 1) p = anyFrom (fun q => rch s t L st j q && (Tide.near L q p && dryN s t p (st + j + 1))) 0 (s.size + 2) := by
  rw [Bool.eq_iff_iff, Tide.reach_succ, anyFrom_iff]
  constructor
  · rintro ⟨a, q, b, c, d⟩
    exact ⟨q, by omega, by omega, by simp only [Bool.and_eq_true]; exact ⟨c, d, a⟩⟩
  · rintro ⟨q, _, b, c⟩
    simp only [Bool.and_eq_true] at c
    exact ⟨c.2.2, q, by omega, c.1, c.2.1⟩
/-- For each place the first hour, or -1. -/
def arrs (s t : ByteArray) (L st : Nat) : List Int := tab (s.size + 2) (fst s t L st ((s.size + 2) * t.size))
/-- The first hour at the far bank, or -1. -/
def endOf (s t : ByteArray) (L st : Nat) : Int := fst s t L st ((s.size + 2) * t.size) (s.size + 1)
end Go.Proofs.YteijbohbdhemoaaDoor.Pl
