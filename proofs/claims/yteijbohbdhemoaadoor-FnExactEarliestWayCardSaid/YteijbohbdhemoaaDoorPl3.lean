/- Plain words of the counts of ways: forward, backward, and how they meet. -/
import Derived.Test.YteijbohbdhemoaaDoorPl2
namespace Go.Proofs.YteijbohbdhemoaaDoor.Pl
set_option linter.unusedVariables false
set_option linter.unusedSimpArgs false
open Go.RowKit Go.Proofs.YteijbohbdhemoaaDoorW.PrintWords Go.Proofs.YteijbohbdhemoaaDoorW.PrintLast Go.Proofs.YteijbohbdhemoaaDoorW.PrintMore Sh Cr Sm Tb
/-- The saturated sum of the first q. -/
def acc (M : Nat) (f : Nat → Nat) : Nat → Nat
  | 0 => 0
  | q + 1 => min (acc M f q + f q) M
theorem acc_le {M : Nat} {f : Nat → Nat} : ∀ q, acc M f q ≤ M
  | 0 => Nat.zero_le _
  | q + 1 => Nat.min_le_right _ _
theorem acc_skip {M q : Nat} {f : Nat → Nat} (h : f q = 0) : acc M f (q + 1) = acc M f q := by
  have := acc_le (M := M) (f := f) q
  simp only [acc, h, Nat.add_zero]; omega
theorem acc_zero {M : Nat} {f : Nat → Nat} (h : ∀ q, f q = 0) : ∀ q, acc M f q = 0
  | 0 => rfl
  | q + 1 => by rw [acc_skip (h q), acc_zero h q]
abbrev cap : Nat := 1152921504606846976
/-- Ways from p to the far bank, told d hours before the end e. -/
def bk (s t : ByteArray) (L e : Nat) : Nat → Nat → Nat
  | 0, p => if p = s.size + 1 then 1 else 0
  | d + 1, p => if p < s.size + 1 then acc cap (fun q => if (Tide.near L p q && dryN s t p (e - (d + 1))) = true then bk s t L e d q else 0) (s.size + 2) else 0
theorem bk_le (s t : ByteArray) (L e : Nat) : ∀ d p, bk s t L e d p ≤ cap
  | 0, p => by simp only [bk]; split <;> decide
  | d + 1, p => by
    simp only [bk]; split
    · exact acc_le _
    · exact Nat.zero_le _
theorem w_big {n : Int} (h0 : 0 ≤ n) (h1 : n ≤ 4611686018427387904) : wrap64 n = n := by unfold wrap64; omega
theorem mn_cap {a b : Nat} (ha : a ≤ cap) (hb : b ≤ cap) : mn (wrap64 ((a : Int) + (b : Int))) 1152921504606846976 = ((min (a + b) cap : Nat) : Int) := by
  unfold cap at *
  rw [w_big (by omega) (by omega)]
  unfold mn
  by_cases c : (1152921504606846976 : Int) < (a : Int) + (b : Int)
  · rw [if_pos c]; omega
  · rw [if_neg c]; omega
abbrev cF (s t : ByteArray) (L st H j p : Nat) : Nat → Nat := fun q => if (Tide.near L p q && dryN s t p (st + H - (H - j - 1 + 1))) = true then bk s t L (st + H) (H - j - 1) q else 0
abbrev cG (s t : ByteArray) (L st H j p : Nat) : Nat → Nat → Int := fun j' p' => if j < j' ∨ (j' = j ∧ p' < p) then ((bk s t L (st + H) (H - j') p' : Nat) : Int) else 0
abbrev cD (s t : ByteArray) (L st H n : Nat) : Nat → Nat → Int := fun j' p' => if n ≤ j' then ((bk s t L (st + H) (H - j') p' : Nat) : Int) else 0
section
variable (s t : ByteArray) (L st : Nat)
theorem bk_row (H j p : Nat) (hj : j < H) (hp : p < s.size + 1) : bk s t L (st + H) (H - j) p = acc cap (cF s t L st H j p) (s.size + 2) := by
  obtain ⟨m, hm⟩ : ∃ m, H - j = m + 1 := ⟨H - j - 1, by omega⟩
  have h2 : H - j - 1 = m := by omega
  unfold cF
  rw [h2, hm]
  simp only [bk]
  rw [if_pos hp]
theorem bk_far (H j : Nat) (hj : j < H) : bk s t L (st + H) (H - j) (s.size + 1) = 0 := by
  obtain ⟨m, hm⟩ : ∃ m, H - j = m + 1 := ⟨H - j - 1, by omega⟩
  rw [hm]
  simp only [bk]
  rw [if_neg (by omega)]
end

def sm : Nat → (Nat → Nat) → Nat
  | 0, _ => 0
  | n + 1, f => sm n f + f n
theorem sm_congr {f g : Nat → Nat} : ∀ {n}, (∀ i, i < n → f i = g i) → sm n f = sm n g
  | 0, _ => rfl
  | n + 1, h => by simp only [sm]; rw [sm_congr fun i hi => h i (by omega), h n (by omega)]
theorem sm_zero : ∀ n, sm n (fun _ => 0) = 0
  | 0 => rfl
  | n + 1 => by simp only [sm]; rw [sm_zero n]
theorem sm_add (f g : Nat → Nat) : ∀ n, sm n (fun i => f i + g i) = sm n f + sm n g
  | 0 => rfl
  | n + 1 => by simp only [sm]; rw [sm_add f g n]; omega
theorem sm_mul (c : Nat) (f : Nat → Nat) : ∀ n, sm n (fun i => c * f i) = c * sm n f
  | 0 => by simp [sm]
  | n + 1 => by simp only [sm]; rw [sm_mul c f n, Nat.mul_add]
theorem sm_mulr (c : Nat) (f : Nat → Nat) : ∀ n, sm n (fun i => f i * c) = sm n f * c
  | 0 => by simp [sm]
  | n + 1 => by simp only [sm]; rw [sm_mulr c f n, Nat.add_mul]
theorem sm_swap (m : Nat) (f : Nat → Nat → Nat) : ∀ n, sm n (fun i => sm m (fun j => f i j)) = sm m (fun j => sm n (fun i => f i j))
  | 0 => by simp only [sm]; exact (sm_zero m).symm
  | n + 1 => by simp only [sm]; rw [sm_swap m f n, ← sm_add]
theorem sm_le {f : Nat → Nat} {B : Nat} : ∀ {n}, (∀ i, i < n → f i ≤ B) → sm n f ≤ n * B
  | 0, _ => by simp [sm]
  | n + 1, h => by
    have := sm_le (n := n) fun i hi => h i (by omega)
    have := h n (by omega)
    simp only [sm]; rw [Nat.add_mul, Nat.one_mul]; omega
theorem sm_one (a : Nat) (g : Nat → Nat) : ∀ n, sm n (fun i => if i = a then g i else 0) = if a < n then g a else 0
  | 0 => by simp [sm]
  | n + 1 => by
    simp only [sm]; rw [sm_one a g n]
    by_cases c : n = a
    · subst c; rw [if_neg (by omega), if_pos rfl, if_pos (by omega)]; omega
    · rw [if_neg c]
      by_cases e : a < n
      · rw [if_pos e, if_pos (by omega), Nat.add_zero]
      · rw [if_neg e, if_neg (by omega)]
theorem acc_sm {M : Nat} {f : Nat → Nat} : ∀ n, acc M f n = min (sm n f) M
  | 0 => by simp [acc, sm]
  | n + 1 => by simp only [acc, sm]; rw [acc_sm n]; omega
/-- The sum of d of them from q. -/
def sf (f : Nat → Nat) : Nat → Nat → Nat
  | _, 0 => 0
  | q, d + 1 => f q + sf f (q + 1) d
theorem sf_sm (f : Nat → Nat) (n : Nat) : ∀ d q, q + d ≤ n → sm n (fun i => if q ≤ i ∧ i < q + d then f i else 0) = sf f q d
  | 0, q, _ => by
    rw [sm_congr (g := fun _ => 0) fun i _ => if_neg (by omega)]
    exact sm_zero n
  | d + 1, q, h => by
    rw [sm_congr (g := fun i => (if i = q then f i else 0) + (if q + 1 ≤ i ∧ i < q + 1 + d then f i else 0)) fun i _ => ?_, sm_add, sm_one, if_pos (by omega), sf_sm f n d (q + 1) (by omega)]
    · rfl
    · by_cases c : i = q
      · rw [if_pos c, if_pos (by omega), if_neg (by omega)]; rfl
      · rw [if_neg c]
        by_cases e : q ≤ i ∧ i < q + (d + 1)
        · rw [if_pos e, if_pos (by omega)]; omega
        · rw [if_neg e, if_neg (by omega)]
theorem sf_le {f : Nat → Nat} {B : Nat} (h : ∀ i, f i ≤ B) : ∀ d q, sf f q d ≤ d * B
  | 0, q => by simp [sf]
  | d + 1, q => by
    have := sf_le h d (q + 1)
    have := h q
    simp only [sf]; rw [Nat.add_mul, Nat.one_mul]; omega
/-- Ways from the near bank to p, told k hours after the start. -/
def fw (s t : ByteArray) (L st : Nat) : Nat → Nat → Nat
  | 0, p => if p = 0 then 1 else 0
  | k + 1, p => if dryN s t p (st + k + 1) = true then sf (fun q => fw s t L st k q) (p - L) (min (s.size + 1) (p + L + 1) - (p - L)) else 0
theorem pow_small {k : Nat} (h : k ≤ 10) : 16 ^ k ≤ 1099511627776 := by
  have : 16 ^ k ≤ 16 ^ 10 := Nat.pow_le_pow_right (by decide) h
  exact Nat.le_trans this (by decide)
theorem fw_le (s t : ByteArray) (L st : Nat) (hs : s.size ≤ 14) : ∀ k p, fw s t L st k p ≤ 16 ^ k
  | 0, p => by simp only [fw]; split <;> decide
  | k + 1, p => by
    simp only [fw]; split
    · refine Nat.le_trans (sf_le (fun i => fw_le s t L st hs k i) _ _) ?_
      rw [Nat.pow_succ, Nat.mul_comm]
      exact Nat.mul_le_mul_left _ (by omega)
    · exact Nat.zero_le _
theorem bk_pow (s t : ByteArray) (L e : Nat) (hs : s.size ≤ 14) : ∀ d p, bk s t L e d p ≤ 16 ^ d
  | 0, p => by simp only [bk]; split <;> decide
  | d + 1, p => by
    simp only [bk]; split
    · rw [acc_sm]
      refine Nat.le_trans (Nat.min_le_left _ _) (Nat.le_trans (sm_le (B := 16 ^ d) fun i _ => ?_) ?_)
      · split
        · exact bk_pow s t L e hs d i
        · exact Nat.zero_le _
      · rw [Nat.pow_succ, Nat.mul_comm]; exact Nat.mul_le_mul_left _ (by omega)
    · exact Nat.zero_le _
theorem bk_sm (s t : ByteArray) (L e : Nat) (hs : s.size ≤ 14) (d p : Nat) (hd : d + 1 ≤ 10) (hp : p < s.size + 1) : bk s t L e (d + 1) p = sm (s.size + 2) (fun q => if (Tide.near L p q && dryN s t p (e - (d + 1))) = true then bk s t L e d q else 0) := by
  simp only [bk]
  rw [if_pos hp, acc_sm]
  refine Nat.min_eq_left ?_
  have hm : (s.size + 2) * 16 ^ d ≤ 16 ^ (d + 1) := by rw [Nat.pow_succ, Nat.mul_comm]; exact Nat.mul_le_mul_left _ (by omega)
  refine Nat.le_trans (Nat.le_trans (sm_le (B := 16 ^ d) fun i _ => ?_) hm) (Nat.le_trans (pow_small hd) (by decide))
  split
  · exact bk_pow s t L e hs d i
  · exact Nat.zero_le _
theorem bk_dry (s t : ByteArray) (L e : Nat) : ∀ d p, dryN s t p (e - d) = false → bk s t L e d p = 0
  | 0, p, h => by
    simp only [bk]
    by_cases c : p = s.size + 1
    · rw [c, dryN_end] at h; cases h
    · rw [if_neg c]
  | d + 1, p, h => by
    simp only [bk]
    split
    · exact acc_zero (fun q => by rw [h, Bool.and_false]; rfl) _
    · rfl
theorem fw_dry (s t : ByteArray) (L st : Nat) : ∀ k p, dryN s t p (st + k) = false → fw s t L st k p = 0
  | 0, p, h => by
    simp only [fw]
    by_cases c : p = 0
    · rw [c, dryN_bank] at h; cases h
    · rw [if_neg c]
  | k + 1, p, h => by
    simp only [fw]
    rw [if_neg (by rw [show st + k + 1 = st + (k + 1) by omega, h]; decide)]
theorem meet_step (s t : ByteArray) (L st H : Nat) (hs : s.size ≤ 14) (hL : 1 ≤ L) (hH : H ≤ 10) (k : Nat) (hk : k < H) :
    sm (s.size + 2) (fun p => fw s t L st k p * bk s t L (st + H) (H - k) p) = sm (s.size + 2) (fun p => fw s t L st (k + 1) p * bk s t L (st + H) (H - (k + 1)) p) := by
  obtain ⟨m, hm⟩ : ∃ m, H - k = m + 1 := ⟨H - k - 1, by omega⟩
  have hm2 : H - (k + 1) = m := by omega
  have h1 : st + H - (m + 1) = st + k := by omega
  have h2 : st + H - m = st + k + 1 := by omega
  rw [hm, hm2]
  have hl : ∀ p, p < s.size + 2 → fw s t L st k p * bk s t L (st + H) (m + 1) p = sm (s.size + 2) (fun q => if p < s.size + 1 ∧ Tide.near L p q = true then fw s t L st k p * bk s t L (st + H) m q else 0) := by
    intro p hp
    by_cases c : p < s.size + 1
    · rw [bk_sm s t L _ hs m p (by omega) c, ← sm_mul, h1]
      refine sm_congr fun q _ => ?_
      cases hn : Tide.near L p q with
      | false => rw [Bool.false_and, if_neg (by decide), if_neg (fun x => by cases x.2), Nat.mul_zero]
      | true =>
        rw [Bool.true_and, if_pos (show p < s.size + 1 ∧ true = true from ⟨c, rfl⟩)]
        cases hd : dryN s t p (st + k) with
        | false => rw [fw_dry s t L st k p hd, Nat.zero_mul, Nat.zero_mul]
        | true => rw [if_pos rfl]
    · rw [sm_congr (g := fun _ => 0) fun q _ => if_neg (fun x => c x.1), sm_zero]
      simp only [bk]; rw [if_neg c, Nat.mul_zero]
  have hr : ∀ q, q < s.size + 2 → fw s t L st (k + 1) q * bk s t L (st + H) m q = sm (s.size + 2) (fun p => if p < s.size + 1 ∧ Tide.near L p q = true then fw s t L st k p * bk s t L (st + H) m q else 0) := by
    intro q hq
    cases hd : dryN s t q (st + k + 1) with
    | false =>
      have hz : bk s t L (st + H) m q = 0 := bk_dry s t L (st + H) m q (by rw [h2]; exact hd)
      rw [hz, Nat.mul_zero, sm_congr (g := fun _ => 0) fun p _ => ?_, sm_zero]
      split
      · exact Nat.mul_zero _
      · rfl
    | true =>
      have hf : fw s t L st (k + 1) q = sm (s.size + 2) (fun p => if q - L ≤ p ∧ p < q - L + (min (s.size + 1) (q + L + 1) - (q - L)) then fw s t L st k p else 0) := by
        simp only [fw]
        rw [if_pos hd, sf_sm _ _ _ _ (by omega)]
      rw [hf, ← sm_mulr]
      refine sm_congr fun p _ => ?_
      by_cases c : p < s.size + 1 ∧ Tide.near L p q = true
      · rw [if_pos c]
        have c2 := c.2
        simp only [Tide.near, decide_eq_true_eq] at c2
        rw [if_pos (by omega)]
      · rw [if_neg c]
        rw [if_neg (fun x => c ⟨by omega, by simp only [Tide.near, decide_eq_true_eq]; omega⟩), Nat.zero_mul]
  rw [sm_congr hl, sm_congr hr, sm_swap]
theorem meet (s t : ByteArray) (L st H : Nat) (hs : s.size ≤ 14) (hL : 1 ≤ L) (hH : H ≤ 10) : fw s t L st H (s.size + 1) = bk s t L (st + H) H 0 := by
  have h : ∀ k, k ≤ H → sm (s.size + 2) (fun p => fw s t L st k p * bk s t L (st + H) (H - k) p) = bk s t L (st + H) H 0 := by
    intro k
    induction k with
    | zero =>
      intro _
      rw [sm_congr (g := fun p => if p = 0 then bk s t L (st + H) (H - 0) p else 0) fun p _ => ?_, sm_one, if_pos (by omega), Nat.sub_zero]
      simp only [fw]
      by_cases c : p = 0
      · rw [if_pos c, if_pos c, Nat.one_mul]
      · rw [if_neg c, if_neg c, Nat.zero_mul]
    | succ k ih => intro hk; rw [← meet_step s t L st H hs hL hH k (by omega)]; exact ih (by omega)
  have h2 := h H (Nat.le_refl _)
  rw [sm_congr (g := fun p => if p = s.size + 1 then fw s t L st H p else 0) fun p _ => ?_, sm_one, if_pos (by omega)] at h2
  · exact h2
  · rw [Nat.sub_self]
    simp only [bk]
    by_cases c : p = s.size + 1
    · rw [if_pos c, if_pos c, Nat.mul_one]
    · rw [if_neg c, if_neg c, Nat.mul_zero]
def sb (s t : ByteArray) (L e : Nat) : Nat → Nat → Bool
  | 0, p => decide (p = s.size + 1)
  | d + 1, p => dryN s t p (e - (d + 1)) && anyFrom (fun q => sb s t L e d q) (p - L) (min (s.size + 2) (p + L + 1) - (p - L))
set_option linter.unusedSectionVars false
section
variable (s t : ByteArray) (L st : Nat) (hs : 1 ≤ s.size ∧ s.size ≤ 14) (ht : 1 ≤ t.size ∧ t.size ≤ 12) (hL : 1 ≤ L ∧ L ≤ 15)
include hs ht hL
theorem sm_pos {f : Nat → Nat} : ∀ {n}, 0 < sm n f ↔ ∃ i, i < n ∧ 0 < f i
  | 0 => ⟨fun h => by simp [sm] at h, fun ⟨i, h, _⟩ => by omega⟩
  | n + 1 => by
    simp only [sm]
    constructor
    · intro h
      by_cases c : 0 < f n
      · exact ⟨n, Nat.lt_succ_self _, c⟩
      · obtain ⟨i, a, b⟩ := (sm_pos (n := n)).mp (by have c0 : f n = 0 := Nat.eq_zero_of_not_pos c; rw [c0] at h; exact h)
        exact ⟨i, by omega, b⟩
    · rintro ⟨i, a, b⟩
      by_cases c : i = n
      · subst c; omega
      · have := (sm_pos (n := n)).mpr ⟨i, by omega, b⟩
        omega
theorem bk_pos (e d p : Nat) : 0 < bk s t L e (d + 1) p ↔ p < s.size + 1 ∧ dryN s t p (e - (d + 1)) = true ∧ ∃ q, q < s.size + 2 ∧ Tide.near L p q = true ∧ 0 < bk s t L e d q := by
  simp only [bk]
  by_cases c : p < s.size + 1
  · rw [if_pos c, acc_sm]
    have hc : 0 < cap := by decide
    constructor
    · intro h
      obtain ⟨q, a, b⟩ := (sm_pos s t L hs ht hL).mp (show 0 < sm (s.size + 2) (fun q => if (Tide.near L p q && dryN s t p (e - (d + 1))) = true then bk s t L e d q else 0) by omega)
      by_cases f : (Tide.near L p q && dryN s t p (e - (d + 1))) = true
      · rw [if_pos f] at b
        simp only [Bool.and_eq_true] at f
        exact ⟨c, f.2, q, a, f.1, b⟩
      · rw [if_neg f] at b; omega
    · rintro ⟨_, a, q, b, f, g⟩
      have : 0 < sm (s.size + 2) (fun q => if (Tide.near L p q && dryN s t p (e - (d + 1))) = true then bk s t L e d q else 0) :=
        (sm_pos s t L hs ht hL).mpr ⟨q, b, by rw [f, a]; exact g⟩
      omega
  · rw [if_neg c]
    exact ⟨fun h => by omega, fun h => absurd h.1 c⟩
theorem bk_pos0 (e p : Nat) : 0 < bk s t L e 0 p ↔ p = s.size + 1 := by
  simp only [bk]
  by_cases c : p = s.size + 1
  · rw [if_pos c]; exact ⟨fun _ => c, fun _ => by decide⟩
  · rw [if_neg c]; exact ⟨fun h => by omega, fun h => absurd h c⟩
theorem sb_iff (e d p : Nat) : sb s t L e (d + 1) p = true ↔ dryN s t p (e - (d + 1)) = true ∧ ∃ q, q < s.size + 2 ∧ Tide.near L p q = true ∧ sb s t L e d q = true := by
  simp only [sb, Bool.and_eq_true, anyFrom_iff]
  constructor
  · rintro ⟨a, q, b, c, d⟩
    exact ⟨a, q, by omega, by simp only [Tide.near, decide_eq_true_eq]; omega, d⟩
  · rintro ⟨a, q, b, c, d⟩
    simp only [Tide.near, decide_eq_true_eq] at c
    exact ⟨a, q, by omega, by omega, d⟩
theorem sb_dry (e : Nat) : ∀ d p, sb s t L e d p = true → dryN s t p (e - d) = true
  | 0, p, h => by
    simp only [sb, decide_eq_true_eq] at h
    rw [h]; exact dryN_end s t _
  | d + 1, p, h => ((sb_iff s t L hs ht hL e d p).mp h).1
theorem bk_sb (e : Nat) : ∀ d p, 0 < bk s t L e d p → sb s t L e d p = true
  | 0, p, h => by
    simp only [sb, decide_eq_true_eq]; exact (bk_pos0 s t L hs ht hL e p).mp h
  | d + 1, p, h => by
    obtain ⟨_, a, q, b, c, f⟩ := (bk_pos s t L hs ht hL e d p).mp h
    exact (sb_iff s t L hs ht hL e d p).mpr ⟨a, q, b, c, bk_sb e d q f⟩
theorem near_sym (a b : Nat) : Tide.near L a b = Tide.near L b a := by
  unfold Tide.near; exact decide_eq_decide.mpr (by omega)
theorem rch_dry (k p : Nat) (h : rch s t L st k p = true) : dryN s t p (st + k) = true := by
  cases k with
  | zero =>
    have : p = 0 := by simpa [Tide.reach] using h
    rw [this]; exact dryN_bank s t _
  | succ k => exact (Tide.reach_succ.mp h).1
theorem sb_bk (H : Nat) (hn : ∀ k, k < H → rch s t L st k (s.size + 1) = false) : ∀ d k p, k + d = H → p < s.size + 2 → rch s t L st k p = true → sb s t L (st + H) d p = true → 0 < bk s t L (st + H) d p
  | 0, k, p, _, _, _, h => by
    simp only [sb, decide_eq_true_eq] at h
    exact (bk_pos0 s t L hs ht hL _ p).mpr h
  | d + 1, k, p, hk, hp, hr, h => by
    obtain ⟨a, q, b, c, f⟩ := (sb_iff s t L hs ht hL _ d p).mp h
    refine (bk_pos s t L hs ht hL _ d p).mpr ⟨?_, a, q, b, c, ?_⟩
    · refine Classical.byContradiction fun x => ?_
      have e : p = s.size + 1 := by omega
      rw [e, hn k (by omega)] at hr; cases hr
    · refine sb_bk H hn d (k + 1) q (by omega) b ?_ f
      refine Tide.reach_succ.mpr ⟨?_, p, hp, hr, c⟩
      have := sb_dry s t L hs ht hL (st + H) d q f
      rw [show st + k + 1 = st + H - d by omega]; exact this
theorem bk_start (H : Nat) (hn : ∀ k, k < H → rch s t L st k (s.size + 1) = false) : ∀ k p, k ≤ H → rch s t L st k p = true → 0 < bk s t L (st + H) (H - k) p → 0 < bk s t L (st + H) H 0
  | 0, p, _, hr, h => by
    have : p = 0 := by simpa [Tide.reach] using hr
    rw [this] at h; exact h
  | k + 1, p, hk, hr, h => by
    obtain ⟨a, q, b, c, d⟩ := Tide.reach_succ.mp hr
    refine bk_start H hn k q (by omega) c ?_
    rw [show H - k = (H - (k + 1)) + 1 by omega]
    refine (bk_pos s t L hs ht hL _ _ q).mpr ⟨?_, ?_, p, ?_, d, h⟩
    · refine Classical.byContradiction fun x => ?_
      have e : q = s.size + 1 := by omega
      rw [e] at c
      have c' := hn k (by omega)
      exact Bool.false_ne_true (c'.symm.trans c)
    · have := rch_dry s t L st hs ht hL k q c
      rw [show st + H - (H - (k + 1) + 1) = st + k by omega]; exact this
    · have h0 := bk_sb s t L hs ht hL (st + H) (H - (k + 1)) p h
      refine Classical.byContradiction fun x => ?_
      cases hh : H - (k + 1) with
      | zero => rw [hh] at h; have := (bk_pos0 s t L hs ht hL _ p).mp h; omega
      | succ m => rw [hh] at h; have := ((bk_pos s t L hs ht hL _ m p).mp h).1; omega
theorem least {f : Nat → Bool} : ∀ n, f n = true → ∃ m, m ≤ n ∧ f m = true ∧ ∀ i, i < m → f i = false := by
  intro n
  induction n using Nat.strongRecOn with
  | _ n ih =>
    intro h
    by_cases c : ∃ i, i < n ∧ f i = true
    · obtain ⟨i, a, b⟩ := c
      obtain ⟨m, x, y, z⟩ := ih i a b
      exact ⟨m, by omega, y, z⟩
    · refine ⟨n, Nat.le_refl _, h, fun i hi => ?_⟩
      cases e : f i with
      | false => rfl
      | true => exact absurd ⟨i, hi, e⟩ c
end
end Go.Proofs.YteijbohbdhemoaaDoor.Pl
