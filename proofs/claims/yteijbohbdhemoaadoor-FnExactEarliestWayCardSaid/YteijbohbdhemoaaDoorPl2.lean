/- Plain words of ways over tides: turned tides, the latest start, the least leap. -/
import Derived.Test.YteijbohbdhemoaaDoorPl
namespace Go.Proofs.YteijbohbdhemoaaDoor.Pl
set_option linter.unusedVariables false
set_option linter.unusedSimpArgs false
open Go.RowKit Go.Proofs.YteijbohbdhemoaaDoorW.PrintWords Go.Proofs.YteijbohbdhemoaaDoorW.PrintLast Go.Proofs.YteijbohbdhemoaaDoorW.PrintMore Sh Cr Sm Tb
namespace Tide
section
variable {P L T : Nat} {dry : Nat → Nat → Bool}
theorem shift (h0 : ∀ h, dry 0 h = true) (hP : 0 < P) (st : Nat) : ∀ h p, reach P L dry st h p = true → reach P L dry 0 (st + h) p = true
  | 0, p, h => by
    have : p = 0 := by simpa [reach] using h
    subst this; exact stay h0 hP _
  | h + 1, p, hr => by
    obtain ⟨a, q, b, c, d⟩ := reach_succ.mp hr
    rw [show st + (h + 1) = (st + h) + 1 by omega]
    refine reach_succ.mpr ⟨?_, q, b, shift h0 hP st h q c, d⟩
    rw [show 0 + (st + h) + 1 = st + h + 1 by omega]; exact a
theorem turn (hd : ∀ p h, dry p (h + T) = dry p h) (st : Nat) : ∀ h p, reach P L dry (st + T) h p = reach P L dry st h p
  | 0, p => rfl
  | h + 1, p => by
    rw [Bool.eq_iff_iff, reach_succ, reach_succ]
    have e : dry p (st + T + h + 1) = dry p (st + h + 1) := by
      have := hd p (st + h + 1)
      rw [show st + T + h + 1 = st + h + 1 + T by omega]; exact this
    rw [e]
    constructor
    · rintro ⟨a, q, b, c, d⟩; exact ⟨a, q, b, by rw [← turn hd st h q]; exact c, d⟩
    · rintro ⟨a, q, b, c, d⟩; exact ⟨a, q, b, by rw [turn hd st h q]; exact c, d⟩
theorem turns (hd : ∀ p h, dry p (h + T) = dry p h) (st : Nat) : ∀ k h p, reach P L dry (st + k * T) h p = reach P L dry st h p
  | 0, h, p => by rw [Nat.zero_mul, Nat.add_zero]
  | k + 1, h, p => by rw [show st + (k + 1) * T = (st + k * T) + T by rw [Nat.add_mul, Nat.one_mul]; omega, turn hd, turns hd st k]
end
end Tide
theorem end_cases (s t : ByteArray) (L st : Nat) : (endOf s t L st = -1 ∧ ∀ h, h ≤ (s.size + 2) * t.size → rch s t L st h (s.size + 1) = false) ∨
    ∃ h, h ≤ (s.size + 2) * t.size ∧ endOf s t L st = ((st + h : Nat) : Int) ∧ rch s t L st h (s.size + 1) = true ∧ ∀ h', h' < h → rch s t L st h' (s.size + 1) = false := by
  rcases Int.lt_or_le (endOf s t L st) 0 with c | c
  · exact .inl (Tide.first_neg _ _ c)
  · exact .inr (Tide.first_pos _ _ c)
theorem pt_le {a b : Nat} (ha : a ≤ 14) (hb : b ≤ 12) : (a + 2) * b ≤ 192 := Nat.le_trans (Nat.mul_le_mul (show a + 2 ≤ 16 by omega) hb) (by omega)
/-- From a start one is at the far bank by an hour. -/
def byHour (s t : ByteArray) (L E st : Nat) : Bool := decide (0 ≤ endOf s t L st) && decide (endOf s t L st ≤ (E : Int))
theorem end_turn (s t : ByteArray) (L : Nat) (ht : 1 ≤ t.size) (st k : Nat) : (endOf s t L (st + k * t.size) = -1 ∧ endOf s t L st = -1) ∨
    ∃ h, h ≤ (s.size + 2) * t.size ∧ endOf s t L st = ((st + h : Nat) : Int) ∧ endOf s t L (st + k * t.size) = ((st + k * t.size + h : Nat) : Int) := by
  have hd : ∀ p h, dryN s t p (h + t.size) = dryN s t p h := fun p h => dryN_tide s t p h ht
  rcases end_cases s t L st with ⟨a, b⟩ | ⟨h, a, b, c, d⟩
  · left
    rcases end_cases s t L (st + k * t.size) with ⟨a', _⟩ | ⟨h', x, _, z, _⟩
    · exact ⟨a', a⟩
    · have e : rch s t L (st + k * t.size) h' (s.size + 1) = rch s t L st h' (s.size + 1) := Tide.turns hd st k h' (s.size + 1)
      rw [e, b h' x] at z; cases z
  · right
    refine ⟨h, a, b, ?_⟩
    exact Tide.first_unique a (by rw [Tide.turns hd st k]; exact c) (fun h' hh => by rw [Tide.turns hd st k]; exact d h' hh)
def lastOf (s t : ByteArray) (L E : Nat) : Nat → Int × Bool
  | 0 => (0, false)
  | m + 1 => if byHour s t L E m = true then ((m : Int), true) else lastOf s t L E m
theorem last_none (s t : ByteArray) (L E : Nat) : ∀ m, (∀ st, st < m → byHour s t L E st = false) → lastOf s t L E m = (0, false)
  | 0, _ => rfl
  | m + 1, h => by
    simp only [lastOf]
    rw [if_neg (by rw [h m (by omega)]; decide)]
    exact last_none s t L E m fun st hst => h st (by omega)
/-- If any start serves, one within so many hours does. -/
theorem in_window (s t : ByteArray) (L E st : Nat) (ht : 1 ≤ t.size) (hst : st ≤ E) (hw : ¬ (E < st + t.size * (s.size + 4))) (h : byHour s t L E st = true) : ∃ st', st < st' ∧ st' ≤ E ∧ byHour s t L E st' = true := by
  unfold byHour at h
  rw [Bool.and_eq_true, decide_eq_true_eq, decide_eq_true_eq] at h
  have key := end_turn s t L ht st 1
  rw [Nat.one_mul] at key
  rcases key with ⟨_, b⟩ | ⟨g, x, b, a⟩
  · omega
  · have e : t.size * (s.size + 4) = (s.size + 2) * t.size + t.size + t.size := by
      rw [Nat.mul_comm t.size, Nat.add_mul, Nat.add_mul]; omega
    refine ⟨st + t.size, by omega, by omega, ?_⟩
    unfold byHour
    rw [Bool.and_eq_true, decide_eq_true_eq, decide_eq_true_eq, a]
    omega
theorem none_left (s t : ByteArray) (L E m : Nat) (ht : 1 ≤ t.size) (hm : m ≤ E) (hw : ¬ (E < m + t.size * (s.size + 4))) (hno : ∀ st, m < st → st ≤ E → byHour s t L E st = false) (d : Nat) : ∀ st, st + d = m → byHour s t L E st = false := by
  induction d using Nat.strongRecOn with
  | _ d ih =>
    intro st hst
    cases hc : byHour s t L E st with
    | false => rfl
    | true =>
      obtain ⟨st', a, b, c⟩ := in_window s t L E st ht (by omega) (by omega) hc
      by_cases e : m < st'
      · have := hno st' e b; rw [c] at this; cases this
      · have := ih (m - st') (by omega) st' (by omega); rw [c] at this; cases this
theorem some_start (s t : ByteArray) (L : Nat) (ht : 1 ≤ t.size) : (∃ j, j < t.size ∧ endOf s t L j ≥ 0) ↔ endOf s t L 0 ≥ 0 := by
  constructor
  · rintro ⟨j, _, hj⟩
    obtain ⟨h, a, b, c, _⟩ := (end_cases s t L j).resolve_left (fun x => by omega)
    have h2 := Tide.shift (fun h => dryN_bank s t h) (by omega) j h (s.size + 1) c
    obtain ⟨h', x, _, z⟩ := Tide.within_tides (T := t.size) (fun p h => dryN_tide s t p h ht) (fun h => dryN_bank s t h) (by omega) (by omega) _ _ (by omega) h2
    exact Tide.first_of_reach x z
  · intro h; exact ⟨0, by omega, h⟩
theorem far_leap (s t : ByteArray) (ht : 1 ≤ t.size) : endOf s t (s.size + 1) 0 ≥ 0 := by
  have h1 : rch s t (s.size + 1) 0 1 (s.size + 1) = true :=
    Tide.reach_succ.mpr ⟨dryN_end s t _, 0, by omega, by simp [Tide.reach], by simp only [Tide.near, decide_eq_true_eq]; omega⟩
  exact Tide.first_of_reach (show 1 ≤ (s.size + 2) * t.size from Nat.mul_pos (by omega) ht) h1
end Go.Proofs.YteijbohbdhemoaaDoor.Pl
