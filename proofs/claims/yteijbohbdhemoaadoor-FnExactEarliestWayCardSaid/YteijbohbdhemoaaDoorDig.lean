/- Texts of digits: the plain law of strings.Trim at the ten digits. No condition. -/
import Derived.Test.YteijbohbdhemoaaDoorWWords
import Derived.Test.YteijbohbdhemoaaDoorWLast
import Derived.Test.YteijbohbdhemoaaDoorWMore
import Derived.Shelf.Strings.SlTrimAscii
namespace Go.Proofs.YteijbohbdhemoaaDoor.Sh
open Go.RowKit Go.Proofs.YteijbohbdhemoaaDoorW.PrintWords Go.Proofs.YteijbohbdhemoaaDoorW.PrintLast Go.Proofs.YteijbohbdhemoaaDoorW.PrintMore
set_option linter.unusedVariables false
set_option linter.unusedSimpArgs false
def isDig (b : UInt8) : Bool := decide (48 ≤ b.toNat) && decide (b.toNat ≤ 57)
def digs (s : ByteArray) : Bool := s.data.toList.all isDig
theorem size_list (s : ByteArray) : s.data.toList.length = s.size := by rw [Array.length_toList]; rfl
theorem bt_list (s : ByteArray) (n : Nat) (h : n < s.size) : bt s (n : Int) = ((s.data.toList[n]'(by rw [size_list]; exact h)).toNat : Int) := by
  unfold bt
  rw [dif_pos (show (n : Int).toNat < s.size by omega)]
  rfl
theorem isDig_iff (b : UInt8) : isDig b = true ↔ ¬ ((b.toNat : Int) < 48) ∧ ¬ ((b.toNat : Int) > 57) := by
  unfold isDig; simp only [Bool.and_eq_true, decide_eq_true_eq]; omega
theorem contains_dig (x : UInt8) : ([48, 49, 50, 51, 52, 53, 54, 55, 56, 57] : List UInt8).contains x = isDig x := by
  rw [Bool.eq_iff_iff]
  unfold isDig
  simp only [List.contains_iff_mem, List.mem_cons, List.mem_nil_iff, or_false, Bool.and_eq_true, decide_eq_true_eq, ← UInt8.toNat_inj]
  simp only [UInt8.toNat_ofNat]
  omega
theorem drop_nil {p : UInt8 → Bool} {l : List UInt8} : l.dropWhile p = [] ↔ ∀ x ∈ l, p x = true := by
  induction l with
  | nil => simp
  | cons a l ih =>
    rw [List.dropWhile_cons]
    by_cases h : p a = true
    · rw [if_pos h, ih]; simp [h]
    · rw [if_neg h]; simp [h]
theorem drop_head {p : UInt8 → Bool} : ∀ {l : List UInt8} {a : UInt8} {r : List UInt8}, l.dropWhile p = a :: r → p a = false
  | [], _, _, h => by simp at h
  | b :: l, a, r, h => by
    rw [List.dropWhile_cons] at h
    by_cases hb : p b = true
    · rw [if_pos hb] at h; exact drop_head h
    · rw [if_neg hb] at h
      injection h with h1 _
      subst h1
      simpa using hb
theorem trim_nil (l cs : List UInt8) : Lib.trimS l cs = [] ↔ ∀ x ∈ l, cs.contains x = true := by
  unfold Lib.trimS Lib.trimLeftS
  rw [drop_nil]
  constructor
  · intro h
    have e : l.reverse.dropWhile (cs.contains ·) = [] := by
      cases hd : l.reverse.dropWhile (cs.contains ·) with
      | nil => rfl
      | cons a r =>
        have h1 := drop_head hd
        have h2 := h a (by unfold Lib.trimRightS; rw [hd]; simp)
        rw [h1] at h2; cases h2
    intro x hx
    exact drop_nil.mp e x (by simpa using hx)
  · intro h x hx
    unfold Lib.trimRightS at hx
    have : x ∈ l.reverse.dropWhile (cs.contains ·) := by simpa using hx
    exact h x (by have := (List.dropWhile_sublist (cs.contains ·) (l := l.reverse)).subset this; simpa using this)
theorem trim_digs (s : ByteArray) : ((⟨(Lib.trimS s.data.toList [48, 49, 50, 51, 52, 53, 54, 55, 56, 57]).toArray⟩ : ByteArray).toList = []) ↔ digs s = true := by
  rw [Lib.toList_data]
  simp only [digs, List.all_eq_true]
  show Lib.trimS s.data.toList [48, 49, 50, 51, 52, 53, 54, 55, 56, 57] = [] ↔ _
  rw [trim_nil]
  constructor
  · intro h x hx; rw [← contains_dig]; exact h x hx
  · intro h x hx; rw [contains_dig]; exact h x hx
def okShore (s : ByteArray) : Bool := decide (1 ≤ (s.size : Int) ∧ (s.size : Int) ≤ 14) && digs s
def okTide (s : ByteArray) : Bool := decide (1 ≤ (s.size : Int) ∧ (s.size : Int) ≤ 12) && digs s
theorem okShore_size {s : ByteArray} (h : okShore s = true) : 1 ≤ s.size ∧ s.size ≤ 14 := by
  unfold okShore at h; simp only [Bool.and_eq_true, decide_eq_true_eq] at h; omega
theorem okTide_size {s : ByteArray} (h : okTide s = true) : 1 ≤ s.size ∧ s.size ≤ 12 := by
  unfold okTide at h; simp only [Bool.and_eq_true, decide_eq_true_eq] at h; omega
end Go.Proofs.YteijbohbdhemoaaDoor.Sh
