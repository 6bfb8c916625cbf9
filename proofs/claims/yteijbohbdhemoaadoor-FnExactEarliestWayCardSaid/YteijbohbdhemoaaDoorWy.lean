/- Plain words of the earliest way: the next place, the way, and what both searches find. -/
import Derived.Test.YteijbohbdhemoaaDoorPl3
namespace Go.Proofs.YteijbohbdhemoaaDoor.Wy
set_option linter.unusedVariables false
set_option linter.unusedSimpArgs false
open Go.RowKit Go.Proofs.YteijbohbdhemoaaDoorW.PrintWords Go.Proofs.YteijbohbdhemoaaDoorW.PrintLast Go.Proofs.YteijbohbdhemoaaDoorW.PrintMore Sh Cr Sm Tb Pl
/-- The first of d places from q on at which f holds, or the end. -/
def lf (f : Nat → Bool) : Nat → Nat → Nat
  | 0, q => q
  | d + 1, q => if f q = true then q else lf f d (q + 1)
theorem lf_is {f : Nat → Bool} {q0 : Nat} (h : f q0 = true) (hn : ∀ i, i < q0 → f i = false) : ∀ d q, q ≤ q0 → q0 < q + d → lf f d q = q0
  | 0, q, h1, h2 => by omega
  | d + 1, q, h1, h2 => by
    simp only [lf]
    by_cases c : q = q0
    · rw [c, if_pos h]
    · rw [if_neg (by rw [hn q (by omega)]; decide)]
      exact lf_is h hn d (q + 1) (by omega) (by omega)
/-- Whether one goes from a to i at the hour j. -/
def fits (s t : ByteArray) (L st H j a : Nat) : Nat → Bool := fun i => decide (0 < bk s t L (st + H) (H - (j + 1)) i) && Tide.near L a i
/-- The place at the hour j of the first way. -/
def pl (s t : ByteArray) (L st H : Nat) : Nat → Nat
  | 0 => 0
  | j + 1 => lf (fits s t L st H j (pl s t L st H j)) (s.size + 2) 0
theorem pl_is (s t : ByteArray) (L st H : Nat) {j q0 : Nat} (hq : q0 < s.size + 2) (h : fits s t L st H j (pl s t L st H j) q0 = true) (hmin : ∀ i, i < q0 → fits s t L st H j (pl s t L st H j) i = false) : pl s t L st H (j + 1) = q0 :=
  lf_is h hmin _ 0 (by omega) (by omega)
section
variable (s t : ByteArray) (L st : Nat) (hs : 1 ≤ s.size ∧ s.size ≤ 14) (ht : 1 ≤ t.size ∧ t.size ≤ 12) (hL : 1 ≤ L ∧ L ≤ 15)
include hs ht hL
theorem step (H : Nat) (hn : ∀ k, k < H → rch s t L st k (s.size + 1) = false) (j a : Nat) (hj : j < H) (ha : a < s.size + 2) (hr : rch s t L st j a = true) (hb : 0 < bk s t L (st + H) (H - j) a) :
    ∃ q0, q0 < s.size + 2 ∧ fits s t L st H j a q0 = true ∧ (∀ i, i < q0 → fits s t L st H j a i = false) ∧ sb s t L (st + H) (H - (j + 1)) q0 = true ∧ a - L ≤ q0 ∧ (∀ i, a - L ≤ i → i < q0 → sb s t L (st + H) (H - (j + 1)) i = false) ∧ rch s t L st (j + 1) q0 = true ∧ 0 < bk s t L (st + H) (H - (j + 1)) q0 := by
  have hm : H - j = (H - (j + 1)) + 1 := by omega
  rw [hm] at hb
  obtain ⟨_, hda, q, hq, hnq, hbq⟩ := (bk_pos s t L hs ht hL _ _ a).mp hb
  obtain ⟨q0, hle, hq0, hmin⟩ := least (f := fits s t L st H j a) s t L hs ht hL q (by unfold fits; simp only [Bool.and_eq_true, decide_eq_true_eq]; exact ⟨hbq, hnq⟩)
  have hq0' := hq0
  unfold fits at hq0'
  simp only [Bool.and_eq_true, decide_eq_true_eq] at hq0'
  have hq2 : q0 < s.size + 2 := by omega
  have hs0 : sb s t L (st + H) (H - (j + 1)) q0 = true := bk_sb s t L hs ht hL _ _ _ hq0'.1
  have reach : ∀ i, i < s.size + 2 → Tide.near L a i = true → sb s t L (st + H) (H - (j + 1)) i = true → rch s t L st (j + 1) i = true := by
    intro i hi hni hsi
    refine Tide.reach_succ.mpr ⟨?_, a, ha, hr, hni⟩
    have := sb_dry s t L hs ht hL (st + H) _ i hsi
    rw [show st + j + 1 = st + H - (H - (j + 1)) by omega]; exact this
  have hn1 := hq0'.2
  simp only [Tide.near, decide_eq_true_eq] at hn1
  refine ⟨q0, hq2, hq0, hmin, hs0, by omega, fun i h1 h2 => ?_, reach q0 hq2 hq0'.2 hs0, hq0'.1⟩
  cases e : sb s t L (st + H) (H - (j + 1)) i with
  | false => rfl
  | true =>
    have hni : Tide.near L a i = true := by simp only [Tide.near, decide_eq_true_eq]; omega
    have hri := reach i (by omega) hni e
    have hpi := sb_bk s t L st hs ht hL H hn (H - (j + 1)) (j + 1) i (by omega) (by omega) hri e
    have := hmin i h2
    unfold fits at this
    rw [hni, decide_eq_true hpi] at this; cases this
theorem inv (H : Nat) (hn : ∀ k, k < H → rch s t L st k (s.size + 1) = false) (hb : 0 < bk s t L (st + H) H 0) : ∀ j, j ≤ H → pl s t L st H j < s.size + 2 ∧ rch s t L st j (pl s t L st H j) = true ∧ 0 < bk s t L (st + H) (H - j) (pl s t L st H j)
  | 0, _ => ⟨by show 0 < _; omega, by simp [pl, Tide.reach], hb⟩
  | j + 1, hj => by
    obtain ⟨h1, h2, h3⟩ := inv H hn hb j (by omega)
    obtain ⟨q0, a1, a2, a3, _, _, _, a7, a8⟩ := step s t L st hs ht hL H hn j _ (by omega) h1 h2 h3
    rw [pl_is s t L st H a1 a2 a3]
    exact ⟨a1, a7, a8⟩
/-- What both searches find at the hour j. -/
theorem found (H : Nat) (hn : ∀ k, k < H → rch s t L st k (s.size + 1) = false) (hb : 0 < bk s t L (st + H) H 0) (j : Nat) (hj : j < H) :
    fits s t L st H j (pl s t L st H j) (pl s t L st H (j + 1)) = true ∧ (∀ i, i < pl s t L st H (j + 1) → fits s t L st H j (pl s t L st H j) i = false) ∧ sb s t L (st + H) (H - (j + 1)) (pl s t L st H (j + 1)) = true ∧ pl s t L st H j - L ≤ pl s t L st H (j + 1) ∧ (∀ i, pl s t L st H j - L ≤ i → i < pl s t L st H (j + 1) → sb s t L (st + H) (H - (j + 1)) i = false) := by
  obtain ⟨h1, h2, h3⟩ := inv s t L st hs ht hL H hn hb j (by omega)
  obtain ⟨q0, a1, a2, a3, a4, a5, a6, _, _⟩ := step s t L st hs ht hL H hn j _ hj h1 h2 h3
  rw [pl_is s t L st H a1 a2 a3]
  exact ⟨a2, a3, a4, a5, a6⟩
/-- Where the far bank is reached at the hour H first, it can be told backwards. -/
theorem ahead (H : Nat) (hr : rch s t L st H (s.size + 1) = true) (hn : ∀ k, k < H → rch s t L st k (s.size + 1) = false) : 0 < bk s t L (st + H) H 0 :=
  bk_start s t L st hs ht hL H hn H (s.size + 1) (Nat.le_refl _) hr (by rw [Nat.sub_self]; exact (bk_pos0 s t L hs ht hL _ _).mpr rfl)
end
/-- The way as numbers. -/
def way (s t : ByteArray) (L st H : Nat) : Nat → Int := fun j => ((pl s t L st H j : Nat) : Int)
end Go.Proofs.YteijbohbdhemoaaDoor.Wy
