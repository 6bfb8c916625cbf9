/- Small functions at this program: isHour, (crossing).near, places, isDry, bits.Mul of 1 and a small number. Conditions: small texts and numbers. -/
import Derived.Test.YteijbohbdhemoaaDoorCr
import Derived.BigQuiet
import Derived.Deep.QuietTactic
namespace Go.Proofs.YteijbohbdhemoaaDoor.Sm
set_option linter.unusedVariables false
set_option linter.unusedSimpArgs false
open Go.RowKit Go.Proofs.YteijbohbdhemoaaDoorW.PrintWords Go.Proofs.YteijbohbdhemoaaDoorW.PrintLast Go.Proofs.YteijbohbdhemoaaDoorW.PrintMore Sh Cr

theorem w_id {x : Int} (h0 : -1000000000000000 ≤ x) (h1 : x ≤ 1000000000000000) : wrap64 x = x := by unfold wrap64; omega
def okHour (p : Int) : Bool := decide (0 ≤ p ∧ p ≤ 1000)
theorem isHour (h : Int) (w : World) : Calls Tryd.prog 33 #[.int .i64 h] w fun e w' => e = .returned (.bool (okHour h)) ∧ w' = w := by
  go_enter Tryd.func33, Tryd.ntmps33
  go_wp2_with fail
  refine (within_any _ _ _ _).mono ?_
  rintro e w' ⟨rfl, rfl⟩
  go_wp2_with fail
  go_ret
  exact ⟨by show Ending.returned (.bool (decide (0 ≤ h) && decide (h ≤ 1000))) = _; simp [okHour], rfl⟩
def nearI (L q p : Int) : Bool := decide (-L ≤ p - q ∧ p - q ≤ L)
set_option maxHeartbeats 1000000 in
theorem near (s t : ByteArray) (L q p : Int) (w : World) (hL : 0 ≤ L ∧ L ≤ 100000) (hq : 0 ≤ q ∧ q ≤ 100000) (hp : 0 ≤ p ∧ p ≤ 100000) : Calls Tryd.prog 38 #[agg s t L, .int .i64 q, .int .i64 p] w fun e w' => e = .returned (.bool (nearI L q p)) ∧ Below w.heap.size w w' := by
  have hu39 := Tryd.underlying39
  have e1 : wrap64 (p - q) = p - q := w_id (by omega) (by omega)
  have e2 : wrap64 (-L) = -L := w_id (by omega) (by omega)
  clear hL hq hp
  go_enter Tryd.func38, Tryd.ntmps38
  go_wp2_with fail
  refine (within_any _ _ _ _).mono ?_
  rintro e w' ⟨rfl, rfl⟩
  go_wp2_with fail
  go_ret
  exact ⟨by first | rfl | (simp [nearI]; done) | (unfold nearI; rw [← e1, ← e2]), below_alloc (Below.refl _ _) _⟩
theorem places (s t : ByteArray) (L : Int) (w : World) (hs : s.size ≤ 100000) : Calls Tryd.prog 49 #[agg s t L] w fun e w' => e = .returned (.int .i64 ((s.size + 2 : Nat) : Int)) ∧ Below w.heap.size w w' := by
  have hu39 := Tryd.underlying39
  have e1 : wrap64 ((s.size : Int) + 2) = ((s.size + 2 : Nat) : Int) := w_id (by omega) (by omega)
  have hs2 : s.size ≤ 9223372036854775807 := by omega
  clear hs
  go_enter Tryd.func49, Tryd.ntmps49
  go_wp2_with fail
  go_ret
  exact ⟨by show Ending.returned (.int .i64 (wrap64 ((s.size : Int) + 2))) = _; rw [e1], below_alloc (Below.refl _ _) _⟩

/-- Whether a place is dry at an hour. -/
def dryB (s t : ByteArray) (p h : Int) : Bool := decide (p = 0) || decide (p = (s.size : Int) + 1) || decide ((bt s (p - 1)) > (bt t (h % (t.size : Int))))
set_option maxHeartbeats 2000000 in
theorem isDry (s t : ByteArray) (p h : Int) (w : World) (hs : s.size ≤ 14) (ht : 1 ≤ t.size ∧ t.size ≤ 12) (hp : 0 ≤ p ∧ p ≤ (s.size : Int) + 1) (hh : 0 ≤ h) : Calls Tryd.prog 50 #[.string s, .string t, .int .i64 p, .int .i64 h] w fun e w' => e = .returned (.bool (dryB s t p h)) ∧ Drawn0 w w' := by
  have e1 : wrap64 ((s.size : Int) + 1) = (s.size : Int) + 1 := w_id (by omega) (by omega)
  have e2 : wrap64 (p - 1) = p - 1 := w_id (by omega) (by omega)
  have hs2 : s.size ≤ 9223372036854775807 := by omega
  have ht2 : t.size ≤ 9223372036854775807 := by omega
  by_cases c0 : p = 0
  · have b0 : (p == 0) = true := beq_iff_eq.mpr c0
    have r : dryB s t p h = true := by unfold dryB; simp [c0]
    rw [r]
    clear r c0 hp e2
    go_enter Tryd.func50, Tryd.ntmps50
    go_wp2
    repeat (go_quiet (fail); try go_wp2)
    go_ret
    exact ⟨by first | rfl | (simp; done), by repeat (first | exact Drawn0.refl _ | apply Drawn0.step)⟩
  · have b0 : (p == 0) = false := beq_eq_false_iff_ne.mpr c0
    by_cases c1 : p = (s.size : Int) + 1
    · have b1 : (p == (s.size : Int) + 1) = true := beq_iff_eq.mpr c1
      have r : dryB s t p h = true := by unfold dryB; simp [c1]
      rw [r]
      clear r c0 c1 hp e2
      go_enter Tryd.func50, Tryd.ntmps50
      go_wp2
      repeat (go_quiet (fail); try go_wp2)
      go_ret
      exact ⟨by first | rfl | (simp; done), by repeat (first | exact Drawn0.refl _ | apply Drawn0.step)⟩
    · have b1 : (p == (s.size : Int) + 1) = false := beq_eq_false_iff_ne.mpr c1
      have r : dryB s t p h = decide ((bt t (h % (t.size : Int))) < (bt s (p - 1))) := by unfold dryB; simp [c0, c1]
      obtain ⟨j, hj⟩ : ∃ j, p - 1 = j := ⟨_, rfl⟩
      have e3 : Int.tmod h (t.size : Int) = h % (t.size : Int) := Int.tmod_eq_emod_of_nonneg hh
      obtain ⟨m, hm⟩ : ∃ m, h % (t.size : Int) = m := ⟨_, rfl⟩
      have h4 : 0 ≤ m ∧ m < (t.size : Int) := by rw [← hm]; exact ⟨Int.emod_nonneg _ (by omega), Int.emod_lt_of_pos _ (by omega)⟩
      replace e2 := e2.trans hj
      rw [hj] at r
      rw [hm] at e3 r
      have p13 := eq_true (show 0 ≤ j by omega)
      have q13 := eq_true (show j < (s.size : Int) by omega)
      have p14 := eq_true h4.1
      have q14 := eq_true h4.2
      have hx := bt_at s j
      have hy := bt_at t m
      have z1 : ¬ (t.size : Int) = 0 := by omega
      have z2 : ((t.size : Int) == 0) = false := beq_eq_false_iff_ne.mpr z1
      have e2' : IntKind.i64.wrap (p - 1) = j := (i64_w _).trans e2
      rw [r]
      clear r c0 c1 hp hj hm h4 hs ht
      go_enter Tryd.func50, Tryd.ntmps50
      go_wp2
      repeat (go_quiet (fail); try go_wp2)
      go_ret
      exact ⟨by first | rfl | (simp; done), by repeat (first | exact Drawn0.refl _ | apply Drawn0.step)⟩
end Go.Proofs.YteijbohbdhemoaaDoor.Sm
