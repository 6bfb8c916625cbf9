/- impl.IsTideWay at this program answers val; nothing that lay before is turned. Condition: the texts lie within the reach; the slice reads. -/
import Derived.Test.YthglhfhepooggaaDoorCr
import Derived.Test.YthglhfhepooggaaDoorPFnExactIsTideWayx1
import Derived.Test.YthglhfhepooggaaDoorPFnExactIsTideWayx2
import Derived.Test.YthglhfhepooggaaDoorPFnExactIsTideWayx3
import Derived.Deep.RegionHeld3
import Derived.BigQuiet
import Derived.Deep.QuietTactic
import Derived.IntWalk
namespace Go.Proofs.YthglhfhepooggaaDoor.WkTide
set_option linter.unusedVariables false
set_option linter.unusedSimpArgs false
open Go.RowKit Go.Proofs.YthglhfhepooggaaDoorW.PrintWords Go.Proofs.YthglhfhepooggaaDoorW.PrintLast Go.Proofs.YthglhfhepooggaaDoorW.PrintMore Sh Cr PFnExactIsTideWay

theorem dry_eq (s t : ByteArray) (p h : Int) : impl_isDry.f s t p h = spec_tdDry.f s t p h := by
  unfold impl_isDry.f spec_tdDry.f; rfl
/-- Whether a place is dry at an hour. -/
def dryB (s t : ByteArray) (p h : Int) : Bool := decide (p = 0) || decide (p = (s.size : Int) + 1) || decide ((bt s (p - 1)) > (bt t (h % (t.size : Int))))
theorem dry_is (s t : ByteArray) (p h : Int) (hs : s.size ≤ 14) (ht : 1 ≤ t.size ∧ t.size ≤ 12) (hp : 0 ≤ p ∧ p ≤ (s.size : Int) + 1) (hh : 0 ≤ h) : spec_tdDry.f s t p h = some (dryB s t p h) := by
  unfold spec_tdDry.f dryB
  have e1 : wrap64 ((s.size : Int) + 1) = (s.size : Int) + 1 := by unfold wrap64; omega
  have e2 : wrap64 (p - 1) = p - 1 := by unfold wrap64; omega
  have e3 : Int.tmod h (t.size : Int) = h % (t.size : Int) := Int.tmod_eq_emod_of_nonneg hh
  have e4 : 0 ≤ h % (t.size : Int) ∧ h % (t.size : Int) < (t.size : Int) := ⟨Int.emod_nonneg _ (by omega), Int.emod_lt_of_pos _ (by omega)⟩
  rw [e1, e2, e3]
  by_cases c0 : p = 0
  · rw [if_pos c0]; simp [c0]
  · rw [if_neg c0]
    by_cases c1 : p = (s.size : Int) + 1
    · rw [if_pos c1]; simp [c1]
    · rw [if_neg c1, if_pos (by omega), if_pos (by omega), if_neg (by omega), if_pos e4.1, if_pos e4.2]
      simp [c0, c1]

def okHour (p : Int) : Bool := decide (0 ≤ p ∧ p ≤ 1000)
def inR (s : ByteArray) (w : List Int) (i : Nat) : Bool := decide (0 ≤ rd w (i : Int) ∧ rd w (i : Int) ≤ (s.size : Int) + 1)
def nearB (L : Int) (w : List Int) (i : Nat) : Bool := decide (i = 0) || decide (-L ≤ rd w (i : Int) - rd w ((i : Int) - 1) ∧ rd w (i : Int) - rd w ((i : Int) - 1) ≤ L)
def goodB (s t : ByteArray) (L st : Int) (w : List Int) (i : Nat) : Bool := inR s w i && (dryB s t (rd w (i : Int)) (st + (i : Int)) && nearB L w i)
def allG (s t : ByteArray) (L st : Int) (w : List Int) : Nat → Nat → Bool
  | 0, _ => true
  | d + 1, i => goodB s t L st w i && allG s t L st w d (i + 1)
def fin (s : ByteArray) (w : List Int) : Bool := decide (0 < w.length) && (decide (rd w 0 = 0) && decide (rd w ((w.length : Int) - 1) = (s.size : Int) + 1))
def val (s t : ByteArray) (L st : Int) (l : List Int) : Bool × Bool := if okRight s t L = true ∧ okHour st = true ∧ l.length ≤ 1000 then (allG s t L st l l.length 0 && fin s l, true) else (false, false)

theorem hour_any (h : Int) (w : World) : Calls Tryd.prog 65 #[.int .i64 h] w fun e w' => e = .returned (.bool (okHour h)) ∧ w' = w := by
  go_enter Tryd.func65, Tryd.ntmps65
  go_wp2_with fail
  refine (within_any _ _ _ _).mono ?_
  rintro e w' ⟨rfl, rfl⟩
  go_wp2_with fail
  go_ret
  exact ⟨by show Ending.returned (.bool (decide (0 ≤ h) && decide (h ≤ 1000))) = _; simp [okHour], rfl⟩
theorem w_id {n : Int} (h0 : -9000 ≤ n) (h1 : n ≤ 9000) : wrap64 n = n := by unfold wrap64; omega
theorem dry_any (s t : ByteArray) (p h : Int) (w : World) (hs : s.size ≤ 14) (ht : 1 ≤ t.size ∧ t.size ≤ 12) (hp : 0 ≤ p ∧ p ≤ (s.size : Int) + 1) (hh : 0 ≤ h) : Calls Tryd.prog 66 #[.string s, .string t, .int .i64 p, .int .i64 h] w fun e w' => e = .returned (.bool (dryB s t p h)) ∧ Drawn0 w w' :=
  impl_isDry.calls s t p h _ w ((dry_eq s t p h).trans (dry_is s t p h hs ht hp hh))
theorem places_any (s t : ByteArray) (L : Int) (w : World) (hs : s.size ≤ 14) : Calls Tryd.prog 81 #[agg s t L] w fun e w' => e = .returned (.int .i64 ((s.size : Int) + 2)) ∧ Below w.heap.size w w' :=
  impl_crossing_places.calls s t L _ w (by unfold impl_crossing_places.f; rw [w_id (by omega) (by omega)])
theorem near_any (s t : ByteArray) (L a b : Int) (w : World) (hL : 1 ≤ L ∧ L ≤ 15) (ha : 0 ≤ a ∧ a ≤ 1000) (hb : 0 ≤ b ∧ b ≤ 1000) : Calls Tryd.prog 82 #[agg s t L, .int .i64 a, .int .i64 b] w fun e w' => e = .returned (.bool (decide (-L ≤ b - a ∧ b - a ≤ L))) ∧ Below w.heap.size w w' := by
  refine impl_crossing_near.calls s t L a b _ w ?_
  unfold impl_crossing_near.f impl_within.f
  rw [w_id (n := b - a) (by omega) (by omega), w_id (n := -L) (by omega) (by omega)]
  by_cases h : -L ≤ b - a
  · rw [if_pos h]; simp [h]
  · rw [if_neg h]; simp [h]
end Go.Proofs.YthglhfhepooggaaDoor.WkTide
