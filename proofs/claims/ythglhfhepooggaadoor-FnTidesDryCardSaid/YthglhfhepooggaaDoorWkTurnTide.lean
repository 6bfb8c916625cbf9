/- impl.TurnTide at this program answers as the reference's printed function. Condition: the text lies within the reach. -/
import Derived.Test.YthglhfhepooggaaDoorSh
import Derived.Test.YthglhfhepooggaaDoorPFnExactTurnTidex1
import Derived.BigQuiet
import Derived.Deep.QuietTactic
namespace Go.Proofs.YthglhfhepooggaaDoor.WkTurnTide
set_option linter.unusedVariables false
set_option linter.unusedSimpArgs false
open Go.RowKit Go.Proofs.YthglhfhepooggaaDoorW.PrintWords Go.Proofs.YthglhfhepooggaaDoorW.PrintLast Go.Proofs.YthglhfhepooggaaDoorW.PrintMore Sh

def val (s : ByteArray) (a : Int) : ByteArray × Bool := if okTide s = true ∧ 0 ≤ a ∧ a ≤ (s.size : Int) - 1 then (s.extract a.toNat s.size ++ s.extract 0 a.toNat, true) else (⟨#[]⟩, false)

set_option maxHeartbeats 2000000 in
set_option maxRecDepth 100000 in
theorem impl (s : ByteArray) (a : Int) (w : World) (hs : s.size ≤ 140737488351232) : Calls Tryd.prog 20 #[.string s, .int .i64 a] w fun e w' => e = .returned (.tuple #[.string (val s a).1, .bool (val s a).2]) ∧ Below w.heap.size w w' := by
  have c1 := isTide s w hs
  have hs2 : s.size ≤ 9223372036854775807 := by omega
  unfold val
  cases h1 : okTide s with
  | false =>
    rw [h1] at c1
    rw [if_neg (by simp)]
    clear h1
    go_enter Tryd.func20, Tryd.ntmps20
    go_wp2_with fail
    refine c1.mono ?_
    clear c1
    rintro e w1 ⟨rfl, hb⟩
    have HB := Aside0.mk hb
    clear hb
    go_wp2_with fail
    go_ret2
    exact ⟨rfl, HB.out⟩
  | true =>
    have hz := okTide_size h1
    have hz1 : 1 ≤ s.size := hz.1
    have hz2 : s.size ≤ 12 := hz.2
    rw [h1] at c1
    clear h1 hz
    by_cases h2 : 0 ≤ a ∧ a ≤ (s.size : Int) - 1
    · rw [if_pos ⟨rfl, h2⟩]
      obtain ⟨q, rfl⟩ : ∃ q : Nat, a = (q : Int) := ⟨a.toNat, by omega⟩
      have h3 : q < s.size := by omega
      have h4 : q ≤ s.size := by omega
      have e1 : decide ((0 : Int) ≤ (q : Int) ∧ (q : Int) ≤ (s.size : Int) - 1) = true := decide_eq_true (by omega)
      have E1 := Aside0.mk e1
      clear h2 e1
      rw [Int.toNat_natCast]
      go_enter Tryd.func20, Tryd.ntmps20
      go_wp2_with fail
      refine c1.mono ?_
      clear c1
      rintro e w1 ⟨rfl, hb⟩
      have HB := Aside0.mk hb
      clear hb
      go_wp2_with fail
      refine (within_any _ _ _ _).mono ?_
      rw [E1.out]
      rintro e w' ⟨rfl, rfl⟩
      go_wp2_with fail
      have hsz : (s.size - q) + q ≤ 9223372036854775807 := by omega
      go_quiet (fail)
      all_goals go_wp2
      go_ret2
      exact ⟨by first | rfl | trace_state, by first | exact pw_below_drewN HB.out _ | exact HB.out⟩
    · rw [if_neg (fun h => h2 h.2)]
      have e1 : decide ((0 : Int) ≤ a ∧ a ≤ (s.size : Int) - 1) = false := decide_eq_false h2
      have E1 := Aside0.mk e1
      clear h2 e1
      go_enter Tryd.func20, Tryd.ntmps20
      go_wp2_with fail
      refine c1.mono ?_
      clear c1
      rintro e w1 ⟨rfl, hb⟩
      have HB := Aside0.mk hb
      clear hb
      go_wp2_with fail
      refine (within_any _ _ _ _).mono ?_
      rw [E1.out]
      rintro e w' ⟨rfl, rfl⟩
      go_wp2_with fail
      go_ret2
      exact ⟨rfl, HB.out⟩
end Go.Proofs.YthglhfhepooggaaDoor.WkTurnTide
