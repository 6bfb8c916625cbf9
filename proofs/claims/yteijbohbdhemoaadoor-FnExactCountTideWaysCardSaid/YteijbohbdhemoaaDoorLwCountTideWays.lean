/- laws.FnExactCountTideWays answers true for all arguments; nothing that lay before is turned. Condition: the texts lie within the reach. -/
import Derived.Test.YteijbohbdhemoaaDoorCw
namespace Go.Proofs.YteijbohbdhemoaaDoor.LwCountTideWays
set_option linter.unusedVariables false
set_option linter.unusedSimpArgs false
open Go.RowKit Go.Proofs.YteijbohbdhemoaaDoorW.PrintWords Go.Proofs.YteijbohbdhemoaaDoorW.PrintLast Go.Proofs.YteijbohbdhemoaaDoorW.PrintMore
set_option maxHeartbeats 4000000 in
set_option maxRecDepth 100000 in
theorem whole (s t : ByteArray) (l h m : Int) (w : World) (hs : s.size ≤ 140737488351232) (ht : t.size ≤ 140737488351232) (_ : (Lit.int .i64 l).wf = true) (_ : (Lit.int .i64 h).wf = true) (_ : (Lit.int .i64 m).wf = true) :
    Calls Tryd.prog 10 #[.string s, .string t, .int .i64 l, .int .i64 h, .int .i64 m] w fun e w' => e = .returned (.bool true) ∧ Below w.heap.size w w' := by
  have hs2 : s.size ≤ 9223372036854775807 := by omega
  have ht2 : t.size ≤ 9223372036854775807 := by omega
  by_cases c1 : (1048576 : Int) < (s.size : Int)
  · have b1 := decide_eq_true c1
    go_enter Tryd.func10, Tryd.ntmps10
    go_wp2
    go_ret
    exact ⟨rfl, Below.refl _ _⟩
  · have b1 := decide_eq_false c1
    by_cases c2 : (1048576 : Int) < (t.size : Int)
    · have b2 := decide_eq_true c2
      go_enter Tryd.func10, Tryd.ntmps10
      go_wp2
      go_ret
      exact ⟨rfl, Below.refl _ _⟩
    · have b2 := decide_eq_false c2
      have cs := fun W => Cw.spec s t l h m W hs ht
      have ci := fun W => Cw.impl s t l h m W hs ht
      generalize Cw.val s t l h m = V at cs ci
      obtain ⟨x, b⟩ := V
      have CS := Aside0.mk cs
      have CI := Aside0.mk ci
      clear cs ci hs ht
      go_enter Tryd.func10, Tryd.ntmps10
      go_wp2_with fail
      refine (CS.out _).mono ?_
      rintro e w1 ⟨rfl, hb⟩
      have HB := Aside0.mk hb
      clear hb
      go_wp2_with fail
      refine (CI.out _).mono ?_
      rintro e w2 ⟨rfl, hb⟩
      have HB2 := Aside0.mk (below_step HB.out hb)
      clear hb
      have e_x : (x != x) = false := by simp
      have e_b : (b != b) = false := by simp
      go_wp2_with fail
      go_ret
      exact ⟨rfl, HB2.out⟩
end Go.Proofs.YteijbohbdhemoaaDoor.LwCountTideWays
