/- laws.FnExactRaiseStone: the walk out of its callees' contracts. Condition: both callees give the same. -/
import Derived.Test.YthglhfhepooggaaDoorSh
namespace Go.Proofs.YthglhfhepooggaaDoor.LwRaiseStone
set_option linter.unusedVariables false
set_option linter.unusedSimpArgs false
open Go.RowKit Go.Proofs.YthglhfhepooggaaDoorW.PrintWords Go.Proofs.YthglhfhepooggaaDoorW.PrintLast Go.Proofs.YthglhfhepooggaaDoorW.PrintMore

set_option maxHeartbeats 2000000 in
set_option maxRecDepth 100000 in
theorem law (k : Nat) (s : ByteArray) (a : Int) (b : Int) (r0 : ByteArray) (r1 : Bool) (w : World) (hs : s.size ≤ 140737488351232)
    (cS : ∀ W, Calls Tryd.prog 23 #[.string s, .int .i64 a, .int .i64 b] W fun e w' => e = .returned (.tuple #[.string r0, .bool r1]) ∧ Below W.heap.size W w')
    (cI : ∀ W, Calls Tryd.prog 24 #[.string s, .int .i64 a, .int .i64 b] W fun e w' => e = .returned (.tuple #[.string r0, .bool r1]) ∧ Below W.heap.size W w') :
    Calls Tryd.prog 7 #[.string s, .int .i64 a, .int .i64 b] w fun e w' => e = .returned (.bool true) ∧ Below w.heap.size w w' := by
  have hs2 : s.size ≤ 9223372036854775807 := by omega
  have CS := Aside0.mk cS
  have CI := Aside0.mk cI
  clear cS cI
  have qr0 : (r0.toList != r0.toList) = false := by simp
  have qr1 : (r1 != r1) = false := by simp
  by_cases gs : s.size ≤ 1048576
  · go_enter Tryd.func7, Tryd.ntmps7
    go_wp2_with fail
    refine (CS.out _).mono ?_
    rintro e w1 ⟨rfl, hb⟩
    have HB := Aside0.mk hb
    clear hb
    go_wp2_with fail
    refine (CI.out _).mono ?_
    rintro e w2 ⟨rfl, hb⟩
    have HB2 := Aside0.mk (HB.out.trans (hb.mono HB.out.size))
    clear hb
    go_wp2_with fail
    go_ret
    exact ⟨rfl, HB2.out⟩
  · go_enter Tryd.func7, Tryd.ntmps7
    go_wp2_with fail
    go_ret
    exact ⟨rfl, Below.refl _ _⟩
end Go.Proofs.YthglhfhepooggaaDoor.LwRaiseStone
