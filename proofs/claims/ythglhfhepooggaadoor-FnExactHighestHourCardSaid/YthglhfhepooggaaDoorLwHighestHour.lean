/- laws.FnExactHighestHour: the walk out of its callees' contracts. Condition: both callees give the same. -/
import Derived.Test.YthglhfhepooggaaDoorSh
import Derived.Test.YthglhfhepooggaaDoorPFnExactHighestHourx1
namespace Go.Proofs.YthglhfhepooggaaDoor.LwHighestHour
set_option linter.unusedVariables false
set_option linter.unusedSimpArgs false
open Go.RowKit Go.Proofs.YthglhfhepooggaaDoorW.PrintWords Go.Proofs.YthglhfhepooggaaDoorW.PrintLast Go.Proofs.YthglhfhepooggaaDoorW.PrintMore PFnExactHighestHour

set_option maxHeartbeats 2000000 in
set_option maxRecDepth 100000 in
theorem law (k : Nat) (s : ByteArray) (r0 : Int) (r1 : Int) (r2 : Bool) (w : World) (hs : s.size ≤ 140737488351232)
    (cS : ∀ W, Calls Tryd.prog 25 #[.string s] W fun e w' => e = .returned (.tuple #[.int .i64 r0, .int .i64 r1, .bool r2]) ∧ Below W.heap.size W w')
    (cI : ∀ W, Calls Tryd.prog 26 #[.string s] W fun e w' => e = .returned (.tuple #[.int .i64 r0, .int .i64 r1, .bool r2]) ∧ Below W.heap.size W w') :
    Calls Tryd.prog 8 #[.string s] w fun e w' => e = .returned (.bool true) ∧ Below w.heap.size w w' := by
  have hs2 : s.size ≤ 9223372036854775807 := by omega
  have CS := Aside0.mk cS
  have CI := Aside0.mk cI
  clear cS cI
  have qr0 : (r0 != r0) = false := by simp
  have qr1 : (r1 != r1) = false := by simp
  have qr2 : (r2 != r2) = false := by simp
  by_cases gs : s.size ≤ 1048576
  · go_enter Tryd.func8, Tryd.ntmps8
    go_wp2_with fail
    refine (CS.out _).mono ?_
    rintro e w1 ⟨rfl, hb⟩
    have HB := Aside0.mk hb
    clear hb
    go_wp2_with fail
    refine (CI.out _).mono ?_
    rintro e w2 ⟨rfl, hb⟩
    have HB2 := Aside0.mk (HB.out.trans (hb.mono HB.out.size))
    clear hb
    go_wp2_with fail
    go_ret
    exact ⟨rfl, HB2.out⟩
  · go_enter Tryd.func8, Tryd.ntmps8
    go_wp2_with fail
    go_ret
    exact ⟨rfl, Below.refl _ _⟩
end Go.Proofs.YthglhfhepooggaaDoor.LwHighestHour
