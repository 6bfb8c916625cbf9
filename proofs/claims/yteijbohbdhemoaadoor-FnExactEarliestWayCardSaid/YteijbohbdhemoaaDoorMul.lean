/- bits.Mul64 and bits.Mul of 1 and a number of at most 16 at this program. -/
import Derived.Test.YteijbohbdhemoaaDoorFn
namespace Go.Proofs.YteijbohbdhemoaaDoor.Sm
set_option linter.unusedVariables false
set_option linter.unusedSimpArgs false
open Go.RowKit Go.Proofs.YteijbohbdhemoaaDoorW.PrintWords Go.Proofs.YteijbohbdhemoaaDoorW.PrintLast Go.Proofs.YteijbohbdhemoaaDoorW.PrintMore Sh Cr
theorem and_small : (List.range 17).all (fun n => Go.bits .and .u64 (n : Int) 4294967295 == (n : Int)) = true := by decide +kernel
theorem and_ok (n : Nat) (h : n ≤ 16) : Go.bits .and .u64 (n : Int) 4294967295 = (n : Int) := eq_of_beq (List.all_eq_true.mp and_small n (List.mem_range.mpr (by omega)))
set_option maxHeartbeats 2000000 in
theorem mul64 (n : Nat) (w : World) (hn : n ≤ 16) : Calls Tryd.prog 59 #[.int .u64 1, .int .u64 (n : Int)] w fun e w' => e = .returned (.tuple #[.int .u64 0, .int .u64 (n : Int)]) ∧ w = w' := by
  have a1 : Go.bits .and .u64 1 4294967295 = 1 := and_ok 1 (by omega)
  have a0 : Go.bits .and .u64 0 4294967295 = 0 := and_ok 0 (by omega)
  have a2 := and_ok n hn
  have w1 : IntKind.u64.wrap (n : Int) = (n : Int) := by rw [IntKind.wrap_u64]; omega
  have d1 : (n : Int) / 4294967296 = 0 := by omega
  have u0 : IntKind.u64.wrap 0 = 0 := by decide
  go_enter Tryd.func59, Tryd.ntmps59
  go_wp2_with fail
  go_ret2
  exact ⟨rfl, rfl⟩
theorem mul (n : Nat) (w : World) (hn : n ≤ 16) : Calls Tryd.prog 56 #[.int .u64 1, .int .u64 (n : Int)] w fun e w' => e = .returned (.tuple #[.int .u64 0, .int .u64 (n : Int)]) ∧ w = w' := by
  go_enter Tryd.func56, Tryd.ntmps56
  go_wp2_with fail
  refine (mul64 n _ hn).mono ?_
  rintro e w' ⟨rfl, rfl⟩
  go_wp2_with fail
  go_ret2
  exact ⟨rfl, rfl⟩
end Go.Proofs.YteijbohbdhemoaaDoor.Sm
