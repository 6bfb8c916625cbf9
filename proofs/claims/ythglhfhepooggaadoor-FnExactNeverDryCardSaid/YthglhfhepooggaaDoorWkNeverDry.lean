/- impl.NeverDry at this program: the nil slice and false, or what its printed callee gives and true. Condition: the texts lie within the reach. -/
import Derived.Test.YthglhfhepooggaaDoorSh
import Derived.Test.YthglhfhepooggaaDoorPFnExactNeverDryx1
import Derived.Test.YthglhfhepooggaaDoorPFnExactNeverDryx2
import Derived.Test.YthglhfhepooggaaDoorPFnExactNeverDryx3
namespace Go.Proofs.YthglhfhepooggaaDoor.WkNeverDry
set_option linter.unusedVariables false
set_option linter.unusedSimpArgs false
open Go.RowKit Go.Proofs.YthglhfhepooggaaDoorW.PrintWords Go.Proofs.YthglhfhepooggaaDoorW.PrintLast Go.Proofs.YthglhfhepooggaaDoorW.PrintMore PFnExactNeverDry
open Sh
set_option maxHeartbeats 2000000 in
set_option maxRecDepth 100000 in
theorem impl (k : Nat) (s t : ByteArray) (r : List Int) (b : Bool) (w : World) (hs : s.size ≤ 140737488351232) (ht : t.size ≤ 140737488351232) (h : (b = true ∧ okShore s = true ∧ okTide t = true ∧ impl_stonesDry.f k s t 0 = some r) ∨ (b = false ∧ r = [] ∧ ¬ (okShore s = true ∧ okTide t = true))) :
    Calls Tryd.prog 37 #[.string s, .string t] w fun e w' => ∃ v, e = .returned (.tuple #[v, .bool b]) ∧ Kd.R (Kd.int .i64) 3 w' w.heap.size (fun _ => True) v r ∧ Below w.heap.size w w' := by
  have c1 := areShore s t w hs ht
  have hs2 : s.size ≤ 9223372036854775807 := by omega
  have ht2 : t.size ≤ 9223372036854775807 := by omega
  rcases h with ⟨rfl, h1, h2, H⟩ | ⟨rfl, rfl, hn⟩
  · rw [h1, h2, Bool.and_true] at c1
    clear h1 h2
    have HH := Aside0.mk H
    clear H
    go_enter Tryd.func37, Tryd.ntmps37
    go_wp2_with fail
    refine c1.mono ?_
    clear c1
    rintro e w1 ⟨rfl, hb⟩
    have HB := Aside0.mk hb
    clear hb
    go_wp2_with fail
    have hs1 := Aside0.mk HB.out.size
    refine (impl_stonesDry.calls k s t 0 r _ HH.out).mono ?_
    rintro e w2 ⟨v, rfl, h2, b2⟩
    have R2 := Aside0.mk (Kd.R_lower h2 hs1.out)
    have B2 := Aside0.mk (HB.out.trans (b2.mono HB.out.size))
    clear h2 b2
    go_wp2_with fail
    go_ret2
    exact ⟨_, rfl, R2.out, B2.out⟩
  · cases h1 : (okShore s && okTide t) with
    | false =>
      rw [h1] at c1
      clear h1 hn
      go_enter Tryd.func37, Tryd.ntmps37
      go_wp2_with fail
      refine c1.mono ?_
      clear c1
      rintro e w1 ⟨rfl, hb⟩
      have HB := Aside0.mk hb
      clear hb
      go_wp2_with fail
      go_ret2
      exact ⟨_, rfl, Kd.R_nil _ _ _ _ _, HB.out⟩
    | true => exact absurd (Bool.and_eq_true _ _ |>.mp h1) hn
end Go.Proofs.YthglhfhepooggaaDoor.WkNeverDry
