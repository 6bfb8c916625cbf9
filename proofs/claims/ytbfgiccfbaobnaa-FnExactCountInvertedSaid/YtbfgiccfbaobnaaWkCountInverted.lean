/- The reference's and the program's CountInverted at this program: the walks. Condition: the slice is no longer than 2^20. -/
import Derived.Test.YtbfgiccfbaobnaaRank
import Derived.Test.YtbfgiccfbaobnaaPFnExactCountInvertedx1
namespace Go.Proofs.Ytbfgiccfbaobnaa.WkCountInverted
set_option linter.unusedVariables false
set_option linter.unusedSimpArgs false
open Go.RowKit Go.Proofs.YtbfgiccfbaobnaaW.PrintWords Go.Proofs.YtbfgiccfbaobnaaW.PrintLast Go.Proofs.YtbfgiccfbaobnaaW.PrintMore PFnExactCountInverted
set_option maxHeartbeats 2000000 in
set_option maxRecDepth 100000 in
theorem spec (k : Nat) (A : Option Addr) (c : Nat) (l : List Int) (w : World) (hr : Kd.C (Kd.int .i64) w A l.length l) (hc : l.length ≤ c) (hl : l.length ≤ 1048576)
    (hg : spec_ptGood.f k l = some (Ord.ord l)) :
    Calls Try.prog 19 #[.slice A l.length c] w fun e w' => e = .returned (.tuple #[.int .i64 (if Ord.ord l = true then (((Inv.pre l l.length : Nat) : Int)) else 0), .bool (Ord.ord l)]) ∧ Below w.heap.size w w' := by
  have cG : Calls Try.prog 31 #[.slice A l.length c] w fun e w' => e = .returned (.bool (Ord.ord l)) ∧ Below w.heap.size w w' := by
    refine (spec_ptGood.calls k A c l _ w hr hc hg).mono ?_
    rintro e w' ⟨rfl, ⟨nd, rfl⟩⟩
    exact ⟨rfl, pw_below_drewN (Below.refl _ _) nd⟩
  have HR := Aside0.mk hr
  clear hr hg
  cases ho : Ord.ord l with
  | false =>
    rw [ho] at cG
    rw [if_neg (by decide)]
    clear ho
    go_enter Try.func19, Try.ntmps19
    go_wp2_with fail
    refine cG.mono ?_
    clear cG
    rintro e w1 ⟨rfl, hb⟩
    have HB := Aside0.mk hb
    clear hb
    go_wp2_with fail
    go_ret2
    exact ⟨rfl, HB.out⟩
  | true =>
    have h8 : l.length ≤ 8 := (Ord.ord_iff l |>.mp ho).2.1
    rw [ho] at cG
    rw [if_pos rfl]
    clear ho
    go_enter Try.func19, Try.ntmps19
    go_wp2_with fail
    refine cG.mono ?_
    clear cG
    rintro e w1 ⟨rfl, hb⟩
    have HB := Aside0.mk hb
    clear hb
    go_wp2_with fail
    refine (Inv.ptInverted A c l _ (Kd.C_below HR.out HB.out) hc hl).mono ?_
    rintro e w2 ⟨rfl, rfl⟩
    go_wp2_with fail
    go_ret2
    exact ⟨rfl, HB.out⟩

set_option maxHeartbeats 2000000 in
set_option maxRecDepth 100000 in
theorem impl (k : Nat) (A : Option Addr) (c : Nat) (l : List Int) (w : World) (hr : Kd.C (Kd.int .i64) w A l.length l) (hc : l.length ≤ c) (hl : l.length ≤ 1048576)
    (hg : spec_ptGood.f k l = some (Ord.ord l)) :
    Calls Try.prog 20 #[.slice A l.length c] w fun e w' => e = .returned (.tuple #[.int .i64 (if Ord.ord l = true then (((Inv.pre l l.length : Nat) : Int)) else 0), .bool (Ord.ord l)]) ∧ Below w.heap.size w w' := by
  have cG : Calls Try.prog 13 #[.slice A l.length c] w fun e w' => e = .returned (.bool (Ord.ord l)) ∧ Below w.heap.size w w' := by
    exact Seq.isOrder A c l w hr hl
  have HR := Aside0.mk hr
  clear hr hg
  cases ho : Ord.ord l with
  | false =>
    rw [ho] at cG
    rw [if_neg (by decide)]
    clear ho
    go_enter Try.func20, Try.ntmps20
    go_wp2_with fail
    refine cG.mono ?_
    clear cG
    rintro e w1 ⟨rfl, hb⟩
    have HB := Aside0.mk hb
    clear hb
    go_wp2_with fail
    go_ret2
    exact ⟨rfl, HB.out⟩
  | true =>
    have h8 : l.length ≤ 8 := (Ord.ord_iff l |>.mp ho).2.1
    rw [ho] at cG
    rw [if_pos rfl]
    clear ho
    go_enter Try.func20, Try.ntmps20
    go_wp2_with fail
    refine cG.mono ?_
    clear cG
    rintro e w1 ⟨rfl, hb⟩
    have HB := Aside0.mk hb
    clear hb
    go_wp2_with fail
    refine (Inv.inverted A c l _ (Kd.C_below HR.out HB.out) hc hl).mono ?_
    rintro e w2 ⟨rfl, rfl⟩
    go_wp2_with fail
    go_ret2
    exact ⟨rfl, HB.out⟩

end Go.Proofs.Ytbfgiccfbaobnaa.WkCountInverted
