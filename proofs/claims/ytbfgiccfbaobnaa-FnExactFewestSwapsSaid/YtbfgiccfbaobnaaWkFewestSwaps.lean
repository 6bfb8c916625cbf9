/- The reference's and the program's FewestSwaps at this program: the walks. Condition: the slice is no longer than 2^20. -/
import Derived.Test.YtbfgiccfbaobnaaCyc
import Derived.Test.YtbfgiccfbaobnaaPFnExactFewestSwapsx1
namespace Go.Proofs.Ytbfgiccfbaobnaa.WkFewestSwaps
set_option linter.unusedVariables false
set_option linter.unusedSimpArgs false
open Go.RowKit Go.Proofs.YtbfgiccfbaobnaaW.PrintWords Go.Proofs.YtbfgiccfbaobnaaW.PrintLast Go.Proofs.YtbfgiccfbaobnaaW.PrintMore PFnExactFewestSwaps
set_option maxHeartbeats 2000000 in
set_option maxRecDepth 100000 in
theorem spec (k : Nat) (A : Option Addr) (c : Nat) (l : List Int) (w : World) (hr : Kd.C (Kd.int .i64) w A l.length l) (hc : l.length ≤ c) (hl : l.length ≤ 1048576)
    (hg : spec_ptGood.f k l = some (Ord.ord l)) (r : List (List Int)) (hcy : Ord.ord l = true → impl_cycles.f k l = some r) (hrl : r.length ≤ 1048576) :
    Calls Try.prog 23 #[.slice A l.length c] w fun e w' => e = .returned (.tuple #[.int .i64 (if Ord.ord l = true then ((l.length : Int) - (r.length : Int)) else 0), .bool (Ord.ord l)]) ∧ Below w.heap.size w w' := by
  have hl2 : l.length ≤ 9223372036854775807 := by omega
  have cG : Calls Try.prog 31 #[.slice A l.length c] w fun e w' => e = .returned (.bool (Ord.ord l)) ∧ Below w.heap.size w w' := by
    refine (spec_ptGood.calls k A c l _ w hr hc hg).mono ?_
    rintro e w' ⟨rfl, ⟨nd, rfl⟩⟩
    exact ⟨rfl, pw_below_drewN (Below.refl _ _) nd⟩
  have HR := Aside0.mk hr
  clear hr hg
  cases ho : Ord.ord l with
  | false =>
    rw [ho] at cG
    rw [if_neg (by decide)]
    clear ho hcy
    go_enter Try.func23, Try.ntmps23
    go_wp2_with fail
    refine cG.mono ?_
    clear cG
    rintro e w1 ⟨rfl, hb⟩
    have HB := Aside0.mk hb
    clear hb
    go_wp2_with fail
    go_ret2
    exact ⟨rfl, HB.out⟩
  | true =>
    have HY := Aside0.mk (hcy ho)
    have h1 : 1 ≤ l.length := (Ord.ord_iff l |>.mp ho).1
    rw [ho] at cG
    rw [if_pos rfl]
    clear ho hcy
    go_enter Try.func23, Try.ntmps23
    go_wp2_with fail
    refine cG.mono ?_
    clear cG
    rintro e w1 ⟨rfl, hb⟩
    have HB := Aside0.mk hb
    clear hb
    go_wp2_with fail
    refine (Cyc.ptCycles k A c l r _ (Kd.C_below HR.out HB.out) hc hl h1 HY.out).mono ?_
    rintro e w2 ⟨A2, c2, rfl, hb⟩
    have HB2 := Aside0.mk (HB.out.trans (hb.mono HB.out.size))
    clear hb
    go_wp2_with fail
    go_ret2
    exact ⟨rfl, HB2.out⟩

set_option maxHeartbeats 2000000 in
set_option maxRecDepth 100000 in
theorem impl (k : Nat) (A : Option Addr) (c : Nat) (l : List Int) (w : World) (hr : Kd.C (Kd.int .i64) w A l.length l) (hc : l.length ≤ c) (hl : l.length ≤ 1048576)
    (hg : spec_ptGood.f k l = some (Ord.ord l)) (r : List (List Int)) (hcy : Ord.ord l = true → impl_cycles.f k l = some r) (hrl : r.length ≤ 1048576) :
    Calls Try.prog 24 #[.slice A l.length c] w fun e w' => e = .returned (.tuple #[.int .i64 (if Ord.ord l = true then ((l.length : Int) - (r.length : Int)) else 0), .bool (Ord.ord l)]) ∧ Below w.heap.size w w' := by
  have hl2 : l.length ≤ 9223372036854775807 := by omega
  have cG : Calls Try.prog 13 #[.slice A l.length c] w fun e w' => e = .returned (.bool (Ord.ord l)) ∧ Below w.heap.size w w' := by
    exact Seq.isOrder A c l w hr hl
  have HR := Aside0.mk hr
  clear hr hg
  cases ho : Ord.ord l with
  | false =>
    rw [ho] at cG
    rw [if_neg (by decide)]
    clear ho hcy
    go_enter Try.func24, Try.ntmps24
    go_wp2_with fail
    refine cG.mono ?_
    clear cG
    rintro e w1 ⟨rfl, hb⟩
    have HB := Aside0.mk hb
    clear hb
    go_wp2_with fail
    go_ret2
    exact ⟨rfl, HB.out⟩
  | true =>
    have HY := Aside0.mk (hcy ho)
    have h1 : 1 ≤ l.length := (Ord.ord_iff l |>.mp ho).1
    rw [ho] at cG
    rw [if_pos rfl]
    clear ho hcy
    go_enter Try.func24, Try.ntmps24
    go_wp2_with fail
    refine cG.mono ?_
    clear cG
    rintro e w1 ⟨rfl, hb⟩
    have HB := Aside0.mk hb
    clear hb
    go_wp2_with fail
    refine (impl_cycles.calls k A c l r _ (Kd.C_below HR.out HB.out) hc HY.out).mono ?_
    rintro e w2 ⟨v2, rfl, hS, hb⟩
    obtain ⟨A2, c2, rfl⟩ := Kd.S_slice hS
    have HB2 := Aside0.mk (HB.out.trans (hb.mono HB.out.size))
    clear hb
    go_wp2_with fail
    go_ret2
    exact ⟨rfl, HB2.out⟩

end Go.Proofs.Ytbfgiccfbaobnaa.WkFewestSwaps
