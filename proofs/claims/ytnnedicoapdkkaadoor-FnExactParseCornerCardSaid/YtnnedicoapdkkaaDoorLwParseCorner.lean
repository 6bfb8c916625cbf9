/- laws.FnExactParseCorner at this program answers true where the library's table and its two error variables stand as laid. -/
import Derived.Test.YtnnedicoapdkkaaDoorFcPC
namespace Go.Proofs.YtnnedicoapdkkaaDoor.LwParseCorner
set_option linter.unusedVariables false
set_option linter.unusedSimpArgs false
open Go.RowKit Go.Proofs.YtnnedicoapdkkaaDoorW.PrintWords Go.Proofs.YtnnedicoapdkkaaDoorW.PrintLast Go.Proofs.YtnnedicoapdkkaaDoorW.PrintMore Numb FcPC
theorem eqc (a b : Int) (w : World) : Calls Tryd.prog 6 #[.agg #[.int .i64 a, .int .i64 b], .agg #[.int .i64 a, .int .i64 b]] w fun e w' => e = .returned (.bool true) ∧ Below w.heap.size w w' :=
  PFnExactParseCorner.laws_eqCorner.calls a b a b true w (by unfold PFnExactParseCorner.laws_eqCorner.f; rw [if_pos rfl, if_pos rfl])
set_option maxHeartbeats 4000000 in
set_option maxRecDepth 100000 in
theorem law (t : ByteArray) (w : World) (hv : Vars w) : Calls Tryd.prog 3 #[.string t] w fun e w' => e = .returned (.bool true) ∧ Below w.heap.size w w' := by
  have hu23 := Tryd.underlying23
  by_cases h : 1048576 < t.size
  · have hz : (1048576 : Int) < (t.size : Int) := by omega
    go_enter Tryd.func3, Tryd.ntmps3
    go_wp2_with fail
    go_ret
    exact ⟨rfl, Below.refl _ _⟩
  · have hz : ¬ (1048576 : Int) < (t.size : Int) := by omega
    have CS := Aside0.mk (fun W => PFnExactParseCorner.spec_ParseCorner.calls (t.size + 20) t (val t).1 (val t).2.1 (val t).2.2 W (spec_val t (by omega)))
    have CI := Aside0.mk (fun W hb => impl_val t W (by omega) (hv.below hb))
    generalize (val t).1 = a at CS CI
    generalize (val t).2.1 = b at CS CI
    generalize (val t).2.2 = c at CS CI
    have CE := Aside0.mk (eqc a b)
    have hbb : (c != c) = false := by simp
    clear hv h
    go_enter Tryd.func3, Tryd.ntmps3
    go_wp2_with fail
    refine (CS.out _).mono ?_
    rintro e w1 ⟨rfl, hb1⟩
    have HB := Aside0.mk hb1
    clear hb1
    go_wp2_with (first | ((with_reducible refine gate_dst (N := 3) rfl ?_); refine box_event ?hg (N := 3) ?hd (cs := #[.int .i64 0, .int .i64 0]) (t := 23) ?hr ?_; (case hd => rfl); (case hg => rfl); (case hr => first | (go_simp; done) | (go_simp; rfl)); intro g3 hg w_3 hbox hb; have n0_ := Aside0.mk (below_step (by repeat (first | (with_reducible first | exact HB.out | apply below_alloc | apply pw_below_drewN | apply below_drew1) | exact HB.out)) hb); have n1_ := Aside0.mk (hbox); have n2_ := Aside0.mk ((by rw [hg]; exact (below_size (by repeat (first | (with_reducible first | exact HB.out | apply below_alloc | apply pw_below_drewN | apply below_drew1) | exact HB.out))) : w.heap.size ≤ g3)); clear HB; have HB := n0_; have BK3 := n1_; have GW3 := n2_; clear n0_ n1_ n2_; clear hb hbox hg; have hz3_0 := (show w_3.cell? ⟨g3, 0, none⟩ = some (.int .i64 0) from (blk_cell BK3.out 0).trans rfl); have hz3_1 := (show w_3.cell? ⟨g3, 1, none⟩ = some (.int .i64 0) from (blk_cell BK3.out 1).trans rfl); have hf3_0 := blk_frozen BK3.out 0; have hf3_1 := blk_frozen BK3.out 1))
    refine (CI.out _ (below_set (below_set HB.out GW3.out) GW3.out)).mono ?_
    rintro e w4 ⟨rfl, hb⟩
    have HB4 := Aside0.mk (below_step (below_set (below_set HB.out GW3.out) GW3.out) hb)
    have BK34 := Aside0.mk (blk_below (blk_put (cs' := #[.int .i64 a, .int .i64 b]) (blk_put (cs' := #[.int .i64 a, .int .i64 0]) BK3.out 0 (.int .i64 a) rfl) 1 (.int .i64 b) rfl) hb)
    clear HB BK3 hz3_0 hz3_1 hf3_0 hf3_1 hb
    have HB := HB4
    have BK3 := BK34
    clear HB4 BK34
    go_wp2_with (first | ((with_reducible refine gate_dst (N := 5) rfl ?_); refine box_event ?hg (N := 5) ?hd (cs := #[.int .i64 0, .int .i64 0]) (t := 23) ?hr ?_; (case hd => rfl); (case hg => rfl); (case hr => first | (go_simp; done) | (go_simp; rfl)); intro g5 hg w_5 hbox hb; have n0_ := Aside0.mk (below_step (by repeat (first | (with_reducible first | exact HB.out | apply below_alloc | apply pw_below_drewN | apply below_drew1 | refine below_set ?_ GW3.out) | exact HB.out)) hb); have n1_ := Aside0.mk (hbox); have n2_ := Aside0.mk ((by rw [hg]; exact (below_size (by repeat (first | (with_reducible first | exact HB.out | apply below_alloc | apply pw_below_drewN | apply below_drew1 | refine below_set ?_ GW3.out) | exact HB.out))) : w.heap.size ≤ g5)); have n3_ := Aside0.mk (blk_below BK3.out hb); have n4_ : Aside0 (g3 ≠ g5) := ⟨by rw [hg]; exact Nat.ne_of_lt (blk_lt BK3.out)⟩; clear BK3; have BK3 := n3_; have NE := n4_; clear n3_ n4_; have hn35 := NE.out; have hn53 : g5 ≠ g3 := fun e_ => NE.out e_.symm; have hy3_0 : w_5.cell? ⟨g3, 0, none⟩ = some (.int .i64 a) := (blk_cell BK3.out 0).trans rfl; have hy3_1 : w_5.cell? ⟨g3, 1, none⟩ = some (.int .i64 b) := (blk_cell BK3.out 1).trans rfl; clear HB; have HB := n0_; have BK5 := n1_; have GW5 := n2_; clear n0_ n1_ n2_; clear hb hbox hg; have hz5_0 := (show w_5.cell? ⟨g5, 0, none⟩ = some (.int .i64 0) from (blk_cell BK5.out 0).trans rfl); have hz5_1 := (show w_5.cell? ⟨g5, 1, none⟩ = some (.int .i64 0) from (blk_cell BK5.out 1).trans rfl); have hf5_0 := blk_frozen BK5.out 0; have hf5_1 := blk_frozen BK5.out 1))
    refine (CE.out _).mono ?_
    rintro e w6 ⟨rfl, hb⟩
    have HB6 := Aside0.mk (below_step (below_set (below_set HB.out GW5.out) GW5.out) hb)
    clear hb
    go_wp2_with fail
    go_ret
    exact ⟨rfl, HB6.out⟩
end Go.Proofs.YtnnedicoapdkkaaDoor.LwParseCorner
