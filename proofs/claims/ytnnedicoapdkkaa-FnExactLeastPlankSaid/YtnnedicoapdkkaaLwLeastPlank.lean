/- laws.FnExactLeastPlank at this program answers true: its walk out of the contracts of both sides, and these. Condition: the two (or three) numbers are whole numbers of the type's range. -/
import Derived.Test.YtnnedicoapdkkaaFcLeastPlank
namespace Go.Proofs.Ytnnedicoapdkkaa.LwLeastPlank
set_option linter.unusedVariables false
set_option linter.unusedSimpArgs false
open Go.RowKit Go.Proofs.YtnnedicoapdkkaaW.PrintWords Go.Proofs.YtnnedicoapdkkaaW.PrintLast Go.Proofs.YtnnedicoapdkkaaW.PrintMore Clo Spots Sp PFnExactSpotsFor
abbrev boxL (cw cd : Int) : Obj := .cells #[.int .i64 cw, .int .i64 cd] 23
set_option maxHeartbeats 4000000 in
set_option maxRecDepth 100000 in
theorem law (cw cd : Int) (n0 : Int) (b : Bool) (w : World)
    (cS : ∀ W, Calls Try.prog 16 #[.agg #[.int .i64 cw, .int .i64 cd]] W fun e w' => e = .returned (.tuple #[.int .i64 n0, .bool b]) ∧ Below W.heap.size W w')
    (cI : ∀ W, Calls Try.prog 17 #[.agg #[.int .i64 cw, .int .i64 cd]] W fun e w' => e = .returned (.tuple #[.int .i64 n0, .bool b]) ∧ Below W.heap.size W w') :
    Calls Try.prog 5 #[.agg #[.int .i64 cw, .int .i64 cd]] w fun e w' => e = .returned (.bool true) ∧ Below w.heap.size w w' := by
  have hu23 := Try.underlying23
  have hu26 := Try.underlying26
  have HcS := Aside0.mk cS
  have HcI := Aside0.mk cI
  clear cS cI
  have hbb : (b != b) = false := by simp
  have hnn0 : (n0 != n0) = false := by simp
  have HT := Aside0.mk (fun W => laws_toCorner.calls cw cd cw cd W rfl)
  go_enter Try.func5, Try.ntmps5
  go_wp2_with fail
  refine (HT.out _).mono ?_
  rintro e w1 ⟨rfl, hb⟩
  have HB1 := Aside0.mk (below_step (below_alloc (Below.refl w.heap.size w) (boxL cw cd)) hb)
  have BK1 : Aside0 (w1.heap[w.heap.size]? = some (boxL cw cd)) := ⟨blk_below (blk_new w _) hb⟩
  clear hb
  go_wp2_with fail
  refine (HcS.out _).mono ?_
  rintro e w2 ⟨rfl, hb⟩
  have HB2 := Aside0.mk (below_then HB1.out HB1.out.size hb)
  have BK2 : Aside0 (w2.heap[w.heap.size]? = some (boxL cw cd)) := ⟨blk_below BK1.out hb⟩
  have hc0 : w2.cell? ⟨w.heap.size, 0, none⟩ = some (.int .i64 cw) := (blk_cell BK2.out 0).trans rfl
  have hc1 : w2.cell? ⟨w.heap.size, 1, none⟩ = some (.int .i64 cd) := (blk_cell BK2.out 1).trans rfl
  clear hb
  go_wp2_with fail
  refine (HT.out _).mono ?_
  rintro e w3 ⟨rfl, hb⟩
  have HB3 := Aside0.mk (below_then HB2.out HB2.out.size hb)
  clear hb hc0 hc1
  go_wp2_with fail
  refine (HcI.out _).mono ?_
  rintro e w4 ⟨rfl, hb⟩
  have HB4 := Aside0.mk (below_then HB3.out HB3.out.size hb)
  clear hb
  go_wp2_with fail
  go_ret
  exact ⟨rfl, HB4.out⟩
theorem whole (cw cd : Int) (w : World) (_ : (Lit.int .i64 cw).wf = true) (_ : (Lit.int .i64 cd).wf = true) : Calls Try.prog 5 #[.agg #[.int .i64 cw, .int .i64 cd]] w fun e w' => e = .returned (.bool true) ∧ Below w.heap.size w w' := by
  by_cases h : (1 ≤ cw ∧ cw ≤ 100) ∧ 1 ≤ cd ∧ cd ≤ 100
  · obtain ⟨P, h1, h2, h3, h4⟩ := FcLeastPlank.least h
    obtain ⟨k, hk⟩ := FcLeastPlank.spec_yes h h1 h2 h3 h4
    refine law cw cd _ _ w (fun W => PFnExactLeastPlank.spec_LeastPlank.calls k cw cd _ _ W hk) (fun W => least_yes cw cd P (fun p => good cw cd p (F p)) W (by rw [corner_eq, decide_eq_true h]) h1 (by omega) (fun p a b W2 => ?_) h4 h3)
    obtain ⟨k2, hk2⟩ := (firsts (pl := (p : Int)) (by omega) (by omega)).rounds
    exact spots k2 cw cd p (F p) W2 hk2 (F_two _)
  · exact law cw cd _ _ w (fun W => PFnExactLeastPlank.spec_LeastPlank.calls 0 cw cd _ _ W (FcLeastPlank.spec_no h)) (fun W => least_no cw cd W (by rw [corner_eq, decide_eq_false h]))
end Go.Proofs.Ytnnedicoapdkkaa.LwLeastPlank
