/- laws.FnExactBestSpot at this program answers true: its walk out of the contracts of both sides, and these. Condition: the two (or three) numbers are whole numbers of the type's range. -/
import Derived.Test.YtnnedicoapdkkaaFcBestSpot
namespace Go.Proofs.Ytnnedicoapdkkaa.LwBestSpot
set_option linter.unusedVariables false
set_option linter.unusedSimpArgs false
open Go.RowKit Go.Proofs.YtnnedicoapdkkaaW.PrintWords Go.Proofs.YtnnedicoapdkkaaW.PrintLast Go.Proofs.YtnnedicoapdkkaaW.PrintMore Clo Spots Sp PFnExactSpotsFor
abbrev boxL (cw cd : Int) : Obj := .cells #[.int .i64 cw, .int .i64 cd] 23
set_option maxHeartbeats 4000000 in
set_option maxRecDepth 100000 in
theorem law (cw cd pl : Int) (n0 n1 n2 : Int) (b : Bool) (w : World)
    (cS : ∀ W, Calls Try.prog 11 #[.agg #[.int .i64 cw, .int .i64 cd], .int .i64 pl] W fun e w' => e = .returned (.tuple #[.int .i64 n0, .int .i64 n1, .int .i64 n2, .bool b]) ∧ Below W.heap.size W w')
    (cI : ∀ W, Calls Try.prog 13 #[.agg #[.int .i64 cw, .int .i64 cd], .int .i64 pl] W fun e w' => e = .returned (.tuple #[.int .i64 n0, .int .i64 n1, .int .i64 n2, .bool b]) ∧ Below W.heap.size W w') :
    Calls Try.prog 3 #[.agg #[.int .i64 cw, .int .i64 cd], .int .i64 pl] w fun e w' => e = .returned (.bool true) ∧ Below w.heap.size w w' := by
  have hu23 := Try.underlying23
  have hu26 := Try.underlying26
  have HcS := Aside0.mk cS
  have HcI := Aside0.mk cI
  clear cS cI
  have hbb : (b != b) = false := by simp
  have hnn0 : (n0 != n0) = false := by simp
  have hnn1 : (n1 != n1) = false := by simp
  have hnn2 : (n2 != n2) = false := by simp
  have HT := Aside0.mk (fun W => laws_toCorner.calls cw cd cw cd W rfl)
  go_enter Try.func3, Try.ntmps3
  go_wp2_with fail
  refine (HT.out _).mono ?_
  rintro e w1 ⟨rfl, hb⟩
  have HB1 := Aside0.mk (below_step (below_alloc (Below.refl w.heap.size w) (boxL cw cd)) hb)
  have BK1 : Aside0 (w1.heap[w.heap.size]? = some (boxL cw cd)) := ⟨blk_below (blk_new w _) hb⟩
  clear hb
  go_wp2_with fail
  refine (HcS.out _).mono ?_
  rintro e w2 ⟨rfl, hb⟩
  have HB2 := Aside0.mk (below_then HB1.out HB1.out.size hb)
  have BK2 : Aside0 (w2.heap[w.heap.size]? = some (boxL cw cd)) := ⟨blk_below BK1.out hb⟩
  have hc0 : w2.cell? ⟨w.heap.size, 0, none⟩ = some (.int .i64 cw) := (blk_cell BK2.out 0).trans rfl
  have hc1 : w2.cell? ⟨w.heap.size, 1, none⟩ = some (.int .i64 cd) := (blk_cell BK2.out 1).trans rfl
  clear hb
  go_wp2_with fail
  refine (HT.out _).mono ?_
  rintro e w3 ⟨rfl, hb⟩
  have HB3 := Aside0.mk (below_then HB2.out HB2.out.size hb)
  clear hb hc0 hc1
  go_wp2_with fail
  refine (HcI.out _).mono ?_
  rintro e w4 ⟨rfl, hb⟩
  have HB4 := Aside0.mk (below_then HB3.out HB3.out.size hb)
  clear hb
  go_wp2_with fail
  go_ret
  exact ⟨rfl, HB4.out⟩
theorem whole (cw cd pl : Int) (w : World) (_ : (Lit.int .i64 cw).wf = true) (_ : (Lit.int .i64 cd).wf = true) (_ : (Lit.int .i64 pl).wf = true) : Calls Try.prog 3 #[.agg #[.int .i64 cw, .int .i64 cd], .int .i64 pl] w fun e w' => e = .returned (.bool true) ∧ Below w.heap.size w w' := by
  by_cases h : ((1 ≤ cw ∧ cw ≤ 100) ∧ 1 ≤ cd ∧ cd ≤ 100) ∧ 2 ≤ pl ∧ pl ≤ 200
  · obtain ⟨x0, r, hF⟩ := FcBestSpot.F_cons h.2.1
    obtain ⟨k, hk⟩ := FcBestSpot.spec_yes h.1 h.2.1 h.2.2 hF
    obtain ⟨k2, hk2⟩ := (FcBestSpot.firsts (pl := pl) (by omega) h.2.2).rounds
    have h2 := Sp.F_two pl
    rw [hF] at hk2 h2
    exact law cw cd pl _ _ _ true w (fun W => PFnExactBestSpot.spec_BestSpot.calls k cw cd pl _ _ _ _ W hk) (fun W => Best.best_yes k2 cw cd pl x0 r W (by rw [FcBestSpot.corner_eq, decide_eq_true h.1]) (by rw [FcBestSpot.within_eq, decide_eq_true h.2]) hk2 h2)
  · refine law cw cd pl _ _ _ false w (fun W => PFnExactBestSpot.spec_BestSpot.calls 1 cw cd pl _ _ _ _ W (FcBestSpot.spec_no h)) (fun W => ?_)
    by_cases h1 : (1 ≤ cw ∧ cw ≤ 100) ∧ 1 ≤ cd ∧ cd ≤ 100
    · exact Best.best_no cw cd pl true W (by rw [FcBestSpot.corner_eq, decide_eq_true h1]) (fun _ => by rw [FcBestSpot.within_eq, decide_eq_false (fun q => h ⟨h1, q⟩)])
    · exact Best.best_no cw cd pl false W (by rw [FcBestSpot.corner_eq, decide_eq_false h1]) (fun q => by cases q)
end Go.Proofs.Ytnnedicoapdkkaa.LwBestSpot
