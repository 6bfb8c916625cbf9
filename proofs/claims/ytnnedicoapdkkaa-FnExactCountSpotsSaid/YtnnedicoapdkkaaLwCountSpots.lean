/- laws.FnExactCountSpots at this program answers true: its walk out of the contracts of both sides, and these. Condition: the two (or three) numbers are whole numbers of the type's range. -/
import Derived.Test.YtnnedicoapdkkaaFcCountSpots
namespace Go.Proofs.Ytnnedicoapdkkaa.LwCountSpots
set_option linter.unusedVariables false
set_option linter.unusedSimpArgs false
open Go.RowKit Go.Proofs.YtnnedicoapdkkaaW.PrintWords Go.Proofs.YtnnedicoapdkkaaW.PrintLast Go.Proofs.YtnnedicoapdkkaaW.PrintMore Clo Spots Sp PFnExactSpotsFor
abbrev boxL (cw cd : Int) : Obj := .cells #[.int .i64 cw, .int .i64 cd] 23
set_option maxHeartbeats 4000000 in
set_option maxRecDepth 100000 in
theorem law (cw cd pl : Int) (n0 : Int) (b : Bool) (w : World)
    (cS : ∀ W, Calls Try.prog 14 #[.agg #[.int .i64 cw, .int .i64 cd], .int .i64 pl] W fun e w' => e = .returned (.tuple #[.int .i64 n0, .bool b]) ∧ Below W.heap.size W w')
    (cI : ∀ W, Calls Try.prog 15 #[.agg #[.int .i64 cw, .int .i64 cd], .int .i64 pl] W fun e w' => e = .returned (.tuple #[.int .i64 n0, .bool b]) ∧ Below W.heap.size W w') :
    Calls Try.prog 4 #[.agg #[.int .i64 cw, .int .i64 cd], .int .i64 pl] w fun e w' => e = .returned (.bool true) ∧ Below w.heap.size w w' := by
  have hu23 := Try.underlying23
  have hu26 := Try.underlying26
  have HcS := Aside0.mk cS
  have HcI := Aside0.mk cI
  clear cS cI
  have hbb : (b != b) = false := by simp
  have hnn0 : (n0 != n0) = false := by simp
  have HT := Aside0.mk (fun W => laws_toCorner.calls cw cd cw cd W rfl)
  go_enter Try.func4, Try.ntmps4
  go_wp2_with fail
  refine (HT.out _).mono ?_
  rintro e w1 ⟨rfl, hb⟩
  have HB1 := Aside0.mk (below_step (below_alloc (Below.refl w.heap.size w) (boxL cw cd)) hb)
  have BK1 : Aside0 (w1.heap[w.heap.size]? = some (boxL cw cd)) := ⟨blk_below (blk_new w _) hb⟩
  clear hb
  go_wp2_with fail
  refine (HcS.out _).mono ?_
  rintro e w2 ⟨rfl, hb⟩
  have HB2 := Aside0.mk (below_then HB1.out HB1.out.size hb)
  have BK2 : Aside0 (w2.heap[w.heap.size]? = some (boxL cw cd)) := ⟨blk_below BK1.out hb⟩
  have hc0 : w2.cell? ⟨w.heap.size, 0, none⟩ = some (.int .i64 cw) := (blk_cell BK2.out 0).trans rfl
  have hc1 : w2.cell? ⟨w.heap.size, 1, none⟩ = some (.int .i64 cd) := (blk_cell BK2.out 1).trans rfl
  clear hb
  go_wp2_with fail
  refine (HT.out _).mono ?_
  rintro e w3 ⟨rfl, hb⟩
  have HB3 := Aside0.mk (below_then HB2.out HB2.out.size hb)
  clear hb hc0 hc1
  go_wp2_with fail
  refine (HcI.out _).mono ?_
  rintro e w4 ⟨rfl, hb⟩
  have HB4 := Aside0.mk (below_then HB3.out HB3.out.size hb)
  clear hb
  go_wp2_with fail
  go_ret
  exact ⟨rfl, HB4.out⟩
theorem impl (cw cd pl : Int) (w : World) : Calls Try.prog 15 #[.agg #[.int .i64 cw, .int .i64 cd], .int .i64 pl] w fun e w' => e = .returned (.tuple #[.int .i64 (FcCountSpots.val cw cd pl).1, .bool (FcCountSpots.val cw cd pl).2]) ∧ Below w.heap.size w w' := by
  unfold FcCountSpots.val
  by_cases h1 : (1 ≤ cw ∧ cw ≤ 100) ∧ 1 ≤ cd ∧ cd ≤ 100
  · by_cases h2 : 1 ≤ pl ∧ pl ≤ 200
    · rw [if_pos ⟨h1, h2⟩]
      obtain ⟨k, hk⟩ := (firsts h2.1 h2.2).rounds
      exact count_yes k cw cd pl (F pl) w (by rw [corner_eq, decide_eq_true h1]) (by rw [plank_eq, decide_eq_true h2]) hk (F_two pl)
    · rw [if_neg (fun q => h2 q.2)]
      exact count_no cw cd pl true w (by rw [corner_eq, decide_eq_true h1]) (fun _ => by rw [plank_eq, decide_eq_false h2])
  · rw [if_neg (fun q => h1 q.1)]
    exact count_no cw cd pl false w (by rw [corner_eq, decide_eq_false h1]) (fun q => by cases q)
theorem whole (cw cd pl : Int) (w : World) (_ : (Lit.int .i64 cw).wf = true) (_ : (Lit.int .i64 cd).wf = true) (_ : (Lit.int .i64 pl).wf = true) : Calls Try.prog 4 #[.agg #[.int .i64 cw, .int .i64 cd], .int .i64 pl] w fun e w' => e = .returned (.bool true) ∧ Below w.heap.size w w' := by
  obtain ⟨k, hk⟩ := FcCountSpots.spec_eq cw cd pl
  exact law cw cd pl _ _ w (fun W => PFnExactCountSpots.spec_CountSpots.calls k cw cd pl _ _ W hk) (impl cw cd pl)
end Go.Proofs.Ytnnedicoapdkkaa.LwCountSpots
