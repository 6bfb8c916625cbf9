/- laws.FnExactCornerText at this program answers true where the library's table of powers of ten stands as laid. Condition: the corner's numbers are whole numbers of the type's range. -/
import Derived.Test.YtcbjamkhnjpijaaDoorNum
namespace Go.Proofs.YtcbjamkhnjpijaaDoor.LwCornerText
set_option linter.unusedVariables false
set_option linter.unusedSimpArgs false
open Go.RowKit Go.Proofs.YtcbjamkhnjpijaaDoorW.PrintWords Go.Proofs.YtcbjamkhnjpijaaDoorW.PrintLast Go.Proofs.YtcbjamkhnjpijaaDoorW.PrintMore Num

def ok (cw cd : Int) : Bool := decide ((1 ≤ cw ∧ cw ≤ 100) ∧ 1 ≤ cd ∧ cd ≤ 100)
theorem inn (a lo hi : Int) (w : World) : Calls Tryd.prog 11 #[.int .i64 a, .int .i64 lo, .int .i64 hi] w fun e w' => e = .returned (.bool (decide (lo ≤ a ∧ a ≤ hi))) ∧ w = w' := by
  by_cases h1 : a ≥ lo
  · by_cases h2 : a ≤ hi
    · rw [decide_eq_true ⟨h1, h2⟩]
      go_enter Tryd.func11, Tryd.ntmps11
      go_wp2
      go_ret
      exact ⟨rfl, rfl⟩
    · rw [decide_eq_false (fun q => h2 q.2)]
      go_enter Tryd.func11, Tryd.ntmps11
      go_wp2
      go_ret
      exact ⟨rfl, rfl⟩
  · rw [decide_eq_false (fun q => h1 q.1)]
    go_enter Tryd.func11, Tryd.ntmps11
    go_wp2
    go_ret
    exact ⟨rfl, rfl⟩
theorem within (a lo hi : Int) (w : World) : Calls Tryd.prog 15 #[.int .i64 a, .int .i64 lo, .int .i64 hi] w fun e w' => e = .returned (.bool (decide (lo ≤ a ∧ a ≤ hi))) ∧ w = w' := by
  by_cases h1 : lo ≤ a
  · by_cases h2 : a ≤ hi
    · rw [decide_eq_true ⟨h1, h2⟩]
      go_enter Tryd.func15, Tryd.ntmps15
      go_wp2
      go_ret
      exact ⟨rfl, rfl⟩
    · rw [decide_eq_false (fun q => h2 q.2)]
      go_enter Tryd.func15, Tryd.ntmps15
      go_wp2
      go_ret
      exact ⟨rfl, rfl⟩
  · rw [decide_eq_false (fun q => h1 q.1)]
    go_enter Tryd.func15, Tryd.ntmps15
    go_wp2
    go_ret
    exact ⟨rfl, rfl⟩
theorem ditch (a : Int) (w : World) : Calls Tryd.prog 13 #[.int .i64 a] w fun e w' => e = .returned (.bool (decide (1 ≤ a ∧ a ≤ 100))) ∧ w = w' := by
  have h := Aside0.mk (within a 1 100)
  generalize decide (1 ≤ a ∧ a ≤ 100) = b at h ⊢
  go_enter Tryd.func13, Tryd.ntmps13
  go_wp2_with fail
  refine (h.out _).mono ?_
  rintro e w' ⟨rfl, rfl⟩
  go_wp2
  go_ret
  exact ⟨rfl, rfl⟩
theorem ok_eq (cw cd : Int) : ok cw cd = (decide (1 ≤ cw ∧ cw ≤ 100) && decide (1 ≤ cd ∧ cd ≤ 100)) := by unfold ok; rw [Bool.decide_and]
set_option maxHeartbeats 2000000 in
theorem cnGood (cw cd : Int) (w : World) : Calls Tryd.prog 7 #[.agg #[.int .i64 cw, .int .i64 cd]] w fun e w' => e = .returned (.bool (ok cw cd)) ∧ Below w.heap.size w w' := by
  rw [ok_eq]
  have hu26 := Tryd.underlying26
  have h1 := Aside0.mk (inn cw 1 100)
  have h2 := Aside0.mk (inn cd 1 100)
  generalize decide (1 ≤ cw ∧ cw ≤ 100) = a at h1 ⊢
  generalize decide (1 ≤ cd ∧ cd ≤ 100) = b at h2 ⊢
  cases a with
  | false =>
    go_enter Tryd.func7, Tryd.ntmps7
    go_wp2_with fail
    refine (h1.out _).mono ?_
    rintro e w' ⟨rfl, rfl⟩
    go_wp2_with fail
    go_ret
    exact ⟨rfl, below_alloc (Below.refl _ _) _⟩
  | true =>
    rw [Bool.true_and]
    go_enter Tryd.func7, Tryd.ntmps7
    go_wp2_with fail
    refine (h1.out _).mono ?_
    rintro e w' ⟨rfl, rfl⟩
    go_wp2_with fail
    refine (h2.out _).mono ?_
    rintro e w' ⟨rfl, rfl⟩
    go_wp2_with fail
    go_ret
    exact ⟨rfl, below_alloc (Below.refl _ _) _⟩
set_option maxHeartbeats 2000000 in
theorem isCorner (cw cd : Int) (w : World) : Calls Tryd.prog 9 #[.agg #[.int .i64 cw, .int .i64 cd]] w fun e w' => e = .returned (.bool (ok cw cd)) ∧ Below w.heap.size w w' := by
  rw [ok_eq]
  have hu26 := Tryd.underlying26
  have h1 := Aside0.mk (ditch cw)
  have h2 := Aside0.mk (ditch cd)
  generalize decide (1 ≤ cw ∧ cw ≤ 100) = a at h1 ⊢
  generalize decide (1 ≤ cd ∧ cd ≤ 100) = b at h2 ⊢
  cases a with
  | false =>
    go_enter Tryd.func9, Tryd.ntmps9
    go_wp2_with fail
    refine (h1.out _).mono ?_
    rintro e w' ⟨rfl, rfl⟩
    go_wp2_with fail
    go_ret
    exact ⟨rfl, below_alloc (Below.refl _ _) _⟩
  | true =>
    rw [Bool.true_and]
    go_enter Tryd.func9, Tryd.ntmps9
    go_wp2_with fail
    refine (h1.out _).mono ?_
    rintro e w' ⟨rfl, rfl⟩
    go_wp2_with fail
    refine (h2.out _).mono ?_
    rintro e w' ⟨rfl, rfl⟩
    go_wp2_with fail
    go_ret
    exact ⟨rfl, below_alloc (Below.refl _ _) _⟩
theorem box_kept {w w1 : World} {cw cd : Int} (hb : Below (w.alloc (boxC cw cd)).heap.size (w.alloc (boxC cw cd)) w1) : w1.heap[w.heap.size]? = some (boxC cw cd) := blk_below (blk_new w _) hb
/-- What both hand back. -/
def val (cw cd : Int) : ByteArray × Bool := if ok cw cd = true then (text cw cd, true) else (⟨#[]⟩, false)
theorem ok_iff {cw cd : Int} (h : ok cw cd = true) : 1 ≤ cw ∧ cw ≤ 100 ∧ 1 ≤ cd ∧ cd ≤ 100 := by
  have := of_decide_eq_true h; omega
set_option maxHeartbeats 2000000 in
theorem spec (cw cd : Int) (w : World) : Calls Tryd.prog 4 #[.agg #[.int .i64 cw, .int .i64 cd]] w fun e w' => e = .returned (.tuple #[.string (val cw cd).1, .bool (val cw cd).2]) ∧ Below w.heap.size w w' := by
  have hu26 := Tryd.underlying26
  have CG := Aside0.mk (cnGood cw cd)
  have CT : Aside0 (ok cw cd = true → ∀ w, Calls Tryd.prog 8 #[.agg #[.int .i64 cw, .int .i64 cd]] w fun e w' => e = .returned (.string (text cw cd)) ∧ Below w.heap.size w w') := ⟨fun h w => cnText cw cd w (ok_iff h).1 (ok_iff h).2.1 (ok_iff h).2.2.1 (ok_iff h).2.2.2⟩
  unfold val
  generalize text cw cd = t at CT ⊢
  cases ho : ok cw cd with
  | false =>
    rw [ho] at CG
    rw [if_neg (by decide)]
    clear ho CT
    go_enter Tryd.func4, Tryd.ntmps4
    go_wp2_with fail
    refine (CG.out _).mono ?_
    rintro e w1 ⟨rfl, hb⟩
    have HB1 := Aside0.mk (below_step (below_alloc (Below.refl w.heap.size w) (boxC cw cd)) hb)
    clear hb
    go_wp2_with fail
    go_ret2
    exact ⟨rfl, HB1.out⟩
  | true =>
    replace CT := Aside0.mk (CT.out ho)
    rw [ho] at CG
    rw [if_pos rfl]
    clear ho
    go_enter Tryd.func4, Tryd.ntmps4
    go_wp2_with fail
    refine (CG.out _).mono ?_
    rintro e w1 ⟨rfl, hb⟩
    have HB1 := Aside0.mk (below_step (below_alloc (Below.refl w.heap.size w) (boxC cw cd)) hb)
    have BK := Aside0.mk (box_kept hb)
    have hc0 : w1.cell? ⟨w.heap.size, 0, none⟩ = some (.int .i64 cw) := (blk_cell BK.out 0).trans rfl
    have hc1 : w1.cell? ⟨w.heap.size, 1, none⟩ = some (.int .i64 cd) := (blk_cell BK.out 1).trans rfl
    clear hb
    go_wp2_with fail
    refine (CT.out _).mono ?_
    rintro e w2 ⟨rfl, hb⟩
    have HB2 := Aside0.mk (below_then HB1.out HB1.out.size hb)
    clear hb
    go_wp2_with fail
    go_ret2
    exact ⟨rfl, HB2.out⟩
set_option maxHeartbeats 2000000 in
theorem impl (cw cd : Int) (w : World) (ht : Tab w) : Calls Tryd.prog 6 #[.agg #[.int .i64 cw, .int .i64 cd]] w fun e w' => e = .returned (.tuple #[.string (val cw cd).1, .bool (val cw cd).2]) ∧ Below w.heap.size w w' := by
  have hu26 := Tryd.underlying26
  have HT := Aside0.mk ht
  have CG := Aside0.mk (isCorner cw cd)
  have CT : Aside0 (ok cw cd = true → ∀ w, Tab w → Calls Tryd.prog 10 #[.agg #[.int .i64 cw, .int .i64 cd]] w fun e w' => e = .returned (.string (text cw cd)) ∧ Below w.heap.size w w') := ⟨fun h w ht => cornerText cw cd w (ok_iff h).1 (ok_iff h).2.1 (ok_iff h).2.2.1 (ok_iff h).2.2.2 ht⟩
  unfold val
  generalize text cw cd = t at CT ⊢
  clear ht
  cases ho : ok cw cd with
  | false =>
    rw [ho] at CG
    rw [if_neg (by decide)]
    clear ho CT
    go_enter Tryd.func6, Tryd.ntmps6
    go_wp2_with fail
    refine (CG.out _).mono ?_
    rintro e w1 ⟨rfl, hb⟩
    have HB1 := Aside0.mk (below_step (below_alloc (Below.refl w.heap.size w) (boxC cw cd)) hb)
    clear hb
    go_wp2_with fail
    go_ret2
    exact ⟨rfl, HB1.out⟩
  | true =>
    replace CT := Aside0.mk (CT.out ho)
    rw [ho] at CG
    rw [if_pos rfl]
    clear ho
    go_enter Tryd.func6, Tryd.ntmps6
    go_wp2_with fail
    refine (CG.out _).mono ?_
    rintro e w1 ⟨rfl, hb⟩
    have HB1 := Aside0.mk (below_step (below_alloc (Below.refl w.heap.size w) (boxC cw cd)) hb)
    have BK := Aside0.mk (box_kept hb)
    have hc0 : w1.cell? ⟨w.heap.size, 0, none⟩ = some (.int .i64 cw) := (blk_cell BK.out 0).trans rfl
    have hc1 : w1.cell? ⟨w.heap.size, 1, none⟩ = some (.int .i64 cd) := (blk_cell BK.out 1).trans rfl
    clear hb
    go_wp2_with fail
    refine (CT.out _ (tab HT.out HB1.out)).mono ?_
    rintro e w2 ⟨rfl, hb⟩
    have HB2 := Aside0.mk (below_then HB1.out HB1.out.size hb)
    clear hb
    go_wp2_with fail
    go_ret2
    exact ⟨rfl, HB2.out⟩
set_option maxHeartbeats 2000000 in
theorem toCorner (cw cd : Int) (w : World) : Calls Tryd.prog 5 #[.agg #[.int .i64 cw, .int .i64 cd]] w fun e w' => e = .returned (.agg #[.int .i64 cw, .int .i64 cd]) ∧ Below w.heap.size w w' := by
  have hu23 := Tryd.underlying23
  have hu26 := Tryd.underlying26
  go_enter Tryd.func5, Tryd.ntmps5
  go_wp2
  refine bodyPost_ret (v := .agg #[.int .i64 cw, .int .i64 cd]) (by simp [results, Tryd.results5, go_sem]) rfl ⟨rfl, ?_⟩
  repeat (any_goals (first | exact Below.refl _ _ | apply below_alloc | refine Below.setCell ?_ ?_ _ | exact Nat.le_refl _ | exact Nat.le_add_right _ _ | (simp; done)))
abbrev boxL (cw cd : Int) : Obj := .cells #[.int .i64 cw, .int .i64 cd] 23
set_option maxHeartbeats 4000000 in
set_option maxRecDepth 100000 in
theorem law (cw cd : Int) (w : World) (ht : Tab w) : Calls Tryd.prog 3 #[.agg #[.int .i64 cw, .int .i64 cd]] w fun e w' => e = .returned (.bool true) ∧ Below w.heap.size w w' := by
  have hu23 := Tryd.underlying23
  have hu26 := Tryd.underlying26
  have HTab := Aside0.mk ht
  have HcS := Aside0.mk (spec cw cd)
  have HcI := Aside0.mk (impl cw cd)
  generalize val cw cd = q at HcS HcI
  obtain ⟨t, b⟩ := q
  replace HcS : Aside0 (∀ W, Calls Tryd.prog 4 #[.agg #[.int .i64 cw, .int .i64 cd]] W fun e w' => e = .returned (.tuple #[.string t, .bool b]) ∧ Below W.heap.size W w') := ⟨HcS.out⟩
  replace HcI : Aside0 (∀ W, Tab W → Calls Tryd.prog 6 #[.agg #[.int .i64 cw, .int .i64 cd]] W fun e w' => e = .returned (.tuple #[.string t, .bool b]) ∧ Below W.heap.size W w') := ⟨HcI.out⟩
  have hbb : (b != b) = false := by simp
  have htt : (t.toList != t.toList) = false := by simp
  have HT := Aside0.mk (toCorner cw cd)
  clear ht
  go_enter Tryd.func3, Tryd.ntmps3
  go_wp2_with fail
  refine (HT.out _).mono ?_
  rintro e w1 ⟨rfl, hb⟩
  have HB1 := Aside0.mk (below_step (below_alloc (Below.refl w.heap.size w) (boxL cw cd)) hb)
  have BK1 : Aside0 (w1.heap[w.heap.size]? = some (boxL cw cd)) := ⟨blk_below (blk_new w _) hb⟩
  clear hb
  go_wp2_with fail
  refine (HcS.out _).mono ?_
  rintro e w2 ⟨rfl, hb⟩
  have HB2 := Aside0.mk (below_then HB1.out HB1.out.size hb)
  have BK2 : Aside0 (w2.heap[w.heap.size]? = some (boxL cw cd)) := ⟨blk_below BK1.out hb⟩
  have hc0 : w2.cell? ⟨w.heap.size, 0, none⟩ = some (.int .i64 cw) := (blk_cell BK2.out 0).trans rfl
  have hc1 : w2.cell? ⟨w.heap.size, 1, none⟩ = some (.int .i64 cd) := (blk_cell BK2.out 1).trans rfl
  clear hb
  go_wp2_with fail
  refine (HT.out _).mono ?_
  rintro e w3 ⟨rfl, hb⟩
  have HB3 := Aside0.mk (below_then HB2.out HB2.out.size hb)
  clear hb hc0 hc1
  go_wp2_with fail
  refine (HcI.out _ (tab HTab.out HB3.out)).mono ?_
  rintro e w4 ⟨rfl, hb⟩
  have HB4 := Aside0.mk (below_then HB3.out HB3.out.size hb)
  clear hb
  go_wp2_with fail
  go_ret
  exact ⟨rfl, HB4.out⟩
end Go.Proofs.YtcbjamkhnjpijaaDoor.LwCornerText
