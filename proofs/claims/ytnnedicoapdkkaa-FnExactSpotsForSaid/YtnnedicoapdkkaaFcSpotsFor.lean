/- What the reference's SpotsFor answers, in plain Lean, out of the printed functions. No condition beyond those in the theorems. -/
import Derived.Test.YtnnedicoapdkkaaSp
import Derived.Test.YtnnedicoapdkkaaPFnExactSpotsForx1
namespace Go.Proofs.Ytnnedicoapdkkaa.FcSpotsFor
set_option linter.unusedVariables false
set_option linter.unusedSimpArgs false
open Go.RowKit Go.Proofs.YtnnedicoapdkkaaW.PrintWords Go.Proofs.YtnnedicoapdkkaaW.PrintLast Go.Proofs.YtnnedicoapdkkaaW.PrintMore Clo Spots Sp PFnExactSpotsFor
theorem needs_eq (cw cd a b : Int) : spec_cnNeeds.f cw cd a b = some (nd cw cd a b) := rfl
theorem good_eq (cw cd : Int) : spec_cnGood.f cw cd = some (decide ((1 ≤ cw ∧ cw ≤ 100) ∧ 1 ≤ cd ∧ cd ≤ 100)) := by
  unfold spec_cnGood.f spec_l1In.f
  by_cases h1 : 1 ≤ cw <;> by_cases h2 : cw ≤ 100 <;> by_cases h3 : 1 ≤ cd <;> simp [h1, h2, h3]
theorem far_iff {cw cd pl a b : Int} : far cw cd pl [a, b] = true ↔ nd cw cd a b > wrap64 (wrap64 (4 * pl) * pl) := by
  unfold far
  rw [decide_eq_true_iff]
  exact Iff.rfl
theorem c_l1 {cw cd pl a : Int} (mo : Nat) (hp0 : 1 ≤ pl) (hp : pl ≤ 200) (ha0 : 1 ≤ a) (ha : a ≤ 200) (r : Int × List (List Int)) : ∀ (m : Nat) (b : Int) (gl : List (List Int)), 1 ≤ b → b + m = pl + 2 → gl.length + m ≤ 100000 →
    Ev (fun k => spec_cnCount.l0 k pl mo (gl ++ good cw cd pl (cols pl a m b)).length ((gl ++ good cw cd pl (cols pl a m b)).take mo) (a + 1) cw cd) r → Ev (fun k => spec_cnCount.l1 k pl mo gl.length (gl.take mo) a b cw cd) r
  | 0, b, gl, hb, hm, hl, h => by
    have ht := test_eq (pl := pl) (a := a) (b := b) (by omega) hp (by omega) ha (by omega) (by omega)
    have e : gl ++ good cw cd pl (cols pl a 0 b) = gl := by simp [cols, good]
    rw [e] at h
    refine ev_step (fun k => ?_) h
    simp only [spec_cnCount.l1]
    rw [ht.1, ht.2, if_neg (past (by omega) (by omega) (by omega)), w_id (x := a + 1) (by omega) (by omega)]
  | m + 1, b, gl, hb, hm, hl, h => by
    have ht := test_eq (pl := pl) (a := a) (b := b) (by omega) hp (by omega) ha (by omega) (by omega)
    by_cases hc : a * a + b * b ≤ pl * pl
    · rw [cols, if_pos hc] at h
      by_cases hf : far cw cd pl [a, b] = true
      · have e : good cw cd pl ([a, b] :: cols pl a m (b + 1)) = good cw cd pl (cols pl a m (b + 1)) := by unfold good; rw [List.filter_cons_of_neg (by simp [hf])]
        rw [e] at h
        refine ev_step (g' := fun k => spec_cnCount.l1 k pl mo gl.length (gl.take mo) a (b + 1) cw cd) (fun k => ?_) (c_l1 mo hp0 hp ha0 ha r m (b + 1) gl (by omega) (by omega) (by omega) h)
        simp only [spec_cnCount.l1]
        rw [ht.1, ht.2, if_pos hc, needs_eq, Option.bind_some, if_pos (far_iff.mp hf), w_id (x := b + 1) (by omega) (by omega)]
      · have e : gl ++ good cw cd pl ([a, b] :: cols pl a m (b + 1)) = (gl ++ [[a, b]]) ++ good cw cd pl (cols pl a m (b + 1)) := by unfold good; rw [List.filter_cons_of_pos (by simp [hf])]; simp
        rw [e] at h
        have hlen : ((gl ++ [[a, b]]).length : Int) = (gl.length : Int) + 1 := by simp
        have hi := c_l1 mo hp0 hp ha0 ha r m (b + 1) (gl ++ [[a, b]]) (by omega) (by omega) (by simp; omega) h
        rw [hlen] at hi
        refine ev_step (fun k => ?_) hi
        simp only [spec_cnCount.l1]
        rw [ht.1, ht.2, if_pos hc, needs_eq, Option.bind_some, if_neg (fun q => hf (far_iff.mpr q)), w_id (x := b + 1) (by omega) (by omega), w_id (x := (gl.length : Int) + 1) (by omega) (by omega)]
        by_cases hk : (gl.length : Int) + 1 ≤ (mo : Int)
        · rw [if_pos hk, if_pos (by rw [List.length_take]; omega), List.take_of_length_le (by omega), List.take_of_length_le (by simp; omega)]
        · rw [if_neg hk, List.take_append_of_le_length (by omega)]
    · rw [cols, if_neg hc] at h
      have e : gl ++ good cw cd pl [] = gl := by simp [good]
      rw [e] at h
      refine ev_step (fun k => ?_) h
      simp only [spec_cnCount.l1]
      rw [ht.1, ht.2, if_neg hc, w_id (x := a + 1) (by omega) (by omega)]
theorem c_l0 {cw cd pl : Int} (mo : Nat) (hp0 : 1 ≤ pl) (hp : pl ≤ 200) : ∀ (d : Nat) (a : Int) (gl : List (List Int)), 1 ≤ a → a + d = pl → gl.length + (d + 1) * 201 ≤ 100000 →
    Ev (fun k => spec_cnCount.l0 k pl mo gl.length (gl.take mo) a cw cd) ((((gl ++ good cw cd pl (rows pl d a)).length : Nat) : Int), (gl ++ good cw cd pl (rows pl d a)).take mo)
  | 0, a, gl, ha, hd, hl => by
    have e : gl ++ good cw cd pl (rows pl 0 a) = gl := by simp [rows, good]
    rw [e]
    refine ev_end (fun k => ?_)
    simp only [spec_cnCount.l0]
    rw [if_neg (by omega)]
  | d + 1, a, gl, ha, hd, hl => by
    have hcl := cols_len pl a (pl.toNat + 1) 1
    have hgl := good_len cw cd pl (cols pl a (pl.toNat + 1) 1)
    refine ev_step (g' := fun k => spec_cnCount.l1 k pl mo gl.length (gl.take mo) a 1 cw cd) (fun k => ?_) (c_l1 mo hp0 hp ha (by omega) _ (pl.toNat + 1) 1 gl (by omega) (by omega) (by omega) ?_)
    · simp only [spec_cnCount.l0]
      rw [if_pos (by omega)]
    · have e : gl ++ good cw cd pl (rows pl (d + 1) a) = (gl ++ good cw cd pl (cols pl a (pl.toNat + 1) 1)) ++ good cw cd pl (rows pl d (a + 1)) := by
        rw [rows]; unfold good; rw [List.filter_append, List.append_assoc]
      rw [e]
      exact c_l0 mo hp0 hp d (a + 1) _ (by omega) (by omega) (by rw [List.length_append]; omega)
theorem count (cw cd : Int) {pl : Int} (mo : Nat) (hp0 : 1 ≤ pl) (hp : pl ≤ 200) : Ev (fun k => spec_cnCount.f k cw cd pl mo) (((good cw cd pl (F pl)).length : Int), (good cw cd pl (F pl)).take mo) := by
  have h := c_l0 (cw := cw) (cd := cd) mo hp0 hp (pl.toNat - 1) 1 [] (by omega) (by omega) (by simp; omega)
  rw [List.nil_append, List.take_nil] at h
  exact h
def cnt (cw cd pl : Int) : Int × Bool := if ((1 ≤ cw ∧ cw ≤ 100) ∧ 1 ≤ cd ∧ cd ≤ 100) ∧ 1 ≤ pl ∧ pl ≤ 200 then (((good cw cd pl (F pl)).length : Int), true) else (0, false)
def val (cw cd pl : Int) : List (List Int) × Bool := sf (cnt cw cd pl).1 (cnt cw cd pl).2 (good cw cd pl (F pl))
theorem plank_eq (pl : Int) : spec_cnPlank.f pl = some (decide (1 ≤ pl ∧ pl ≤ 200)) := by
  unfold spec_cnPlank.f spec_l1In.f
  by_cases h1 : 1 ≤ pl <;> simp [h1]
theorem spec_eq (cw cd pl : Int) : ∃ k, spec_SpotsFor.f k cw cd pl = some (val cw cd pl) := by
  by_cases h1 : (1 ≤ cw ∧ cw ≤ 100) ∧ 1 ≤ cd ∧ cd ≤ 100
  · by_cases h2 : 1 ≤ pl ∧ pl ≤ 200
    · obtain ⟨k, hk⟩ := (count cw cd 1000 h2.1 h2.2).rounds
      have hk' : spec_cnCount.f k cw cd pl 1000 = _ := hk
      refine ⟨k + 1, ?_⟩
      unfold val cnt sf spec_SpotsFor.f
      rw [good_eq, decide_eq_true h1, Option.bind_some, if_pos rfl, plank_eq, decide_eq_true h2, Option.bind_some, if_pos (show ((1 ≤ cw ∧ cw ≤ 100) ∧ 1 ≤ cd ∧ cd ≤ 100) ∧ 1 ≤ pl ∧ pl ≤ 200 from ⟨h1, h2⟩)]
      simp only [spec_SpotsFor.j0]
      rw [if_neg (by decide), hk', Option.bind_some]
      by_cases h3 : ((good cw cd pl (F pl)).length : Int) ≤ 1000
      · rw [if_neg (by show ¬ ((good cw cd pl (F pl)).length : Int) > 1000; omega), if_pos ⟨trivial, h3⟩]
        show some (List.take 1000 (good cw cd pl (F pl)), true) = _
        rw [List.take_of_length_le (by omega)]
      · rw [if_pos (by show ((good cw cd pl (F pl)).length : Int) > 1000; omega), if_neg (fun q => h3 q.2)]
    · refine ⟨1, ?_⟩
      unfold val cnt sf spec_SpotsFor.f
      rw [good_eq, decide_eq_true h1, Option.bind_some, if_pos rfl, plank_eq, decide_eq_false h2, Option.bind_some, if_neg (show ¬ (((1 ≤ cw ∧ cw ≤ 100) ∧ 1 ≤ cd ∧ cd ≤ 100) ∧ 1 ≤ pl ∧ pl ≤ 200) from fun q => h2 q.2)]
      simp only [spec_SpotsFor.j0]
      simp
  · refine ⟨1, ?_⟩
    unfold val cnt sf spec_SpotsFor.f
    rw [good_eq, decide_eq_false h1, Option.bind_some, if_neg (by simp), if_neg (show ¬ (((1 ≤ cw ∧ cw ≤ 100) ∧ 1 ≤ cd ∧ cd ≤ 100) ∧ 1 ≤ pl ∧ pl ≤ 200) from fun q => h1 q.1)]
    simp only [spec_SpotsFor.j0]
    simp
end Go.Proofs.Ytnnedicoapdkkaa.FcSpotsFor
