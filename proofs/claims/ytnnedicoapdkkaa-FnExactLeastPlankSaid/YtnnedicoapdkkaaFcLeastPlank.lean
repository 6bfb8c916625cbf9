/- What the reference's LeastPlank answers, in plain Lean, out of the printed functions. No condition beyond those in the theorems. -/
import Derived.Test.YtnnedicoapdkkaaSp
import Derived.Test.YtnnedicoapdkkaaPFnExactLeastPlankx1
namespace Go.Proofs.Ytnnedicoapdkkaa.FcLeastPlank
set_option linter.unusedVariables false
set_option linter.unusedSimpArgs false
open Go.RowKit Go.Proofs.YtnnedicoapdkkaaW.PrintWords Go.Proofs.YtnnedicoapdkkaaW.PrintLast Go.Proofs.YtnnedicoapdkkaaW.PrintMore Clo Spots Sp PFnExactLeastPlank
theorem needs_eq (cw cd a b : Int) : spec_cnNeeds.f cw cd a b = some (nd cw cd a b) := rfl
theorem good_eq (cw cd : Int) : spec_cnGood.f cw cd = some (decide ((1 ≤ cw ∧ cw ≤ 100) ∧ 1 ≤ cd ∧ cd ≤ 100)) := by
  unfold spec_cnGood.f spec_l1In.f
  by_cases h1 : 1 ≤ cw <;> by_cases h2 : cw ≤ 100 <;> by_cases h3 : 1 ≤ cd <;> simp [h1, h2, h3]
theorem far_iff {cw cd pl a b : Int} : far cw cd pl [a, b] = true ↔ nd cw cd a b > wrap64 (wrap64 (4 * pl) * pl) := by
  unfold far
  rw [decide_eq_true_iff]
  exact Iff.rfl
theorem c_l1 {cw cd pl a : Int} (mo : Nat) (hp0 : 1 ≤ pl) (hp : pl ≤ 200) (ha0 : 1 ≤ a) (ha : a ≤ 200) (r : Int × List (List Int)) : ∀ (m : Nat) (b : Int) (gl : List (List Int)), 1 ≤ b → b + m = pl + 2 → gl.length + m ≤ 100000 →
    Ev (fun k => spec_cnCount.l0 k pl mo (gl ++ good cw cd pl (cols pl a m b)).length ((gl ++ good cw cd pl (cols pl a m b)).take mo) (a + 1) cw cd) r → Ev (fun k => spec_cnCount.l1 k pl mo gl.length (gl.take mo) a b cw cd) r
  | 0, b, gl, hb, hm, hl, h => by
    have ht := test_eq (pl := pl) (a := a) (b := b) (by omega) hp (by omega) ha (by omega) (by omega)
    have e : gl ++ good cw cd pl (cols pl a 0 b) = gl := by simp [cols, good]
    rw [e] at h
    refine ev_step (fun k => ?_) h
    simp only [spec_cnCount.l1]
    rw [ht.1, ht.2, if_neg (past (by omega) (by omega) (by omega)), w_id (x := a + 1) (by omega) (by omega)]
  | m + 1, b, gl, hb, hm, hl, h => by
    have ht := test_eq (pl := pl) (a := a) (b := b) (by omega) hp (by omega) ha (by omega) (by omega)
    by_cases hc : a * a + b * b ≤ pl * pl
    · rw [cols, if_pos hc] at h
      by_cases hf : far cw cd pl [a, b] = true
      · have e : good cw cd pl ([a, b] :: cols pl a m (b + 1)) = good cw cd pl (cols pl a m (b + 1)) := by unfold good; rw [List.filter_cons_of_neg (by simp [hf])]
        rw [e] at h
        refine ev_step (g' := fun k => spec_cnCount.l1 k pl mo gl.length (gl.take mo) a (b + 1) cw cd) (fun k => ?_) (c_l1 mo hp0 hp ha0 ha r m (b + 1) gl (by omega) (by omega) (by omega) h)
        simp only [spec_cnCount.l1]
        rw [ht.1, ht.2, if_pos hc, needs_eq, Option.bind_some, if_pos (far_iff.mp hf), w_id (x := b + 1) (by omega) (by omega)]
      · have e : gl ++ good cw cd pl ([a, b] :: cols pl a m (b + 1)) = (gl ++ [[a, b]]) ++ good cw cd pl (cols pl a m (b + 1)) := by unfold good; rw [List.filter_cons_of_pos (by simp [hf])]; simp
        rw [e] at h
        have hlen : ((gl ++ [[a, b]]).length : Int) = (gl.length : Int) + 1 := by simp
        have hi := c_l1 mo hp0 hp ha0 ha r m (b + 1) (gl ++ [[a, b]]) (by omega) (by omega) (by simp; omega) h
        rw [hlen] at hi
        refine ev_step (fun k => ?_) hi
        simp only [spec_cnCount.l1]
        rw [ht.1, ht.2, if_pos hc, needs_eq, Option.bind_some, if_neg (fun q => hf (far_iff.mpr q)), w_id (x := b + 1) (by omega) (by omega), w_id (x := (gl.length : Int) + 1) (by omega) (by omega)]
        by_cases hk : (gl.length : Int) + 1 ≤ (mo : Int)
        · rw [if_pos hk, if_pos (by rw [List.length_take]; omega), List.take_of_length_le (by omega), List.take_of_length_le (by simp; omega)]
        · rw [if_neg hk, List.take_append_of_le_length (by omega)]
    · rw [cols, if_neg hc] at h
      have e : gl ++ good cw cd pl [] = gl := by simp [good]
      rw [e] at h
      refine ev_step (fun k => ?_) h
      simp only [spec_cnCount.l1]
      rw [ht.1, ht.2, if_neg hc, w_id (x := a + 1) (by omega) (by omega)]
theorem c_l0 {cw cd pl : Int} (mo : Nat) (hp0 : 1 ≤ pl) (hp : pl ≤ 200) : ∀ (d : Nat) (a : Int) (gl : List (List Int)), 1 ≤ a → a + d = pl → gl.length + (d + 1) * 201 ≤ 100000 →
    Ev (fun k => spec_cnCount.l0 k pl mo gl.length (gl.take mo) a cw cd) ((((gl ++ good cw cd pl (rows pl d a)).length : Nat) : Int), (gl ++ good cw cd pl (rows pl d a)).take mo)
  | 0, a, gl, ha, hd, hl => by
    have e : gl ++ good cw cd pl (rows pl 0 a) = gl := by simp [rows, good]
    rw [e]
    refine ev_end (fun k => ?_)
    simp only [spec_cnCount.l0]
    rw [if_neg (by omega)]
  | d + 1, a, gl, ha, hd, hl => by
    have hcl := cols_len pl a (pl.toNat + 1) 1
    have hgl := good_len cw cd pl (cols pl a (pl.toNat + 1) 1)
    refine ev_step (g' := fun k => spec_cnCount.l1 k pl mo gl.length (gl.take mo) a 1 cw cd) (fun k => ?_) (c_l1 mo hp0 hp ha (by omega) _ (pl.toNat + 1) 1 gl (by omega) (by omega) (by omega) ?_)
    · simp only [spec_cnCount.l0]
      rw [if_pos (by omega)]
    · have e : gl ++ good cw cd pl (rows pl (d + 1) a) = (gl ++ good cw cd pl (cols pl a (pl.toNat + 1) 1)) ++ good cw cd pl (rows pl d (a + 1)) := by
        rw [rows]; unfold good; rw [List.filter_append, List.append_assoc]
      rw [e]
      exact c_l0 mo hp0 hp d (a + 1) _ (by omega) (by omega) (by rw [List.length_append]; omega)
theorem count (cw cd : Int) {pl : Int} (mo : Nat) (hp0 : 1 ≤ pl) (hp : pl ≤ 200) : Ev (fun k => spec_cnCount.f k cw cd pl mo) (((good cw cd pl (F pl)).length : Int), (good cw cd pl (F pl)).take mo) := by
  have h := c_l0 (cw := cw) (cd := cd) mo hp0 hp (pl.toNat - 1) 1 [] (by omega) (by omega) (by simp; omega)
  rw [List.nil_append, List.take_nil] at h
  exact h
theorem at200 {cw cd : Int} (h : (1 ≤ cw ∧ cw ≤ 100) ∧ 1 ≤ cd ∧ cd ≤ 100) : 0 < (good cw cd 200 (F 200)).length := by
  have hm : [1, 1] ∈ F 200 := by
    have e : F 200 = cols 200 1 (200 + 1) 1 ++ rows 200 198 2 := rfl
    rw [e, cols, if_pos (by decide)]
    simp
  have hf : far cw cd 200 [1, 1] = false := by
    unfold far
    apply decide_eq_false
    have h1 := sq_le (a := 2 * cw - 1) (n := 199) (by omega) (by omega)
    have h2 := sq_le (a := 2 * cd - 1) (n := 199) (by omega) (by omega)
    unfold nd
    have r0 : rd [(1 : Int), 1] 0 = 1 := rfl
    have r1 : rd [(1 : Int), 1] 1 = 1 := rfl
    rw [r0, r1, w_id (x := 2 * cw) (by omega) (by omega), w_id (x := 2 * cd) (by omega) (by omega), w_id (x := 2 * cw - 1) (by omega) (by omega), w_id (x := 2 * cd - 1) (by omega) (by omega)]
    generalize (2 * cw - 1) * (2 * cw - 1) = x at h1 ⊢
    generalize (2 * cd - 1) * (2 * cd - 1) = y at h2 ⊢
    rw [w_id (x := x) (by omega) (by omega), w_id (x := y) (by omega) (by omega), w_id (x := x + y) (by omega) (by omega), w_id (x := 4 * 200) (by omega) (by omega), w_id (x := 4 * 200 * 200) (by omega) (by omega)]
    omega
  exact List.length_pos_of_mem (a := [1, 1]) (List.mem_filter.mpr ⟨hm, by rw [hf]; rfl⟩)
theorem first_of (Q : Nat → Bool) : ∀ n, Q n = true → 1 ≤ n → ∃ P, 1 ≤ P ∧ P ≤ n ∧ Q P = true ∧ ∀ p, 1 ≤ p → p < P → Q p = false
  | 0, _, h => by omega
  | n + 1, hq, _ => by
    by_cases he : ∃ p, 1 ≤ p ∧ p ≤ n ∧ Q p = true
    · obtain ⟨p, hp1, hp2, hp3⟩ := he
      have key : ∀ m, m ≤ n → ∀ p, p ≤ m → 1 ≤ p → Q p = true → ∃ P, 1 ≤ P ∧ P ≤ n + 1 ∧ Q P = true ∧ ∀ p, 1 ≤ p → p < P → Q p = false := by
        intro m
        induction m with
        | zero => intro _ p h1 h2; omega
        | succ m ih =>
          intro hm p hp h1 h2
          by_cases hx : ∃ p', 1 ≤ p' ∧ p' < p ∧ Q p' = true
          · obtain ⟨p', a1, a2, a3⟩ := hx
            exact ih (by omega) p' (by omega) a1 a3
          · exact ⟨p, h1, by omega, h2, fun p' b1 b2 => by cases hq' : Q p' with
              | false => rfl
              | true => exact absurd ⟨p', b1, b2, hq'⟩ hx⟩
      exact key n (Nat.le_refl _) p hp2 hp1 hp3
    · exact ⟨n + 1, by omega, Nat.le_refl _, hq, fun p h1 h2 => by cases hq' : Q p with
        | false => rfl
        | true => exact absurd ⟨p, h1, by omega, hq'⟩ he⟩
theorem least {cw cd : Int} (h : (1 ≤ cw ∧ cw ≤ 100) ∧ 1 ≤ cd ∧ cd ≤ 100) : ∃ P : Nat, 1 ≤ P ∧ P ≤ 200 ∧ 0 < (good cw cd P (F P)).length ∧ ∀ p : Nat, 1 ≤ p → p < P → (good cw cd p (F p)).length = 0 := by
  obtain ⟨P, h1, h2, h3, h4⟩ := first_of (fun p => decide (0 < (good cw cd (p : Int) (F p)).length)) 200 (decide_eq_true (at200 h)) (by omega)
  refine ⟨P, h1, h2, of_decide_eq_true h3, fun p a b => ?_⟩
  have := of_decide_eq_false (h4 p a b)
  omega
theorem spec_l0 {cw cd : Int} {P : Nat} (hP : P ≤ 200) (h0 : 0 < (good cw cd P (F P)).length) (hq : ∀ p : Nat, 1 ≤ p → p < P → (good cw cd p (F p)).length = 0) : ∀ (d p : Nat), 1 ≤ p → p + d = P → Ev (fun k => spec_LeastPlank.l0 k p cw cd) ((P : Int), true)
  | 0, p, h1, hd => by
    obtain rfl : p = P := by omega
    have hc := count cw cd (pl := (p : Int)) 0 (by omega) (by omega)
    refine ev_step (g' := fun k => (spec_cnCount.f k cw cd p 0).bind fun bt => if bt.1 > 0 then some ((p : Int), true) else spec_LeastPlank.l0 k (wrap64 ((p : Int) + 1)) cw cd) (fun k => rfl) (Ev.bind hc ?_)
    show Ev (fun k => if (((good cw cd p (F p)).length : Nat) : Int) > 0 then some ((p : Int), true) else spec_LeastPlank.l0 k (wrap64 ((p : Int) + 1)) cw cd) _
    rw [show (fun k => if (((good cw cd p (F p)).length : Nat) : Int) > 0 then some ((p : Int), true) else spec_LeastPlank.l0 k (wrap64 ((p : Int) + 1)) cw cd) = fun _ => some ((p : Int), true) from funext fun k => if_pos (by omega)]
    exact Ev.now _
  | d + 1, p, h1, hd => by
    have hc := count cw cd (pl := (p : Int)) 0 (by omega) (by omega)
    have hz := hq p h1 (by omega)
    have hi := spec_l0 hP h0 hq d (p + 1) (by omega) (by omega)
    refine ev_step (g' := fun k => (spec_cnCount.f k cw cd p 0).bind fun bt => if bt.1 > 0 then some ((p : Int), true) else spec_LeastPlank.l0 k (wrap64 ((p : Int) + 1)) cw cd) (fun k => rfl) (Ev.bind hc ?_)
    show Ev (fun k => if (((good cw cd p (F p)).length : Nat) : Int) > 0 then some ((p : Int), true) else spec_LeastPlank.l0 k (wrap64 ((p : Int) + 1)) cw cd) _
    rw [show (fun k => if (((good cw cd p (F p)).length : Nat) : Int) > 0 then some ((p : Int), true) else spec_LeastPlank.l0 k (wrap64 ((p : Int) + 1)) cw cd) = fun k => spec_LeastPlank.l0 k ((p + 1 : Nat) : Int) cw cd from funext fun k => by rw [if_neg (by omega), w_id (by omega) (by omega)]; rfl]
    exact hi
theorem spec_yes {cw cd : Int} (h : (1 ≤ cw ∧ cw ≤ 100) ∧ 1 ≤ cd ∧ cd ≤ 100) {P : Nat} (hP1 : 1 ≤ P) (hP : P ≤ 200) (h0 : 0 < (good cw cd P (F P)).length) (hq : ∀ p : Nat, 1 ≤ p → p < P → (good cw cd p (F p)).length = 0) : ∃ k, spec_LeastPlank.f k cw cd = some ((P : Int), true) := by
  obtain ⟨k, hk⟩ := (spec_l0 hP h0 hq (P - 1) 1 (by omega) (by omega)).rounds
  refine ⟨k, ?_⟩
  unfold spec_LeastPlank.f
  rw [good_eq, decide_eq_true h, Option.bind_some, if_pos rfl]
  exact hk
theorem spec_no {cw cd : Int} (h : ¬ ((1 ≤ cw ∧ cw ≤ 100) ∧ 1 ≤ cd ∧ cd ≤ 100)) : spec_LeastPlank.f 0 cw cd = some (0, false) := by
  unfold spec_LeastPlank.f
  rw [good_eq, decide_eq_false h, Option.bind_some, if_neg (by simp)]
end Go.Proofs.Ytnnedicoapdkkaa.FcLeastPlank
