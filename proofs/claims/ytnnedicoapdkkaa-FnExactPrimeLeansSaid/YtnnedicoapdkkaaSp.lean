/- The list of first spots, in plain Lean; the program's own printed function gives it. Condition: the plank is 1 to 200 long. -/
import Derived.Test.YtnnedicoapdkkaaSpots
namespace Go.Proofs.Ytnnedicoapdkkaa.Sp
set_option linter.unusedVariables false
set_option linter.unusedSimpArgs false
open Go.RowKit Go.Proofs.YtnnedicoapdkkaaW.PrintWords Go.Proofs.YtnnedicoapdkkaaW.PrintLast Go.Proofs.YtnnedicoapdkkaaW.PrintMore Clo Spots

theorem w_id {x : Int} (h0 : -1000000000 ≤ x) (h1 : x ≤ 1000000000) : wrap64 x = x := by unfold wrap64; omega
theorem ev_step {α : Type} {g g' : Nat → Option α} {r : α} (h : ∀ k, g (k + 1) = g' k) (hg : Ev g' r) : Ev g r := by
  obtain ⟨K, hK⟩ := hg
  refine ⟨K + 1, fun k hk => ?_⟩
  obtain ⟨m, rfl⟩ : ∃ m, k = m + 1 := ⟨k - 1, by omega⟩
  rw [h]; exact hK m (by omega)
theorem ev_end {α : Type} {g : Nat → Option α} {r : α} (h : ∀ k, g (k + 1) = some r) : Ev g r := ev_step (g' := fun _ => some r) h (Ev.now r)
def cols (pl a : Int) : Nat → Int → List (List Int)
  | 0, _ => []
  | m + 1, b => if a * a + b * b ≤ pl * pl then [a, b] :: cols pl a m (b + 1) else []
def rows (pl : Int) : Nat → Int → List (List Int)
  | 0, _ => []
  | d + 1, a => cols pl a (pl.toNat + 1) 1 ++ rows pl d (a + 1)
def F (pl : Int) : List (List Int) := rows pl (pl.toNat - 1) 1
theorem sq_le {a n : Int} (h0 : 0 ≤ a) (h1 : a ≤ n) : 0 ≤ a * a ∧ a * a ≤ n * n := ⟨Int.mul_nonneg h0 h0, Int.mul_le_mul h1 h1 h0 (by omega)⟩
theorem cols_two (pl a : Int) : ∀ m b, ∀ x ∈ cols pl a m b, 2 ≤ x.length
  | 0, _ => by simp [cols]
  | m + 1, b => by
    intro x hx
    rw [cols] at hx
    split at hx
    · rcases List.mem_cons.1 hx with h | h
      · rw [h]; simp
      · exact cols_two pl a m (b + 1) x h
    · cases hx
theorem rows_two (pl : Int) : ∀ d a, ∀ x ∈ rows pl d a, 2 ≤ x.length
  | 0, _ => by simp [rows]
  | d + 1, a => by
    intro x hx
    rw [rows] at hx
    rcases List.mem_append.1 hx with h | h
    · exact cols_two _ _ _ _ x h
    · exact rows_two pl d (a + 1) x h
theorem F_two (pl : Int) : ∀ x ∈ F pl, 2 ≤ x.length := rows_two _ _ _
theorem cols_len (pl a : Int) : ∀ m b, (cols pl a m b).length ≤ m
  | 0, _ => by simp [cols]
  | m + 1, b => by
    rw [cols]
    split
    · have := cols_len pl a m (b + 1); simp; omega
    · simp
theorem past {pl a b : Int} (h0 : 0 ≤ a) (h1 : 0 ≤ pl) (hb : b = pl + 2) : ¬ a * a + b * b ≤ pl * pl := by
  subst hb
  have h2 := Int.mul_nonneg h0 h0
  have h3 : (pl + 2) * (pl + 2) = pl * pl + 4 * pl + 4 := by simp only [Int.add_mul, Int.mul_add]; omega
  rw [h3]; omega
theorem test_eq {pl a b : Int} (hp0 : 0 ≤ pl) (hp : pl ≤ 200) (ha0 : 0 ≤ a) (ha : a ≤ 200) (hb0 : 0 ≤ b) (hb : b ≤ 202) : wrap64 (wrap64 (a * a) + wrap64 (b * b)) = a * a + b * b ∧ wrap64 (pl * pl) = pl * pl := by
  have h1 := sq_le ha0 ha
  have h2 := sq_le hb0 hb
  have h3 := sq_le hp0 hp
  generalize a * a = x at *
  generalize b * b = y at *
  generalize pl * pl = z at *
  rw [w_id (x := x) (by omega) (by omega), w_id (x := y) (by omega) (by omega), w_id (by omega) (by omega), w_id (by omega) (by omega)]
  exact ⟨rfl, rfl⟩
open PFnExactSpotsFor in
theorem f_l1 {pl a : Int} (hp0 : 1 ≤ pl) (hp : pl ≤ 200) (ha0 : 1 ≤ a) (ha : a ≤ 200) (r : List (List Int)) : ∀ (m : Nat) (b : Int) (acc : List (List Int)), 1 ≤ b → b + m = pl + 2 → acc.length + m ≤ 100000 →
    Ev (fun k => impl_firsts.l0 k pl (acc ++ cols pl a m b) (a + 1)) r → Ev (fun k => impl_firsts.l1 k pl acc a b) r
  | 0, b, acc, hb, hm, hl, h => by
    have ht := test_eq (pl := pl) (a := a) (b := b) (by omega) hp (by omega) ha (by omega) (by omega)
    refine ev_step (fun k => ?_) h
    simp only [impl_firsts.l1, cols, List.append_nil]
    rw [ht.1, ht.2, if_neg (past (by omega) (by omega) (by omega)), w_id (by omega) (by omega)]
  | m + 1, b, acc, hb, hm, hl, h => by
    have ht := test_eq (pl := pl) (a := a) (b := b) (by omega) hp (by omega) ha (by omega) (by omega)
    by_cases hc : a * a + b * b ≤ pl * pl
    · refine ev_step (g' := fun k => impl_firsts.l1 k pl (acc ++ [[a, b]]) a (b + 1)) (fun k => ?_) (f_l1 hp0 hp ha0 ha r m (b + 1) (acc ++ [[a, b]]) (by omega) (by omega) (by simp; omega) ?_)
      · simp only [impl_firsts.l1]
        rw [ht.1, ht.2, if_pos hc, if_pos (by omega), w_id (x := b + 1) (by omega) (by omega)]
      · rw [cols, if_pos hc] at h
        simpa using h
    · rw [cols, if_neg hc, List.append_nil] at h
      refine ev_step (fun k => ?_) h
      simp only [impl_firsts.l1]
      rw [ht.1, ht.2, if_neg hc, w_id (by omega) (by omega)]
open PFnExactSpotsFor in
theorem f_l0 {pl : Int} (hp0 : 1 ≤ pl) (hp : pl ≤ 200) : ∀ (d : Nat) (a : Int) (acc : List (List Int)), 1 ≤ a → a + d = pl → acc.length + (d + 1) * 201 ≤ 100000 →
    Ev (fun k => impl_firsts.l0 k pl acc a) (acc ++ rows pl d a)
  | 0, a, acc, ha, hd, hl => by
    refine ev_end (fun k => ?_)
    simp only [impl_firsts.l0, rows, List.append_nil]
    rw [if_neg (by omega)]
  | d + 1, a, acc, ha, hd, hl => by
    have hcl := cols_len pl a (pl.toNat + 1) 1
    refine ev_step (g' := fun k => impl_firsts.l1 k pl acc a 1) (fun k => ?_) (f_l1 hp0 hp ha (by omega) _ (pl.toNat + 1) 1 acc (by omega) (by omega) (by omega) ?_)
    · simp only [impl_firsts.l0]
      rw [if_pos (by omega)]
    · rw [rows, ← List.append_assoc]
      exact f_l0 hp0 hp d (a + 1) (acc ++ cols pl a (pl.toNat + 1) 1) (by omega) (by omega) (by rw [List.length_append]; omega)
theorem firsts {pl : Int} (hp0 : 1 ≤ pl) (hp : pl ≤ 200) : Ev (fun k => PFnExactSpotsFor.impl_firsts.f k pl) (F pl) := by
  have := f_l0 hp0 hp (pl.toNat - 1) 1 [] (by omega) (by omega) (by simp; omega)
  rw [List.nil_append] at this
  exact this
theorem corner_eq (cw cd : Int) : PFnExactSpotsFor.impl_IsCorner.f cw cd = some (decide ((1 ≤ cw ∧ cw ≤ 100) ∧ 1 ≤ cd ∧ cd ≤ 100)) := by
  unfold PFnExactSpotsFor.impl_IsCorner.f PFnExactSpotsFor.impl_isDitch.f PFnExactSpotsFor.impl_within.f
  by_cases h1 : 1 ≤ cw <;> by_cases h2 : cw ≤ 100 <;> by_cases h3 : 1 ≤ cd <;> simp [h1, h2, h3]
theorem plank_eq (pl : Int) : PFnExactSpotsFor.impl_isPlankLong.f pl = some (decide (1 ≤ pl ∧ pl ≤ 200)) := by
  unfold PFnExactSpotsFor.impl_isPlankLong.f PFnExactSpotsFor.impl_within.f
  by_cases h1 : 1 ≤ pl <;> simp [h1]
theorem good_snoc (cw cd pl : Int) (r : List (List Int)) (x : List Int) : good cw cd pl (r ++ [x]) = good cw cd pl r ++ (if far cw cd pl x = true then [] else [x]) := by
  unfold good
  rw [List.filter_append]
  by_cases h : far cw cd pl x = true <;> simp [h]
theorem good_len (cw cd pl : Int) (r : List (List Int)) : (good cw cd pl r).length ≤ r.length := List.length_filter_le _ _
end Go.Proofs.Ytnnedicoapdkkaa.Sp
