/- What the reference's BestSpot answers, in plain Lean, out of the printed functions. No condition beyond those in the theorems. -/
import Derived.Test.YtnnedicoapdkkaaSp
import Derived.Test.YtnnedicoapdkkaaBest
namespace Go.Proofs.Ytnnedicoapdkkaa.FcBestSpot
set_option linter.unusedVariables false
set_option linter.unusedSimpArgs false
open Go.RowKit Go.Proofs.YtnnedicoapdkkaaW.PrintWords Go.Proofs.YtnnedicoapdkkaaW.PrintLast Go.Proofs.YtnnedicoapdkkaaW.PrintMore Clo Spots Best PFnExactBestSpot
open Sp (w_id ev_step ev_end cols rows F cols_len past test_eq F_two sq_le)
open PFnExactBestSpot in
theorem f_l1 {pl a : Int} (hp0 : 1 ≤ pl) (hp : pl ≤ 200) (ha0 : 1 ≤ a) (ha : a ≤ 200) (r : List (List Int)) : ∀ (m : Nat) (b : Int) (acc : List (List Int)), 1 ≤ b → b + m = pl + 2 → acc.length + m ≤ 100000 →
    Ev (fun k => impl_firsts.l0 k pl (acc ++ cols pl a m b) (a + 1)) r → Ev (fun k => impl_firsts.l1 k pl acc a b) r
  | 0, b, acc, hb, hm, hl, h => by
    have ht := test_eq (pl := pl) (a := a) (b := b) (by omega) hp (by omega) ha (by omega) (by omega)
    refine ev_step (fun k => ?_) h
    simp only [impl_firsts.l1, cols, List.append_nil]
    rw [ht.1, ht.2, if_neg (past (by omega) (by omega) (by omega)), w_id (by omega) (by omega)]
  | m + 1, b, acc, hb, hm, hl, h => by
    have ht := test_eq (pl := pl) (a := a) (b := b) (by omega) hp (by omega) ha (by omega) (by omega)
    by_cases hc : a * a + b * b ≤ pl * pl
    · refine ev_step (g' := fun k => impl_firsts.l1 k pl (acc ++ [[a, b]]) a (b + 1)) (fun k => ?_) (f_l1 hp0 hp ha0 ha r m (b + 1) (acc ++ [[a, b]]) (by omega) (by omega) (by simp; omega) ?_)
      · simp only [impl_firsts.l1]
        rw [ht.1, ht.2, if_pos hc, if_pos (by omega), w_id (x := b + 1) (by omega) (by omega)]
      · rw [cols, if_pos hc] at h
        simpa using h
    · rw [cols, if_neg hc, List.append_nil] at h
      refine ev_step (fun k => ?_) h
      simp only [impl_firsts.l1]
      rw [ht.1, ht.2, if_neg hc, w_id (by omega) (by omega)]
open PFnExactBestSpot in
theorem f_l0 {pl : Int} (hp0 : 1 ≤ pl) (hp : pl ≤ 200) : ∀ (d : Nat) (a : Int) (acc : List (List Int)), 1 ≤ a → a + d = pl → acc.length + (d + 1) * 201 ≤ 100000 →
    Ev (fun k => impl_firsts.l0 k pl acc a) (acc ++ rows pl d a)
  | 0, a, acc, ha, hd, hl => by
    refine ev_end (fun k => ?_)
    simp only [impl_firsts.l0, rows, List.append_nil]
    rw [if_neg (by omega)]
  | d + 1, a, acc, ha, hd, hl => by
    have hcl := cols_len pl a (pl.toNat + 1) 1
    refine ev_step (g' := fun k => impl_firsts.l1 k pl acc a 1) (fun k => ?_) (f_l1 hp0 hp ha (by omega) _ (pl.toNat + 1) 1 acc (by omega) (by omega) (by omega) ?_)
    · simp only [impl_firsts.l0]
      rw [if_pos (by omega)]
    · rw [rows, ← List.append_assoc]
      exact f_l0 hp0 hp d (a + 1) (acc ++ cols pl a (pl.toNat + 1) 1) (by omega) (by omega) (by rw [List.length_append]; omega)
theorem firsts {pl : Int} (hp0 : 1 ≤ pl) (hp : pl ≤ 200) : Ev (fun k => PFnExactBestSpot.impl_firsts.f k pl) (F pl) := by
  have := f_l0 hp0 hp (pl.toNat - 1) 1 [] (by omega) (by omega) (by simp; omega)
  rw [List.nil_append] at this
  exact this

theorem needs_eq (cw cd a b : Int) : spec_cnNeeds.f cw cd a b = some (nd cw cd a b) := rfl
theorem good_eq (cw cd : Int) : spec_cnGood.f cw cd = some (decide ((1 ≤ cw ∧ cw ≤ 100) ∧ 1 ≤ cd ∧ cd ≤ 100)) := by
  unfold spec_cnGood.f spec_l1In.f
  by_cases h1 : 1 ≤ cw <;> by_cases h2 : cw ≤ 100 <;> by_cases h3 : 1 ≤ cd <;> simp [h1, h2, h3]
theorem plank_eq (pl : Int) : spec_cnPlank.f pl = some (decide (1 ≤ pl ∧ pl ≤ 200)) := by
  unfold spec_cnPlank.f spec_l1In.f
  by_cases h1 : 1 ≤ pl <;> simp [h1]
theorem corner_eq (cw cd : Int) : impl_IsCorner.f cw cd = some (decide ((1 ≤ cw ∧ cw ≤ 100) ∧ 1 ≤ cd ∧ cd ≤ 100)) := by
  unfold impl_IsCorner.f impl_isDitch.f impl_within.f
  by_cases h1 : 1 ≤ cw <;> by_cases h2 : cw ≤ 100 <;> by_cases h3 : 1 ≤ cd <;> simp [h1, h2, h3]
theorem within_eq (pl : Int) : impl_within.f pl 2 200 = some (decide (2 ≤ pl ∧ pl ≤ 200)) := by
  unfold impl_within.f
  by_cases h1 : 2 ≤ pl <;> simp [h1]
def trip (cw cd : Int) (x : List Int) : Int × Int × Int := (rd x 0, rd x 1, nd cw cd (rd x 0) (rd x 1))
def stp (cw cd : Int) (s : Int × Int × Int) (x : List Int) : Int × Int × Int := if s.2.2 < 0 then trip cw cd x else if nd cw cd (rd x 0) (rd x 1) < s.2.2 then trip cw cd x else s
theorem stp_a {cw cd : Int} {s : Int × Int × Int} {x : List Int} (h : s.2.2 < 0) : stp cw cd s x = trip cw cd x := if_pos h
theorem stp_b {cw cd : Int} {s : Int × Int × Int} {x : List Int} (h : ¬ s.2.2 < 0) (h2 : nd cw cd (rd x 0) (rd x 1) < s.2.2) : stp cw cd s x = trip cw cd x := (if_neg h).trans (if_pos h2)
theorem stp_c {cw cd : Int} {s : Int × Int × Int} {x : List Int} (h : ¬ s.2.2 < 0) (h2 : ¬ nd cw cd (rd x 0) (rd x 1) < s.2.2) : stp cw cd s x = s := (if_neg h).trans (if_neg h2)
theorem b_l1 {cw cd pl a : Int} (hp0 : 1 ≤ pl) (hp : pl ≤ 200) (ha0 : 1 ≤ a) (ha : a ≤ 200) (r : Int × Int × Int × Bool) : ∀ (m : Nat) (b : Int) (s : Int × Int × Int), 1 ≤ b → b + m = pl + 2 →
    Ev (fun k => spec_BestSpot.l0 k pl ((cols pl a m b).foldl (stp cw cd) s).1 ((cols pl a m b).foldl (stp cw cd) s).2.1 ((cols pl a m b).foldl (stp cw cd) s).2.2 (a + 1) cw cd) r → Ev (fun k => spec_BestSpot.l1 k pl s.1 s.2.1 s.2.2 a b cw cd) r
  | 0, b, s, hb, hm, h => by
    have ht := test_eq (pl := pl) (a := a) (b := b) (by omega) hp (by omega) ha (by omega) (by omega)
    rw [cols, List.foldl_nil] at h
    refine ev_step (fun k => ?_) h
    simp only [spec_BestSpot.l1]
    rw [ht.1, ht.2, if_neg (past (by omega) (by omega) (by omega)), w_id (x := a + 1) (by omega) (by omega)]
  | m + 1, b, s, hb, hm, h => by
    have ht := test_eq (pl := pl) (a := a) (b := b) (by omega) hp (by omega) ha (by omega) (by omega)
    by_cases hc : a * a + b * b ≤ pl * pl
    · rw [cols, if_pos hc, List.foldl_cons] at h
      refine ev_step (fun k => ?_) (b_l1 hp0 hp ha0 ha r m (b + 1) (stp cw cd s [a, b]) (by omega) (by omega) h)
      simp only [spec_BestSpot.l1]
      rw [ht.1, ht.2, if_pos hc, needs_eq, Option.bind_some, w_id (x := b + 1) (by omega) (by omega)]
      by_cases h1 : s.2.2 < 0
      · rw [if_pos h1, stp_a h1]; rfl
      · rw [if_neg h1]
        by_cases h2 : nd cw cd a b < s.2.2
        · rw [if_pos h2, stp_b h1 (x := [a, b]) h2]; rfl
        · rw [if_neg h2, stp_c h1 (x := [a, b]) h2]
    · rw [cols, if_neg hc, List.foldl_nil] at h
      refine ev_step (fun k => ?_) h
      simp only [spec_BestSpot.l1]
      rw [ht.1, ht.2, if_neg hc, w_id (x := a + 1) (by omega) (by omega)]
theorem b_l0 {cw cd pl : Int} (hp0 : 1 ≤ pl) (hp : pl ≤ 200) : ∀ (d : Nat) (a : Int) (s : Int × Int × Int), 1 ≤ a → a + d = pl →
    Ev (fun k => spec_BestSpot.l0 k pl s.1 s.2.1 s.2.2 a cw cd) (((rows pl d a).foldl (stp cw cd) s).1, ((rows pl d a).foldl (stp cw cd) s).2.1, ((rows pl d a).foldl (stp cw cd) s).2.2, true)
  | 0, a, s, ha, hd => by
    rw [rows, List.foldl_nil]
    refine ev_end (fun k => ?_)
    simp only [spec_BestSpot.l0]
    rw [if_neg (by omega)]
  | d + 1, a, s, ha, hd => by
    refine ev_step (g' := fun k => spec_BestSpot.l1 k pl s.1 s.2.1 s.2.2 a 1 cw cd) (fun k => ?_) (b_l1 hp0 hp ha (by omega) _ (pl.toNat + 1) 1 s (by omega) (by omega) ?_)
    · simp only [spec_BestSpot.l0]
      rw [if_pos (by omega)]
    · rw [rows, List.foldl_append]
      exact b_l0 hp0 hp d (a + 1) _ (by omega) (by omega)
theorem nd_nonneg {cw cd a b : Int} (h : (1 ≤ cw ∧ cw ≤ 100) ∧ 1 ≤ cd ∧ cd ≤ 100) (ha : 0 ≤ a ∧ a ≤ 300) (hb : 0 ≤ b ∧ b ≤ 300) : 0 ≤ nd cw cd a b := by
  have sq : ∀ z : Int, -400 ≤ z → z ≤ 400 → 0 ≤ z * z ∧ z * z ≤ 160000 := fun z h0 h1 => by
    by_cases hz : 0 ≤ z
    · exact sq_le hz h1
    · have := sq_le (a := -z) (n := 400) (by omega) (by omega)
      rwa [Int.neg_mul_neg] at this
  have h1 := sq (2 * cw - a) (by omega) (by omega)
  have h2 := sq (2 * cd - b) (by omega) (by omega)
  unfold nd
  rw [w_id (x := 2 * cw) (by omega) (by omega), w_id (x := 2 * cd) (by omega) (by omega), w_id (x := 2 * cw - a) (by omega) (by omega), w_id (x := 2 * cd - b) (by omega) (by omega)]
  generalize (2 * cw - a) * (2 * cw - a) = x at h1 ⊢
  generalize (2 * cd - b) * (2 * cd - b) = y at h2 ⊢
  rw [w_id (x := x) (by omega) (by omega), w_id (x := y) (by omega) (by omega), w_id (x := x + y) (by omega) (by omega)]
  omega
theorem cols_in (pl a : Int) : ∀ m b, ∀ x ∈ cols pl a m b, ∃ b', x = [a, b'] ∧ b ≤ b' ∧ b' < b + m
  | 0, _ => by simp [cols]
  | m + 1, b => by
    intro x hx
    rw [cols] at hx
    split at hx
    · rcases List.mem_cons.1 hx with h | h
      · exact ⟨b, h, by omega, by omega⟩
      · obtain ⟨b', h1, h2, h3⟩ := cols_in pl a m (b + 1) x h
        exact ⟨b', h1, by omega, by omega⟩
    · cases hx
theorem rows_in {pl : Int} : ∀ (d : Nat) (a : Int), ∀ x ∈ rows pl d a, ∃ a' b', x = [a', b'] ∧ a ≤ a' ∧ a' < a + d ∧ 1 ≤ b' ∧ b' < 1 + ((pl.toNat + 1 : Nat) : Int)
  | 0, _ => by simp [rows]
  | d + 1, a => by
    intro x hx
    rw [rows] at hx
    rcases List.mem_append.1 hx with h | h
    · obtain ⟨b', h1, h2, h3⟩ := cols_in _ _ _ _ x h
      exact ⟨a, b', h1, by omega, by omega, h2, h3⟩
    · obtain ⟨a', b', h1, h2, h3, h4⟩ := rows_in d (a + 1) x h
      exact ⟨a', b', h1, by omega, by omega, h4⟩
theorem F_nonneg {cw cd pl : Int} (h : (1 ≤ cw ∧ cw ≤ 100) ∧ 1 ≤ cd ∧ cd ≤ 100) (hp0 : 1 ≤ pl) (hp : pl ≤ 200) : ∀ x ∈ F pl, 0 ≤ nd cw cd (rd x 0) (rd x 1) := by
  intro x hx
  obtain ⟨a', b', rfl, h1, h2, h3, h4⟩ := rows_in _ _ x hx
  exact nd_nonneg h ⟨by show 0 ≤ a'; omega, by show a' ≤ 300; omega⟩ ⟨by show 0 ≤ b'; omega, by show b' ≤ 300; omega⟩
theorem F_cons {pl : Int} (hp0 : 2 ≤ pl) : ∃ x0 r, F pl = x0 :: r := by
  have h1 : pl.toNat - 1 = (pl.toNat - 2) + 1 := by omega
  unfold F
  rw [h1, rows, cols, if_pos (by have := sq_le (a := 2) (n := pl) (by omega) hp0; omega)]
  exact ⟨_, _, rfl⟩
theorem fold_mn {cw cd : Int} : ∀ (t : List (List Int)) (m : List Int), (∀ x ∈ m :: t, 0 ≤ nd cw cd (rd x 0) (rd x 1)) → t.foldl (stp cw cd) (trip cw cd m) = trip cw cd (pick cw cd m t)
  | [], m, _ => rfl
  | x :: t, m, h => by
    have hm := h m (by simp)
    have hx := h x (by simp)
    rw [List.foldl_cons]
    unfold pick
    rw [Best.mn]
    have e : stp cw cd (trip cw cd m) x = trip cw cd (if decide (cfn cw cd x m < 0) = true then x else m) := by
      unfold stp
      rw [if_neg (show ¬ (trip cw cd m).2.2 < 0 from by show ¬ nd cw cd (rd m 0) (rd m 1) < 0; omega)]
      by_cases hc : nd cw cd (rd x 0) (rd x 1) < nd cw cd (rd m 0) (rd m 1)
      · rw [if_pos (show nd cw cd (rd x 0) (rd x 1) < (trip cw cd m).2.2 from hc), if_pos (show decide (cfn cw cd x m < 0) = true from decide_eq_true ((cm_neg _ _).mpr hc))]
      · rw [if_neg (show ¬ nd cw cd (rd x 0) (rd x 1) < (trip cw cd m).2.2 from hc), if_neg (by rw [decide_eq_true_iff]; exact fun q => hc ((cm_neg _ _).mp q))]
    rw [e]
    refine fold_mn t _ (fun y hy => ?_)
    rcases List.mem_cons.1 hy with hy | hy
    · rw [hy]; split
      · exact hx
      · exact hm
    · exact h y (by simp [hy])
theorem spec_yes {cw cd pl : Int} (h : (1 ≤ cw ∧ cw ≤ 100) ∧ 1 ≤ cd ∧ cd ≤ 100) (hp0 : 2 ≤ pl) (hp : pl ≤ 200) {x0 : List Int} {r : List (List Int)} (hF : F pl = x0 :: r) :
    ∃ k, spec_BestSpot.f k cw cd pl = some (rd (pick cw cd x0 r) 0, rd (pick cw cd x0 r) 1, nd cw cd (rd (pick cw cd x0 r) 0) (rd (pick cw cd x0 r) 1), true) := by
  have hb := b_l0 (cw := cw) (cd := cd) (pl := pl) (by omega) hp (pl.toNat - 1) 1 (0, 0, -1) (by omega) (by omega)
  have hn := F_nonneg (pl := pl) h (by omega) hp
  have hf : (rows pl (pl.toNat - 1) 1).foldl (stp cw cd) (0, 0, -1) = trip cw cd (pick cw cd x0 r) := by
    show (F pl).foldl (stp cw cd) (0, 0, -1) = _
    rw [hF] at hn ⊢
    rw [List.foldl_cons]
    exact fold_mn r x0 hn
  rw [hf] at hb
  obtain ⟨k, hk⟩ := hb.rounds
  refine ⟨k + 1, ?_⟩
  unfold spec_BestSpot.f
  rw [good_eq, decide_eq_true h, Option.bind_some, if_pos rfl, plank_eq, decide_eq_true (show 1 ≤ pl ∧ pl ≤ 200 from ⟨by omega, hp⟩), Option.bind_some, if_pos rfl]
  simp only [spec_BestSpot.j0]
  rw [if_neg (by simp; omega)]
  exact hk
theorem spec_no {cw cd pl : Int} (h : ¬ (((1 ≤ cw ∧ cw ≤ 100) ∧ 1 ≤ cd ∧ cd ≤ 100) ∧ 2 ≤ pl ∧ pl ≤ 200)) : spec_BestSpot.f 1 cw cd pl = some (0, 0, 0, false) := by
  unfold spec_BestSpot.f
  rw [good_eq]
  by_cases h1 : (1 ≤ cw ∧ cw ≤ 100) ∧ 1 ≤ cd ∧ cd ≤ 100
  · rw [decide_eq_true h1, Option.bind_some, if_pos rfl, plank_eq]
    by_cases h2 : 1 ≤ pl ∧ pl ≤ 200
    · rw [decide_eq_true h2, Option.bind_some, if_pos rfl]
      have h3 : pl = 1 := by
        by_cases h4 : 2 ≤ pl
        · exact absurd ⟨h1, h4, h2.2⟩ h
        · omega
      subst h3
      rfl
    · rw [decide_eq_false h2, Option.bind_some, if_neg (by simp)]
      rfl
  · rw [decide_eq_false h1, Option.bind_some, if_neg (by simp)]
    rfl
end Go.Proofs.Ytnnedicoapdkkaa.FcBestSpot
