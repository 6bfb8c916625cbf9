/- laws.FnExactFollowOrder answers true for all arguments; nothing that lay before is turned. No condition. -/
import Derived.Test.YtbfgiccfbaobnaaFcFollowOrder
import Derived.Test.YtbfgiccfbaobnaaLwFollowOrder
namespace Go.Proofs.Ytbfgiccfbaobnaa.LwFollowOrder
set_option linter.unusedVariables false
set_option linter.unusedSimpArgs false
open Go.RowKit Go.Proofs.YtbfgiccfbaobnaaW.PrintWords Go.Proofs.YtbfgiccfbaobnaaW.PrintLast Go.Proofs.YtbfgiccfbaobnaaW.PrintMore PFnExactFollowOrder FcFollowOrder
theorem rd_mem {l : List Int} {i : Nat} (h : i < l.length) : rd l (i : Int) ∈ l := by
  unfold rd
  rw [List.getD_eq_getElem?_getD, show ((i : Int)).toNat = i by omega, List.getElem?_eq_getElem h]
  exact List.getElem_mem _
theorem follow_l0 (l m : List Int) (hl : l.length ≤ 1048576) (hlm : l.length = m.length) (hv : ∀ x ∈ l, 1 ≤ x ∧ x ≤ l.length) (d : Nat) : ∀ i out, i + d = l.length → out.length = i → ∀ k, d < k → ∃ r, spec_ptFollow.l0 k m out l (l.length : Int) (i : Int) = some r ∧ r.length = l.length := by
  induction d with
  | zero =>
    intro i out hi ho k hk
    obtain ⟨k, rfl⟩ : ∃ m, k = m + 1 := ⟨k - 1, by omega⟩
    refine ⟨out, ?_, by omega⟩
    simp only [spec_ptFollow.l0]
    rw [if_neg (by omega)]
  | succ d ih =>
    intro i out hi ho k hk
    obtain ⟨k, rfl⟩ : ∃ m, k = m + 1 := ⟨k - 1, by omega⟩
    have hx := hv _ (rd_mem (l := l) (i := i) (by omega))
    have hw : wrap64 (rd l (i : Int) - 1) = rd l (i : Int) - 1 := by unfold wrap64; omega
    obtain ⟨r, hr, hlen⟩ := ih (i + 1) (out ++ [rd m (rd l (i : Int) - 1)]) (by omega) (by simp; omega) k (by omega)
    refine ⟨r, ?_, hlen⟩
    simp only [spec_ptFollow.l0]
    rw [hw, if_pos (by omega), if_pos (by omega), if_pos (by omega), if_pos (by omega), if_pos (by omega), if_pos (by omega), w_up (i := i) (by omega)]
    exact hr
theorem spec_some (l m : List Int) (hl : l.length ≤ 1048576) (hm : m.length ≤ 1048576) (k : Nat) (hk : 2 * l.length + 2 * m.length + 3 < k) : ∃ r b, spec_FollowOrder.f k l m = some (r, b) ∧ r.length ≤ l.length := by
  unfold spec_FollowOrder.f
  rw [good_eq l hl k (by omega), Option.bind_some]
  cases ho : Ord.ord l with
  | false => exact ⟨[], false, by rw [if_neg (by decide)], by simp⟩
  | true =>
    rw [if_pos rfl, good_eq m hm k (by omega), Option.bind_some]
    cases hp : Ord.ord m with
    | false => exact ⟨[], false, by rw [if_neg (by decide)], by simp⟩
    | true =>
      rw [if_pos rfl]
      by_cases h : (l.length : Int) = (m.length : Int)
      · obtain ⟨r, hr, hlen⟩ := follow_l0 l m hl (by omega) (Ord.ord_iff l |>.mp ho).2.2.1 l.length 0 [] (by omega) (by simp) k (by omega)
        refine ⟨r, true, ?_, by omega⟩
        rw [if_pos h]
        unfold spec_ptFollow.f
        rw [show (0 : Int) = ((0 : Nat) : Int) from rfl, hr]
        rfl
      · exact ⟨[], false, by rw [if_neg h], by simp⟩
theorem mark_at_l0 (s : Nat) (hs : s ≤ 1048576) : ∀ (y p : List Int) (i k : Nat), p.length = i → y.length < k → i + y.length ≤ 1048576 → ∃ rm, laws_markIntS.l0 k (p ++ y) ((s + i + 1 : Nat) : Int) (i : Int) = some (((s + i + y.length + 1 : Nat) : Int), rm)
  | [], p, i, k, hp, hk, hl => by
    obtain ⟨k, rfl⟩ : ∃ m, k = m + 1 := ⟨k - 1, by simp at hk; omega⟩
    refine ⟨p, ?_⟩
    simp only [laws_markIntS.l0]
    rw [if_neg (by simp; omega)]; simp
  | a :: y, p, i, k, hp, hk, hl => by
    simp only [List.length_cons] at hk hl
    obtain ⟨k, rfl⟩ : ∃ m, k = m + 1 := ⟨k - 1, by omega⟩
    obtain ⟨rm, h⟩ := mark_at_l0 s hs y (p ++ [((s + i + 1 : Nat) : Int)]) (i + 1) k (by simp; omega) (by omega) (by omega)
    refine ⟨rm, ?_⟩
    simp only [laws_markIntS.l0]
    rw [if_pos (by simp; omega), if_pos (by omega), show wrap64 (((s + i + 1 : Nat) : Int) + 1) = ((s + (i + 1) + 1 : Nat) : Int) by unfold wrap64; omega, show wrap64 ((i : Int) + 1) = ((i + 1 : Nat) : Int) by unfold wrap64; omega]
    have e : (p ++ a :: y).set ((i : Int)).toNat ((s + i + 1 : Nat) : Int) = (p ++ [((s + i + 1 : Nat) : Int)]) ++ y := by
      rw [show ((i : Int)).toNat = i by omega, List.set_append_right _ _ (by omega), hp]; simp
    rw [e, h]
    simp only [List.length_cons]
    rw [show s + (i + 1) + y.length = s + i + (y.length + 1) by omega]
theorem mark_at (m : List Int) (hm : m.length ≤ 1048576) (s : Nat) (hs : s ≤ 1048576) (k : Nat) (hk : m.length < k) : ∃ rm, laws_markIntS.f k m ((s + 1 : Nat) : Int) = some (((s + m.length + 1 : Nat) : Int), rm) := by
  unfold laws_markIntS.f
  have := mark_at_l0 s hs m [] 0 k rfl hk (by omega)
  simpa using this
set_option maxHeartbeats 1000000 in
theorem whole (A0 : Option Addr) (len0 cap0 : Nat) (zs0 : List Int) (A1 : Option Addr) (len1 cap1 : Nat) (zs1 : List Int) (w : World) (h0 : ((A0 = none ∧ len0 = 0 ∧ cap0 = 0 ∧ zs0 = []) ∨ ∃ x, A0 = some x ∧ len0 ≤ cap0 ∧ cap0 ≤ maxLen ∧ zs0.length = cap0 ∧ (∀ i, i < zs0.length → w.cell? (x.add i) = some (.int .i64 (zs0.getD i 0))) ∧ ∀ n ∈ zs0, (Lit.int .i64 n).wf = true)) (h1 : ((A1 = none ∧ len1 = 0 ∧ cap1 = 0 ∧ zs1 = []) ∨ ∃ x, A1 = some x ∧ len1 ≤ cap1 ∧ cap1 ≤ maxLen ∧ zs1.length = cap1 ∧ (∀ i, i < zs1.length → w.cell? (x.add i) = some (.int .i64 (zs1.getD i 0))) ∧ ∀ n ∈ zs1, (Lit.int .i64 n).wf = true)) :
    Calls Try.prog 6 #[.slice A0 len0 cap0, .slice A1 len1 cap1] w fun e w' => e = .returned (.bool true) ∧ Below w.heap.size w w' := by
  obtain ⟨l, rfl, hr0, hm0, hwf0, hc0⟩ := ReadsInt.ofRowC h0
  have hC0 : Kd.C (Kd.int .i64) w A0 l.length l := Kd.C_of_reads (d := (0 : Int)) (h1 := fun _ => rfl) hr0
  have hy0 : l.length ≤ 9223372036854775807 := by unfold maxLen at hm0; omega
  clear h0 hr0
  obtain ⟨m, rfl, hr1, hm1, hwf1, hc1⟩ := ReadsInt.ofRowC h1
  have hC1 : Kd.C (Kd.int .i64) w A1 m.length m := Kd.C_of_reads (d := (0 : Int)) (h1 := fun _ => rfl) hr1
  have hy1 : m.length ≤ 9223372036854775807 := by unfold maxLen at hm1; omega
  clear h1 hr1
  by_cases hl0 : l.length ≤ 1048576
  · by_cases hl1 : m.length ≤ 1048576
    · obtain ⟨r, b, hS, hrl⟩ := spec_some l m hl0 hl1 (2 * l.length + 2 * m.length + 8) (by omega)
      obtain ⟨rm1, hM1⟩ := mark_at m hl1 l.length hl0 (2 * l.length + 2 * m.length + 8) (by omega)
      exact law (2 * l.length + 2 * m.length + 8) A0 cap0 A1 cap1 l m r b _ _ w hC0 hc0 hl0 hC1 hc1 hl1 (toInt_eq l (by omega) _ (by omega)) (eq_self l (by omega) _ (by omega)) (toInt_eq m (by omega) _ (by omega)) (eq_self m (by omega) _ (by omega)) _ _ (mark_ok l (by omega) _ (by omega)) _ _ hM1 (by omega) (eq_self r (by omega) _ (by omega)) (mark_ok r (by omega) _ (by omega)) (held_ok r.length (by omega) _ (by omega)) (by omega) (good_eq l hl0 _ (by omega)) (good_eq m hl1 _ (by omega)) hS
    · clear hC0 hC1 hwf0 hwf1
      go_enter Try.func6, Try.ntmps6
      go_wp2_with fail
      go_ret
      exact ⟨rfl, Below.refl _ _⟩
  · clear hC0 hwf0 hC1 hwf1
    go_enter Try.func6, Try.ntmps6
    go_wp2_with fail
    go_ret
    exact ⟨rfl, Below.refl _ _⟩
end Go.Proofs.Ytbfgiccfbaobnaa.LwFollowOrder
