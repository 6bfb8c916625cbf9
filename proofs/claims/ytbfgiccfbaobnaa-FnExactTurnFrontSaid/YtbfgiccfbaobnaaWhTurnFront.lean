/- laws.FnExactTurnFront answers true for all arguments; nothing that lay before is turned. No condition. -/
import Derived.Test.YtbfgiccfbaobnaaFcTurnFront
import Derived.Test.YtbfgiccfbaobnaaLwTurnFront
namespace Go.Proofs.Ytbfgiccfbaobnaa.LwTurnFront
set_option linter.unusedVariables false
set_option linter.unusedSimpArgs false
open Go.RowKit Go.Proofs.YtbfgiccfbaobnaaW.PrintWords Go.Proofs.YtbfgiccfbaobnaaW.PrintLast Go.Proofs.YtbfgiccfbaobnaaW.PrintMore PFnExactTurnFront FcTurnFront
theorem turn_l0 (l : List Int) (hl : l.length ≤ 1048576) (a : Nat) (ha : a ≤ l.length) : ∀ (i k : Nat) (out : List Int), i ≤ l.length → i < k → out.length + i ≤ l.length → ∃ s, spec_ptTurn.l0 k l (a : Int) out ((i : Int) - 1) = some s ∧ s.length ≤ out.length + i + l.length
  | 0, k, out, hi, hk, ho => by
    obtain ⟨k, rfl⟩ : ∃ m, k = m + 1 := ⟨k - 1, by omega⟩
    refine ⟨out ++ l.drop a, ?_, by simp⟩
    simp only [spec_ptTurn.l0]
    rw [if_neg (by omega), if_pos (by omega), if_pos (by omega), show ((a : Int)).toNat = a by omega, if_pos (by rw [List.length_drop]; omega)]
  | i + 1, k, out, hi, hk, ho => by
    obtain ⟨k, rfl⟩ : ∃ m, k = m + 1 := ⟨k - 1, by omega⟩
    obtain ⟨s, hs, hlen⟩ := turn_l0 l hl a ha i k (out ++ [rd l (i : Int)]) (by omega) (by omega) (by simp; omega)
    refine ⟨s, ?_, by simp at hlen; omega⟩
    simp only [spec_ptTurn.l0]
    rw [show (((i + 1 : Nat) : Int) - 1) = (i : Int) by omega, if_pos (by omega), if_pos (by omega), if_pos (by omega), if_pos (by omega), show wrap64 ((i : Int) - 1) = (i : Int) - 1 by unfold wrap64; omega]
    exact hs
theorem spec_some (l : List Int) (a : Int) (hl : l.length ≤ 1048576) (k : Nat) (hk : 2 * l.length + 3 < k) : ∃ r b, spec_TurnFront.f k l a = some (r, b) ∧ r.length ≤ 2 * l.length := by
  unfold spec_TurnFront.f
  rw [good_eq l hl k (by omega), Option.bind_some]
  cases ho : Ord.ord l with
  | false => exact ⟨[], false, by rw [if_neg (by decide)], by simp⟩
  | true =>
    rw [if_pos rfl, in_eq, Option.bind_some]
    by_cases h : 1 ≤ a ∧ a ≤ (l.length : Int)
    · obtain ⟨q, rfl⟩ : ∃ q : Nat, a = (q : Int) := ⟨a.toNat, by omega⟩
      obtain ⟨s, hs, hlen⟩ := turn_l0 l hl q (by omega) q k [] (by omega) (by omega) (by simp; omega)
      refine ⟨s, true, ?_, by simp at hlen; omega⟩
      rw [decide_eq_true h, if_pos rfl]
      unfold spec_ptTurn.f
      rw [show wrap64 ((q : Int) - 1) = (q : Int) - 1 by unfold wrap64; omega, hs]
      rfl
    · exact ⟨[], false, by rw [decide_eq_false h, if_neg (by decide)], by simp⟩
set_option maxHeartbeats 1000000 in
theorem whole (A0 : Option Addr) (len0 cap0 : Nat) (zs0 : List Int) (a : Int) (w : World) (h0 : ((A0 = none ∧ len0 = 0 ∧ cap0 = 0 ∧ zs0 = []) ∨ ∃ x, A0 = some x ∧ len0 ≤ cap0 ∧ cap0 ≤ maxLen ∧ zs0.length = cap0 ∧ (∀ i, i < zs0.length → w.cell? (x.add i) = some (.int .i64 (zs0.getD i 0))) ∧ ∀ n ∈ zs0, (Lit.int .i64 n).wf = true)) (wa : (Lit.int .i64 a).wf = true) :
    Calls Try.prog 9 #[.slice A0 len0 cap0, .int .i64 a] w fun e w' => e = .returned (.bool true) ∧ Below w.heap.size w w' := by
  obtain ⟨l, rfl, hr0, hm0, hwf0, hc0⟩ := ReadsInt.ofRowC h0
  have hC0 : Kd.C (Kd.int .i64) w A0 l.length l := Kd.C_of_reads (d := (0 : Int)) (h1 := fun _ => rfl) hr0
  have hy0 : l.length ≤ 9223372036854775807 := by unfold maxLen at hm0; omega
  clear h0 hr0
  by_cases hl0 : l.length ≤ 1048576
  · obtain ⟨r, b, hS, hrl⟩ := spec_some l a hl0 (2 * l.length + 8) (by omega)
    exact law (2 * l.length + 8) A0 cap0 l a r b _ _ w hC0 hc0 hl0 (toInt_eq l (by omega) _ (by omega)) (eq_self l (by omega) _ (by omega)) _ _ (mark_ok l (by omega) _ (by omega)) (by omega) (eq_self r (by omega) _ (by omega)) (mark_ok r (by omega) _ (by omega)) (held_ok r.length (by omega) _ (by omega)) (by omega) (good_eq l hl0 _ (by omega)) hS
  · clear hC0 hwf0
    go_enter Try.func9, Try.ntmps9
    go_wp2_with fail
    go_ret
    exact ⟨rfl, Below.refl _ _⟩
end Go.Proofs.Ytbfgiccfbaobnaa.LwTurnFront
