/- laws.FnExactBackOrder answers true for all arguments; nothing that lay before is turned. No condition. -/
import Derived.Test.YtbfgiccfbaobnaaFcBackOrder
import Derived.Test.YtbfgiccfbaobnaaLwBackOrder
namespace Go.Proofs.Ytbfgiccfbaobnaa.LwBackOrder
set_option linter.unusedVariables false
set_option linter.unusedSimpArgs false
open Go.RowKit Go.Proofs.YtbfgiccfbaobnaaW.PrintWords Go.Proofs.YtbfgiccfbaobnaaW.PrintLast Go.Proofs.YtbfgiccfbaobnaaW.PrintMore PFnExactBackOrder FcBackOrder
theorem back_l0 (l : List Int) (hl : l.length ≤ 1048576) (hv : ∀ x ∈ l, 1 ≤ x ∧ x ≤ l.length) (d : Nat) : ∀ i out, i + d = l.length → out.length = l.length → ∀ k, d < k → ∃ r, spec_BackOrder.l0 k out l (l.length : Int) (i : Int) = some (r, true) ∧ r.length = l.length := by
  induction d with
  | zero =>
    intro i out hi ho k hk
    obtain ⟨k, rfl⟩ : ∃ m, k = m + 1 := ⟨k - 1, by omega⟩
    refine ⟨out, ?_, ho⟩
    simp only [spec_BackOrder.l0]
    rw [if_neg (by omega)]
  | succ d ih =>
    intro i out hi ho k hk
    obtain ⟨k, rfl⟩ : ∃ m, k = m + 1 := ⟨k - 1, by omega⟩
    have hx : 1 ≤ rd l (i : Int) ∧ rd l (i : Int) ≤ l.length := hv _ (by
      unfold rd
      rw [List.getD_eq_getElem?_getD, show ((i : Int)).toNat = i by omega, List.getElem?_eq_getElem (by omega)]
      exact List.getElem_mem _)
    have hw : wrap64 (rd l (i : Int) - 1) = rd l (i : Int) - 1 := by unfold wrap64; omega
    obtain ⟨r, hr, hlen⟩ := ih (i + 1) (out.set (rd l (i : Int) - 1).toNat (wrap64 ((i : Int) + 1))) (by omega) (by rw [List.length_set]; exact ho) k (by omega)
    refine ⟨r, ?_, hlen⟩
    simp only [spec_BackOrder.l0]
    rw [hw, if_pos (by omega), if_pos (by omega), if_pos (by omega), if_pos (by omega), if_pos (by omega), w_up (i := i) (by omega)]
    rw [w_up (i := i) (by omega)] at hr
    exact hr
theorem spec_some (l : List Int) (hl : l.length ≤ 1048576) (k : Nat) (hk : 2 * l.length + 3 < k) : ∃ r b, spec_BackOrder.f k l = some (r, b) ∧ r.length ≤ l.length := by
  unfold spec_BackOrder.f
  rw [good_eq l hl k hk, Option.bind_some]
  cases ho : Ord.ord l with
  | false => exact ⟨[], false, by rw [if_neg (by decide)], by simp⟩
  | true =>
    obtain ⟨r, hr, hlen⟩ := back_l0 l hl (Ord.ord_iff l |>.mp ho).2.2.1 l.length 0 (List.replicate ((l.length : Int)).toNat 0) (by omega) (by simp) k (by omega)
    exact ⟨r, true, by rw [if_pos rfl, if_pos (by omega), if_pos (by omega)]; exact hr, by omega⟩
set_option maxHeartbeats 1000000 in
theorem whole (A0 : Option Addr) (len0 cap0 : Nat) (zs0 : List Int) (w : World) (h0 : ((A0 = none ∧ len0 = 0 ∧ cap0 = 0 ∧ zs0 = []) ∨ ∃ x, A0 = some x ∧ len0 ≤ cap0 ∧ cap0 ≤ maxLen ∧ zs0.length = cap0 ∧ (∀ i, i < zs0.length → w.cell? (x.add i) = some (.int .i64 (zs0.getD i 0))) ∧ ∀ n ∈ zs0, (Lit.int .i64 n).wf = true)) :
    Calls Try.prog 4 #[.slice A0 len0 cap0] w fun e w' => e = .returned (.bool true) ∧ Below w.heap.size w w' := by
  obtain ⟨l, rfl, hr0, hm0, hwf0, hc0⟩ := ReadsInt.ofRowC h0
  have hC0 : Kd.C (Kd.int .i64) w A0 l.length l := Kd.C_of_reads (d := (0 : Int)) (h1 := fun _ => rfl) hr0
  have hy0 : l.length ≤ 9223372036854775807 := by unfold maxLen at hm0; omega
  clear h0 hr0
  by_cases hl0 : l.length ≤ 1048576
  · obtain ⟨r, b, hS, hrl⟩ := spec_some l hl0 (2 * l.length + 8) (by omega)
    exact law (2 * l.length + 8) A0 cap0 l r b _ _ w hC0 hc0 hl0 (toInt_eq l (by omega) _ (by omega)) (eq_self l (by omega) _ (by omega)) _ _ (mark_ok l (by omega) _ (by omega)) (by omega) (eq_self r (by omega) _ (by omega)) (mark_ok r (by omega) _ (by omega)) (held_ok r.length (by omega) _ (by omega)) (by omega) (good_eq l hl0 _ (by omega)) hS
  · clear hC0 hwf0
    go_enter Try.func4, Try.ntmps4
    go_wp2_with fail
    go_ret
    exact ⟨rfl, Below.refl _ _⟩
end Go.Proofs.Ytbfgiccfbaobnaa.LwBackOrder
