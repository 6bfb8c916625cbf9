/- impl.BackOrder at this program answers as the reference's printed function, told of an order; a new slice, nothing that lay before is turned. Condition: the slice is no longer than 2^20. -/
import Derived.Test.YtbfgiccfbaobnaaIsOrd
import Derived.Test.YtbfgiccfbaobnaaPFnExactBackOrderx2
namespace Go.Proofs.Ytbfgiccfbaobnaa.WkBackOrder
set_option linter.unusedVariables false
set_option linter.unusedSimpArgs false
open Go.RowKit Go.Proofs.YtbfgiccfbaobnaaW.PrintWords Go.Proofs.YtbfgiccfbaobnaaW.PrintLast Go.Proofs.YtbfgiccfbaobnaaW.PrintMore PFnExactBackOrder

theorem ite_some {α : Type} {c : Prop} [Decidable c] {x : Option α} {r : α} (h : (if c then x else none) = some r) : c ∧ x = some r := by
  by_cases hc : c
  · rw [if_pos hc] at h; exact ⟨hc, h⟩
  · rw [if_neg hc] at h; cases h

set_option maxHeartbeats 4000000 in
set_option maxRecDepth 100000 in
theorem impl (k : Nat) (A : Option Addr) (c : Nat) (l : List Int) (r : List Int) (b : Bool) (w : World) (hr : Kd.C (Kd.int .i64) w A l.length l) (hc : l.length ≤ c) (hl : l.length ≤ 1048576)
    (hg : spec_ptGood.f k l = some (Ord.ord l)) (h : spec_BackOrder.f k l = some (r, b)) :
    Calls Try.prog 16 #[.slice A l.length c] w fun e w' => ∃ v, e = .returned (.tuple #[v, .bool b]) ∧ Kd.R (Kd.int .i64) 3 w' w.heap.size (fun _ => True) v r ∧ Below w.heap.size w w' := by
  have cI := Seq.isOrder A c l w hr hl
  unfold spec_BackOrder.f at h
  rw [hg, Option.bind_some] at h
  have HR := Aside0.mk hr
  clear hr hg
  cases ho : Ord.ord l with
  | false =>
    rw [ho] at h cI
    rw [if_neg (by decide)] at h
    simp only [Option.some.injEq, Prod.mk.injEq] at h
    obtain ⟨rfl, rfl⟩ := h
    clear ho
    go_enter Try.func16, Try.ntmps16
    go_wp2_with (go_at_call 13; refine cI.mono ?_; clear cI; rintro e w1 ⟨rfl, hb⟩; have HB := Aside0.mk hb; clear hb)
    go_ret2
    exact ⟨_, rfl, Kd.R_nil _ _ _ _ _, HB.out⟩
  | true =>
    rw [ho] at h cI
    rw [if_pos rfl, if_pos (by omega), if_pos (by omega)] at h
    have H := Aside0.mk h
    have h1 : 1 ≤ l.length := (Ord.ord_iff l |>.mp ho).1
    clear ho h
    have hl2 : (0 : Int) ≤ (l.length : Int) := by omega
    go_enter Try.func16, Try.ntmps16
    go_wp2_with (first
      | (go_at_call 13; refine cI.mono ?_; clear cI; rintro e w1 ⟨rfl, hb⟩; have HB := Aside0.mk hb; clear hb)
      | ((with_reducible refine gate_dst (N := 12) rfl ?_); refine Kd.R_make (Kd.int .i64) _ 3 rfl (N := 12) rfl 22 _ _ rfl (l.length : Int) rfl rfl Try.underlying22 (.int .i64 0) 8 info3 rfl (by decide) (by omega) 0 (ok := fun _ => True) (okp := fun _ => True) rfl (fun _ hk => hk) trivial (by omega) (by omega) (Below.refl _ _) (Nat.le_refl _) ?_; intro v2 w2 h2 b2 _ _; have R2 := Aside0.mk (Kd.R_lower h2 HB.out.size); have B2 := Aside0.mk (HB.out.trans (b2.mono HB.out.size)); clear h2 b2 HB))
    have hlen : (List.replicate ((l.length : Int)).toNat (0 : Int)).length = l.length := by simp
    obtain ⟨g, cap, rfl, gb, _, _⟩ := Kd.R_form R2.out (by omega)
    rw [hlen] at R2 ⊢
    have GB := Aside0.mk gb
    clear gb hlen
    go_loopg [15] k (fun kq v15 w' => ∃ (out : List Int) (i : Int), v15 = .int .i64 i ∧ Aside0 (spec_BackOrder.l0 kq out l (l.length : Int) i = some (r, b)) ∧ Aside0 (kq ≤ k) ∧ Aside0 (Kd.R (Kd.int .i64) 3 w' w.heap.size (fun _ => True) (.slice (some ⟨g, 0, none⟩) l.length cap) out) ∧ Aside0 (Below w.heap.size w w'))
    case atStart => exact ⟨_, 0, rfl, H, ⟨Nat.le_refl _⟩, R2, B2⟩
    case round =>
      clear R2 B2 H
      obtain ⟨out, i, rfl, HA, HK, HO, HB⟩ := hrel
      cases gk with
      | zero => exact absurd HA.out (by simp [spec_BackOrder.l0])
      | succ k2 =>
        have H := HA.out
        clear HA
        simp only [spec_BackOrder.l0] at H
        by_cases c1 : i < (l.length : Int)
        · rw [if_pos c1] at H
          obtain ⟨c2, H⟩ := ite_some H
          obtain ⟨_, H⟩ := ite_some H
          obtain ⟨j, hj⟩ : ∃ j, wrap64 (rd l i - 1) = j := ⟨_, rfl⟩
          rw [hj] at H
          have hjw : IntKind.i64.wrap (rd l i - 1) = j := (i64_w _).trans hj
          obtain ⟨c4, H⟩ := ite_some H
          obtain ⟨c5, H⟩ := ite_some H
          rw [show wrap64 (i + 1) = i + 1 by unfold wrap64; omega] at H
          have H' := Aside0.mk H
          clear H
          rw [← (Kd.R_reads' HO.out).1] at c5
          obtain ⟨ad, e1, hx1⟩ := Kd.at_int (Kd.C_below HR.out HB.out) i c2 c1
          subst e1
          obtain ⟨hx2, hf2⟩ := Kd.R_celln 0 HO.out j c4 c5
          have HP := Aside0.mk (Kd.R_putn HO.out j (i + 1))
          have HQ := Aside0.mk (below_set (j := j.toNat) (v := Value.int .i64 (i + 1)) HB.out GB.out)
          go_wp2
          go_roundg k2
          case measure => have := HK.out; omega
          case rel => exact ⟨_, i + 1, rfl, H', ⟨by have := HK.out; omega⟩, HP, HQ⟩
        · rw [if_neg c1] at H
          simp only [Option.some.injEq, Prod.mk.injEq] at H
          obtain ⟨rfl, rfl⟩ := H
          go_wp2
          go_ret2
          exact ⟨_, rfl, HO.out, HB.out⟩
end Go.Proofs.Ytbfgiccfbaobnaa.WkBackOrder
