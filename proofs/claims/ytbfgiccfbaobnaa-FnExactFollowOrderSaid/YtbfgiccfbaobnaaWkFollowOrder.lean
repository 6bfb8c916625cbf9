/- impl.FollowOrder at this program answers as the reference's printed function, told of orders; a new slice, nothing that lay before is turned. Condition: the slices are no longer than 2^20. -/
import Derived.Test.YtbfgiccfbaobnaaIsOrd
import Derived.Test.YtbfgiccfbaobnaaPFnExactFollowOrderx2
namespace Go.Proofs.Ytbfgiccfbaobnaa.WkFollowOrder
set_option linter.unusedVariables false
set_option linter.unusedSimpArgs false
open Go.RowKit Go.Proofs.YtbfgiccfbaobnaaW.PrintWords Go.Proofs.YtbfgiccfbaobnaaW.PrintLast Go.Proofs.YtbfgiccfbaobnaaW.PrintMore PFnExactFollowOrder

theorem ite_some {α : Type} {c : Prop} [Decidable c] {x : Option α} {r : α} (h : (if c then x else none) = some r) : c ∧ x = some r := by
  by_cases hc : c
  · rw [if_pos hc] at h; exact ⟨hc, h⟩
  · rw [if_neg hc] at h; cases h

set_option maxHeartbeats 4000000 in
set_option maxRecDepth 100000 in
theorem impl (k : Nat) (A : Option Addr) (c : Nat) (l : List Int) (A' : Option Addr) (c' : Nat) (m : List Int) (r : List Int) (b : Bool) (w : World) (hr : Kd.C (Kd.int .i64) w A l.length l) (hc : l.length ≤ c) (hl : l.length ≤ 1048576) (hr' : Kd.C (Kd.int .i64) w A' m.length m) (hc' : m.length ≤ c') (hl' : m.length ≤ 1048576)
    (hg : spec_ptGood.f k l = some (Ord.ord l)) (hg' : spec_ptGood.f k m = some (Ord.ord m)) (h : spec_FollowOrder.f k l m = some (r, b)) :
    Calls Try.prog 22 #[.slice A l.length c, .slice A' m.length c'] w fun e w' => ∃ v, e = .returned (.tuple #[v, .bool b]) ∧ Kd.R (Kd.int .i64) 3 w' w.heap.size (fun _ => True) v r ∧ Below w.heap.size w w' := by
  have cI := Seq.isOrder A c l w hr hl
  have cJ : ∀ W, Below w.heap.size w W → Calls Try.prog 13 #[.slice A' m.length c'] W fun e w' => e = .returned (.bool (Ord.ord m)) ∧ Below W.heap.size W w' := fun W hb => Seq.isOrder A' c' m W (Kd.C_below hr' hb) hl'
  unfold spec_FollowOrder.f at h
  rw [hg, Option.bind_some] at h
  have HR := Aside0.mk hr
  have HR' := Aside0.mk hr'
  clear hr hg hr'
  cases ho : Ord.ord l with
  | false =>
    rw [ho] at h cI
    rw [if_neg (by decide)] at h
    simp only [Option.some.injEq, Prod.mk.injEq] at h
    obtain ⟨rfl, rfl⟩ := h
    clear ho hg' cJ
    go_enter Try.func22, Try.ntmps22
    go_wp2_with fail
    refine cI.mono ?_
    clear cI
    rintro e w1 ⟨rfl, hb⟩
    have HB := Aside0.mk hb
    clear hb
    go_wp2_with fail
    go_ret2
    exact ⟨_, rfl, Kd.R_nil _ _ _ _ _, HB.out⟩
  | true =>
    rw [ho] at h cI
    rw [if_pos rfl, hg', Option.bind_some] at h
    have h1 : 1 ≤ l.length := (Ord.ord_iff l |>.mp ho).1
    have CJ := Aside0.mk cJ
    clear cJ ho hg'
    cases ho : Ord.ord m with
    | false =>
      rw [ho] at h CJ
      rw [if_neg (by decide)] at h
      simp only [Option.some.injEq, Prod.mk.injEq] at h
      obtain ⟨rfl, rfl⟩ := h
      clear ho
      go_enter Try.func22, Try.ntmps22
      go_wp2_with fail
      refine cI.mono ?_
      clear cI
      rintro e w1 ⟨rfl, hb⟩
      have HB := Aside0.mk hb
      clear hb
      go_wp2_with fail
      refine (CJ.out _ HB.out).mono ?_
      rintro e w2 ⟨rfl, hb⟩
      replace HB := Aside0.mk (HB.out.trans (hb.mono HB.out.size))
      clear hb
      go_wp2_with fail
      go_ret2
      exact ⟨_, rfl, Kd.R_nil _ _ _ _ _, HB.out⟩
    | true =>
      rw [ho] at h CJ
      rw [if_pos rfl] at h
      clear ho
      by_cases hlen : (l.length : Int) = (m.length : Int)
      · rw [if_pos hlen] at h
        obtain ⟨s, hs, h⟩ := Option.bind_eq_some_iff.mp h
        simp only [Option.some.injEq, Prod.mk.injEq] at h
        obtain ⟨rfl, rfl⟩ := h
        have hq : (((l.length : Nat) : Int) != ((m.length : Nat) : Int)) = false := by simpa using hlen
        have hq2 : (l.length != m.length) = false := by simp; omega
        unfold spec_ptFollow.f at hs
        have H := Aside0.mk hs
        have HL := Aside0.mk hlen
        clear hs hlen
        go_enter Try.func22, Try.ntmps22
        go_wp2_with fail
        refine cI.mono ?_
        clear cI
        rintro e w1 ⟨rfl, hb⟩
        have HB := Aside0.mk hb
        clear hb
        go_wp2_with fail
        refine (CJ.out _ HB.out).mono ?_
        rintro e w2 ⟨rfl, hb⟩
        replace HB := Aside0.mk (HB.out.trans (hb.mono HB.out.size))
        clear hb
        go_wp2_with ((with_reducible refine gate_dst (N := 24) rfl ?_); refine Kd.R_lit (Kd.int .i64) _ 3 ?hg (N := 24) ?hd (xs := ([] : List Int)) (inner := []) (ok := fun _ => True) (okp := fun _ => True) ?hr ?hp (fun _ hk => hk) trivial (Below.refl _ _) (Nat.le_refl _) (by simp) ?_; (case hd => rfl); (case hg => rfl); (case hr => first | (go_simp; done) | (go_simp; rfl)); (case hp => exact Reps.none _ _); intro v3 w3 h3 b3 _ _; have R3 := Aside0.mk (Kd.R_lower h3 HB.out.size); have B3 := Aside0.mk (HB.out.trans (b3.mono HB.out.size)); clear h3 b3 HB)
        go_loopg [6, 27] k (fun kq v6 v27 w' => ∃ (out : List Int) (i : Int), v27 = .int .i64 i ∧ Aside0 (spec_ptFollow.l0 kq m out l (l.length : Int) i = some s) ∧ Aside0 (kq ≤ k) ∧ Aside0 (Kd.R (Kd.int .i64) 3 w' w.heap.size (fun _ => True) v6 out) ∧ Aside0 (Below w.heap.size w w'))
        case atStart => exact ⟨_, 0, rfl, H, ⟨Nat.le_refl _⟩, R3, B3⟩
        case round =>
          clear R3 B3 H
          obtain ⟨out, i, rfl, HA, HK, HO, HB⟩ := hrel
          cases gk with
          | zero => exact absurd HA.out (by simp [spec_ptFollow.l0])
          | succ k2 =>
            have H := HA.out
            clear HA
            simp only [spec_ptFollow.l0] at H
            by_cases c1 : i < (l.length : Int)
            · rw [if_pos c1] at H
              obtain ⟨c2, H⟩ := ite_some H
              obtain ⟨_, H⟩ := ite_some H
              obtain ⟨j, hj⟩ : ∃ j, wrap64 (rd l i - 1) = j := ⟨_, rfl⟩
              rw [hj] at H
              have hjw : IntKind.i64.wrap (rd l i - 1) = j := (i64_w _).trans hj
              obtain ⟨c4, H⟩ := ite_some H
              obtain ⟨c5, H⟩ := ite_some H
              obtain ⟨c6, H⟩ := ite_some H
              rw [show wrap64 (i + 1) = i + 1 by unfold wrap64; omega] at H
              have H' := Aside0.mk H
              have C6 := Aside0.mk c6
              clear H c6
              obtain ⟨ad, e1, hx1⟩ := Kd.at_int (Kd.C_below HR.out HB.out) i c2 c1
              subst e1
              obtain ⟨ad', e2, hx2⟩ := Kd.at_int (Kd.C_below HR'.out HB.out) j c4 c5
              subst e2
              go_wp2_with ((with_reducible refine gate_builtin (b := .append) (xs := #[.tmp 31, .tmp 37]) rfl ?_); at_builtin; refine Kd.R_append (Kd.int .i64) (w0 := w) w.heap.size rfl (.tmp 31) (.tmp 37) 22 3 (.int .i64 0) 8 rfl Try.underlying22 info3 rfl (by decide) (by omega) u6 out (rd m j) [.int .i64 (rd m j)] (fun _ => True) (fun _ => False) rfl rfl ?aP (fun _ hk => hk.elim) ?aF ?aO ?aB ?aS ?aL ?_; (case aP => exact rfl); (case aB => exact HB.out); (case aF => exact (fun _ _ => trivial)); (case aO => exact HO.out); (case aS => exact below_size HB.out); (case aL => have := C6.out; omega); intro v5 w5 h5 b5 _ _; replace HB := Aside0.mk b5; replace HO := Aside0.mk h5; clear b5 h5)
              go_roundg k2
              case measure => have := HK.out; omega
              case rel => exact ⟨_, i + 1, rfl, H', ⟨by have := HK.out; omega⟩, HO, HB⟩
            · rw [if_neg c1] at H
              obtain rfl := Option.some.inj H
              clear H
              go_wp2
              go_ret2
              exact ⟨_, rfl, HO.out, HB.out⟩
      · rw [if_neg hlen] at h
        simp only [Option.some.injEq, Prod.mk.injEq] at h
        obtain ⟨rfl, rfl⟩ := h
        have hq : (((l.length : Nat) : Int) != ((m.length : Nat) : Int)) = true := by simpa using hlen
        have hq2 : (l.length != m.length) = true := by simp; omega
        have HL := Aside0.mk hlen
        clear hlen
        go_enter Try.func22, Try.ntmps22
        go_wp2_with fail
        refine cI.mono ?_
        clear cI
        rintro e w1 ⟨rfl, hb⟩
        have HB := Aside0.mk hb
        clear hb
        go_wp2_with fail
        refine (CJ.out _ HB.out).mono ?_
        rintro e w2 ⟨rfl, hb⟩
        replace HB := Aside0.mk (HB.out.trans (hb.mono HB.out.size))
        clear hb
        go_wp2_with fail
        go_ret2
        exact ⟨_, rfl, Kd.R_nil _ _ _ _ _, HB.out⟩
end Go.Proofs.Ytbfgiccfbaobnaa.WkFollowOrder
