/- spec.ptCycles at this program hands back as many cycles as the program's own printed function tells. Condition: the slice is no longer than 2^20. -/
import Derived.Test.YtbfgiccfbaobnaaIsOrd
import Derived.Test.YtbfgiccfbaobnaaPFnExactFewestSwapsx9
namespace Go.Proofs.Ytbfgiccfbaobnaa.Cyc
set_option linter.unusedVariables false
set_option linter.unusedSimpArgs false
open Go.RowKit Go.Proofs.YtbfgiccfbaobnaaW.PrintWords Go.Proofs.YtbfgiccfbaobnaaW.PrintLast Go.Proofs.YtbfgiccfbaobnaaW.PrintMore PFnExactFewestSwaps

theorem ite_some {α : Type} {c : Prop} [Decidable c] {x : Option α} {r : α} (h : (if c then x else none) = some r) : c ∧ x = some r := by
  by_cases hc : c
  · rw [if_pos hc] at h; exact ⟨hc, h⟩
  · rw [if_neg hc] at h; cases h
/-- A row of values of one cell each. -/
abbrev One := {v : Value // v.oneCell' = true}
def KO : Kd One := Kd.scalar Subtype.val (fun x => x.2)
theorem ne_types {α β : Type} {d : Kd α} {d' : Kd β} {e e' base base' : Nat} {ok ok' : Nat → Prop} {w : World} {u v : Value} {xs : List α} {ys : List β} (h : d.R e w base ok u xs) (hv : d'.R e' w base' ok' v ys) (hE : d.E = []) (hne : e ≠ e') : ∀ k, v.ownBlock = some k → some k ≠ u.ownBlock := by
  intro k hk he
  have := (Kd.R_apartR h hv (by rw [hE]; intro q hq; simp at hq; rw [hq]; exact hne)).1 k he.symm
  exact this.2 hk.symm

set_option maxHeartbeats 4000000 in
set_option maxRecDepth 100000 in
theorem ptCycles (k : Nat) (A : Option Addr) (c : Nat) (l : List Int) (r : List (List Int)) (w : World) (hr : Kd.C (Kd.int .i64) w A l.length l) (hc : l.length ≤ c) (hl : l.length ≤ 1048576) (h1 : 1 ≤ l.length)
    (h : impl_cycles.f k l = some r) :
    Calls Try.prog 38 #[.slice A l.length c] w fun e w' => ∃ A' c', e = .returned (.slice A' r.length c') ∧ Below w.heap.size w w' := by
  have hl2 : l.length ≤ 9223372036854775807 := by omega
  unfold impl_cycles.f at h
  rw [if_pos (by omega), if_pos (by omega)] at h
  have H := Aside0.mk h
  have HR := Aside0.mk hr
  clear hr h
  go_enter Try.func38, Try.ntmps38
  go_wp2_with ((with_reducible refine gate_dst (N := 10) rfl ?_); refine Kd.R_make Kd.bool _ 4 rfl (N := 10) rfl 50 _ _ rfl (l.length : Int) rfl rfl Try.underlying50 (.bool false) 1 info4 rfl (by decide) (by omega) false (ok := fun _ => True) (okp := fun _ => True) rfl (fun _ hk => hk) trivial (by omega) (by omega) (Below.refl _ _) (Nat.le_refl _) ?_; intro v2 w2 h2 b2 _ _; have R2 := Aside0.mk h2; have B2 := Aside0.mk b2; clear h2 b2)
  have hlen : (List.replicate ((l.length : Int)).toNat false).length = l.length := by simp
  obtain ⟨g, cap, rfl, gb, _, _⟩ := Kd.R_form R2.out (by omega)
  rw [hlen] at R2 ⊢
  have GB := Aside0.mk gb
  clear gb hlen
  go_loopg [3, 13] k (fun kq v3 v13 w' => ∃ (xs : List (List Int)) (seen : List Bool) (os : List One) (i : Int), v13 = .int .i64 i ∧ 0 ≤ i ∧ Aside0 (os.length = xs.length) ∧ Aside0 (impl_cycles.l0 kq l xs seen (l.length : Int) i = some r) ∧ Aside0 (kq ≤ k) ∧ Aside0 (Kd.R KO 22 w' w.heap.size (fun _ => True) v3 os) ∧ Aside0 (Kd.R Kd.bool 4 w' w.heap.size (fun _ => True) (.slice (some ⟨g, 0, none⟩) l.length cap) seen) ∧ Aside0 (Below w.heap.size w w'))
  case atStart => exact ⟨_, _, [], 0, rfl, by omega, ⟨rfl⟩, H, ⟨Nat.le_refl _⟩, ⟨Kd.R_nil _ _ _ _ _⟩, R2, B2⟩
  case round =>
    clear R2 B2 H
    obtain ⟨xs, seen, os, i, rfl, hi0, HO, HA, HK, HX, HS, HB⟩ := hrel
    cases gk with
    | zero => exact absurd HA.out (by simp [impl_cycles.l0])
    | succ k1 =>
      have H := HA.out
      clear HA
      simp only [impl_cycles.l0] at H
      by_cases c1 : i < (l.length : Int)
      · rw [if_pos c1] at H
        cases k1 with
        | zero => exact absurd H (by simp [impl_cycles.l1])
        | succ k2 =>
          have HI0 := Aside0.mk H
          simp only [impl_cycles.l1] at H
          obtain ⟨_, H⟩ := ite_some H
          obtain ⟨c3, H⟩ := ite_some H
          obtain ⟨hx2, hf2⟩ := Kd.R_celln false HS.out i hi0 c1
          by_cases c4 : rdOf false seen i = true
          · rw [if_pos c4, if_neg (by simp)] at H
            rw [show wrap64 (i + 1) = i + 1 by unfold wrap64; omega] at H
            rw [c4] at hx2
            have H' := Aside0.mk H
            clear H c4
            go_wp2
            go_roundg k2
            case measure => have := HK.out; omega
            case rel => exact ⟨xs, seen, os, i + 1, rfl, by omega, HO, H', ⟨by have := HK.out; omega⟩, HX, HS, HB⟩
          · rw [if_neg c4] at H
            have c4' : rdOf false seen i = false := by simpa using c4
            rw [c4'] at hx2
            have HN0 : Aside0 (([] : List Int) = [] → rdOf false seen i = false) := ⟨fun _ => c4'⟩
            clear H c4 c4'
            go_wp2
            clear hx2 hf2
            go_loopg [6, 7] (k2 + 1) (fun kq v6 v7 w' => ∃ (own : List Int) (seen' : List Bool) (a : Int), v7 = .int .i64 a ∧ Aside0 (own = [] → rdOf false seen' a = false) ∧ Aside0 (impl_cycles.l1 kq l xs seen' own a (l.length : Int) i = some r) ∧ Aside0 (kq ≤ k2 + 1) ∧ Aside0 (Kd.R (Kd.int .i64) 3 w' w.heap.size (fun _ => True) v6 own) ∧ Aside0 (Kd.R KO 22 w' w.heap.size (fun _ => True) u3 os) ∧ Aside0 (Kd.R Kd.bool 4 w' w.heap.size (fun _ => True) (.slice (some ⟨g, 0, none⟩) l.length cap) seen') ∧ Aside0 (Below w.heap.size w w'))
            case atStart => exact ⟨[], seen, i, rfl, ⟨fun _ => by first | exact HN0.out trivial | exact HN0.out rfl⟩, HI0, ⟨Nat.le_refl _⟩, ⟨Kd.R_nil _ _ _ _ _⟩, HX, HS, HB⟩
            case round =>
              clear HN0 HI0 HX HS HB
              obtain ⟨own, seen', a, rfl, HN, HA, HK2, HC, HX, HS, HB⟩ := hrel
              cases gk with
              | zero => exact absurd HA.out (by simp [impl_cycles.l1])
              | succ k3 =>
                have H := HA.out
                clear HA
                simp only [impl_cycles.l1] at H
                obtain ⟨d1, H⟩ := ite_some H
                obtain ⟨d2, H⟩ := ite_some H
                have hsl := (Kd.R_reads' HS.out).1
                rw [← hsl] at d2
                clear hsl
                obtain ⟨hx3, hf3⟩ := Kd.R_celln false HS.out a d1 d2
                by_cases d4 : rdOf false seen' a = true
                · have d5 : (own.length : Int) > 0 := by
                    rcases own with _ | ⟨y, ys⟩
                    · rw [HN.out rfl] at d4; cases d4
                    · simp
                  rw [if_pos d4, if_pos d5] at H
                  obtain ⟨d6, H⟩ := ite_some H
                  rw [show wrap64 (i + 1) = i + 1 by unfold wrap64; omega] at H
                  rw [d4] at hx3
                  have H' := Aside0.mk H
                  have D6 := Aside0.mk d6
                  clear H d4 d5 d6
                  obtain ⟨A6, c6, rfl⟩ := Kd.R_slice HC.out
                  go_wp2_with ((with_reducible refine gate_builtin (b := .append) (xs := #[.tmp 38, .tmp 40]) rfl ?_); at_builtin; refine Kd.R_append KO (w0 := w) w.heap.size rfl (.tmp 38) (.tmp 40) 41 22 (.slice none 0 0) 24 rfl Try.underlying41 info22 rfl (by decide) (by omega) u3 os ⟨.slice A6 own.length c6, rfl⟩ [.slice A6 own.length c6] (fun _ => True) (fun _ => False) rfl rfl ?aP (fun _ hk => hk.elim) ?aF ?aO ?aB ?aS ?aL ?_; (case aP => exact rfl); (case aB => exact HB.out); (case aF => exact (fun _ _ => trivial)); (case aO => exact HX.out); (case aS => exact below_size HB.out); (case aL => have := D6.out; have := HO.out; omega); intro v5 w5 h5 b5 hg _; replace HS := Aside0.mk (Kd.R_grown2 HS.out rfl hg (ne_types HS.out HX.out rfl (by decide))); replace HB := Aside0.mk b5; replace HX := Aside0.mk h5; clear b5 h5 hg)
                  go_roundg k3
                  case measure => have := HK2.out; have := HK.out; omega
                  case rel => exact ⟨xs ++ [own], seen', _, i + 1, rfl, by omega, ⟨by simp [HO.out]⟩, H', ⟨by have := HK2.out; have := HK.out; omega⟩, HX, HS, HB⟩
                · rw [if_neg d4] at H
                  obtain ⟨d6, H⟩ := ite_some H
                  obtain ⟨d7, H⟩ := ite_some H
                  have d4' : rdOf false seen' a = false := by simpa using d4
                  rw [d4'] at hx3
                  obtain ⟨j, hj⟩ : ∃ j, wrap64 (rd l a - 1) = j := ⟨_, rfl⟩
                  rw [hj] at H
                  have hjw : IntKind.i64.wrap (rd l a - 1) = j := (i64_w _).trans hj
                  have H' := Aside0.mk H
                  have D6 := Aside0.mk d6
                  clear H d4 d6 d4'
                  have HP := Kd.R_putg HS.out a true
                  have hgs := HP.2
                  have HS1 := Aside0.mk HP.1
                  have HC1 := Aside0.mk (Kd.R_grown2 HC.out rfl hgs (fun k_ e_ => by cases e_; exact ne_types HC.out HS.out rfl (by decide) g rfl))
                  have HX1 := Aside0.mk (Kd.R_grown2 HX.out rfl hgs (fun k_ e_ => by cases e_; exact ne_types HX.out HS.out rfl (by decide) g rfl))
                  have HB1 := Aside0.mk (below_set (j := a.toNat) (v := Value.bool true) HB.out GB.out)
                  clear HP hgs
                  obtain ⟨ad, e1, hx1⟩ := Kd.at_int HR.out a d1 d7
                  subst e1
                  clear hx1
                  have HR2 := HR
                  go_wp2_with ((with_reducible refine gate_builtin (b := .append) (xs := #[.tmp 34, .tmp 36]) rfl ?_); at_builtin; refine Kd.R_append (Kd.int .i64) (w0 := w) w.heap.size rfl (.tmp 34) (.tmp 36) 22 3 (.int .i64 0) 8 rfl Try.underlying22 info3 rfl (by decide) (by omega) u6 own a [.int .i64 a] (fun _ => True) (fun _ => False) rfl ?aX ?aP (fun _ hk => hk.elim) ?aF ?aO ?aB ?aS ?aL ?_; (case aX => (show Value.slice (some ⟨wr.heap.size, 0, none⟩) 1 1 = _; simp)); (case aP => exact rfl); (case aB => exact HB1.out); (case aF => exact (fun _ _ => trivial)); (case aO => exact HC1.out); (case aS => exact below_size HB1.out); (case aL => have := D6.out; omega); intro v5 w5 h5 b5 hg _; have HS5 := Aside0.mk (Kd.R_grown2 HS1.out rfl hg (ne_types HS1.out HC1.out rfl (by decide))); have HX5 := Aside0.mk (Kd.R_grown2 HX1.out rfl hg (ne_types HX1.out HC1.out rfl (by decide))); obtain ⟨ad5, e5, hx5⟩ := Kd.at_int (Kd.C_below HR.out b5) a d1 d7; cases e5; have HB5 := Aside0.mk b5; have HC5 := Aside0.mk h5; clear b5 h5 hg)
                  go_roundg k3
                  case measure => have := HK2.out; have := HK.out; omega
                  case rel => exact ⟨own ++ [a], _, j, rfl, ⟨fun h_ => absurd h_ (by simp)⟩, H', ⟨by have := HK2.out; omega⟩, HC5, HX5, HS5, HB5⟩
      · rw [if_neg c1] at H
        obtain rfl := Option.some.inj H
        clear H
        obtain ⟨A3, c3, rfl⟩ := Kd.R_slice HX.out
        go_wp2
        go_ret
        exact ⟨⟨A3, c3, by rw [← HO.out]; rfl⟩, HB.out⟩
end Go.Proofs.Ytbfgiccfbaobnaa.Cyc
