/- spec.tdEnd and (crossing).earliest at this program: the first hour at the far bank, or -1. Conditions: a right crossing, a start of at most 2000. -/
import Derived.Test.YteijbohbdhemoaaDoorTda
import Derived.RegionTactic
import Derived.ChangeAlike
import Derived.BigRegion
import Derived.Deep.RegionWith
namespace Go.Proofs.YteijbohbdhemoaaDoor.End
set_option linter.unusedVariables false
set_option linter.unusedSimpArgs false
open Go.RowKit Go.Proofs.YteijbohbdhemoaaDoorW.PrintWords Go.Proofs.YteijbohbdhemoaaDoorW.PrintLast Go.Proofs.YteijbohbdhemoaaDoorW.PrintMore Sh Cr Sm Tb Pl Arr

theorem far_cell (s t : ByteArray) (L st P : Nat) (hP : P = s.size + 2) (w W : World) (v : Value) (h : Kd.R (Kd.int .i64) 3 W w.heap.size (fun _ => True) v (arrs s t L st)) :
    ∃ g cap, v = .slice (some ⟨g, 0, none⟩) P cap ∧ w.heap.size ≤ g ∧ W.cell? ⟨g, P - 1, none⟩ = some (.int .i64 (endOf s t L st)) := by
  obtain ⟨g, cap, e, hg, hT⟩ := Stp.of_tab (h1 := fun _ => rfl) h (by omega)
  refine ⟨g, cap, by rw [e, hP], hg, ?_⟩
  have := hT.cell (s.size + 1) (by omega)
  rw [hP, show s.size + 2 - 1 = s.size + 1 by omega]
  exact this
set_option maxHeartbeats 4000000 in
set_option maxRecDepth 100000 in
theorem tdEnd (s t : ByteArray) (L st : Nat) (w : World) (hs : 1 ≤ s.size ∧ s.size ≤ 14) (ht : 1 ≤ t.size ∧ t.size ≤ 12) (hL : 1 ≤ L ∧ L ≤ 15) (hst : st ≤ 2000) :
    Calls Tryd.prog 31 #[.string s, .string t, .int .i64 (L : Int), .int .i64 (st : Int)] w fun e w' => e = .returned (.int .i64 (endOf s t L st)) ∧ Below w.heap.size w w' := by
  have CA := Aside0.mk (Tda.tdArrive s t L st w hs ht hL hst)
  obtain ⟨P, hP⟩ : ∃ P : Nat, P = s.size + 2 := ⟨_, rfl⟩
  have HP := Aside0.mk hP
  obtain ⟨z, hz⟩ : ∃ z : Int, wrap64 ((s.size : Int) + 1) = z := ⟨_, rfl⟩
  have hz2 : z = ((P - 1 : Nat) : Int) := by rw [← hz, w_id (by omega) (by omega)]; omega
  have p13 := eq_true (show 0 ≤ z by omega)
  have q13 := eq_true (show z < (P : Int) by omega)
  have zt : z.toNat = P - 1 := by omega
  have hs2 : s.size ≤ 9223372036854775807 := by omega
  have ZT := Aside0.mk zt
  clear hs ht hL hst hP hz2 zt
  go_enter Tryd.func31, Tryd.ntmps31
  go_wp2_with fail
  refine CA.out.mono ?_
  rintro e w1 ⟨v, rfl, hr, hb⟩
  obtain ⟨g, cap, rfl, hg, hc⟩ := far_cell s t L st P HP.out w w1 v hr
  have HB := Aside0.mk hb
  rw [← ZT.out] at hc
  clear hr hb
  go_wp2_with fail
  go_ret
  exact ⟨rfl, HB.out⟩
set_option maxHeartbeats 4000000 in
set_option maxRecDepth 100000 in
theorem earliest (s t : ByteArray) (L st : Nat) (w : World) (hs : 1 ≤ s.size ∧ s.size ≤ 14) (ht : 1 ≤ t.size ∧ t.size ≤ 12) (hL : 1 ≤ L ∧ L ≤ 15) (hst : st ≤ 2000) :
    Calls Tryd.prog 34 #[agg s t (L : Int), .int .i64 (st : Int)] w fun e w' => e = .returned (.int .i64 (endOf s t L st)) ∧ Below w.heap.size w w' := by
  have hu39 := Tryd.underlying39
  have CA := Aside0.mk (fun W => arrivals s t L st W hs ht hL hst)
  obtain ⟨P, hP⟩ : ∃ P : Nat, P = s.size + 2 := ⟨_, rfl⟩
  have HP := Aside0.mk hP
  have cp := fun W => places s t (L : Int) W (by omega)
  rw [← hP] at cp
  have CP := Aside0.mk cp
  obtain ⟨z, hz⟩ : ∃ z : Int, wrap64 ((P : Int) - 1) = z := ⟨_, rfl⟩
  have hz2 : z = ((P - 1 : Nat) : Int) := by rw [← hz, w_id (by omega) (by omega)]; omega
  have hzw : IntKind.i64.wrap ((P : Int) - 1) = z := (i64_w _).trans hz
  have p13 := eq_true (show 0 ≤ z by omega)
  have q13 := eq_true (show z < (P : Int) by omega)
  have zt : z.toNat = P - 1 := by omega
  have ZT := Aside0.mk zt
  clear hs ht hL hst hP hz2 zt cp
  go_enter Tryd.func34, Tryd.ntmps34
  go_wp2_with fail
  have hn0 : (w.alloc (box s t (L : Int))).heap[w.heap.size]? = some (box s t (L : Int)) := blk_new w _
  have HN0 := Aside0.mk hn0
  clear hn0
  go_region_with (first
    | (go_at_call 40; refine (CA.out _).mono ?_; rintro e w1 ⟨v, rfl, hr, hb⟩; obtain ⟨g, cap, rfl, hg, hc⟩ := far_cell s t L st P HP.out _ w1 v hr; rw [← ZT.out] at hc; have HC := Aside0.mk hc; have X1 : Aside0 (w1.heap[w.heap.size]? = some (box s t (L : Int))) := ⟨(hb.block w.heap.size (by simp)).trans HN0.out⟩; have HB1 : Aside0 (Below w.heap.size w w1) := ⟨by first | exact below_step (below_drew (below_alloc (Below.refl _ _) _)) hb | exact below_step (below_alloc (Below.refl _ _) _) hb⟩; clear hr hb hc; have hc0 : w1.cell? ⟨w.heap.size, 0, none⟩ = some (.string s) := (blk_cell X1.out 0).trans rfl; have hc1 : w1.cell? ⟨w.heap.size, 1, none⟩ = some (.string t) := (blk_cell X1.out 1).trans rfl; have hc2 : w1.cell? ⟨w.heap.size, 2, none⟩ = some (.int .i64 (L : Int)) := (blk_cell X1.out 2).trans rfl)
    | (go_at_call 49; refine (CP.out _).mono ?_; rintro e w2 ⟨rfl, hb⟩; have HB2 := Aside0.mk (below_step HB1.out hb); have hcz := (hb.cell (p := ⟨g, z.toNat, none⟩) (World.block_lt_of_cell? _ _ HC.out)).trans HC.out; clear hb hc0 hc1 hc2))
  all_goals
    go_wp2_with fail
    go_ret
    exact ⟨rfl, by repeat (first | (with_reducible exact HB2.out) | apply pw_below_drewN | apply below_drew1 | apply below_drew)⟩
end Go.Proofs.YteijbohbdhemoaaDoor.End
