-- Written for this claim by a program of this session, which drives the kit's printer; some callees' contracts in it are proved by hand.
import Derived.Test.YteijbohbdhemoaaDoorPFnExactEarliestWayx0
import Derived.Test.YteijbohbdhemoaaDoorPFnExactEarliestWayx4
namespace Go.Proofs.YteijbohbdhemoaaDoor.PFnExactEarliestWay
open Go.RowKit Go.Proofs.YteijbohbdhemoaaDoorW.PrintWords Go.Proofs.YteijbohbdhemoaaDoorW.PrintLast Go.Proofs.YteijbohbdhemoaaDoorW.PrintMore
attribute [local go_sem] max2_int min2_int max_two min_two max_three min_three max_four min_four   -- for this text's walks alone
set_option linter.unusedVariables false
set_option linter.unusedSimpArgs false

/-! ### impl_crossing_counts: function 37 -/
mutual
def impl_crossing_counts.l0 : Nat → Int → Int → List (List Int) → Int → Int → ByteArray → ByteArray → Int → Option ((List (List Int)))
  | 0, _, _, _, _, _, _, _, _ => none
  | k + 1, x1, x2, x7, x19, x20, x242000, x242001, x242002 => if x20 < x19 then ((impl_crossing_places.f x242000 x242001 x242002).bind fun t245 => (if 0 ≤ t245 then (if (t245 : Int).toNat ≤ 35184372088832 then (if 0 ≤ x20 then (if x20 < (x7.length : Int) then (impl_crossing_counts.l0 k x1 x2 (x7.set (x20 : Int).toNat (List.replicate (t245 : Int).toNat 0)) x19 (wrap64 (x20 + 1)) x242000 x242001 x242002) else (none)) else (none)) else (none)) else (none))) else (if 0 ≤ (wrap64 (x2 - x1)) then (if (wrap64 (x2 - x1)) < (x7.length : Int) then ((impl_crossing_places.f x242000 x242001 x242002).bind fun t251 => (if 0 ≤ (wrap64 (t251 - 1)) then (if (wrap64 (t251 - 1)) < ((rd_L3 x7 (wrap64 (x2 - x1))).length : Int) then (impl_crossing_counts.l1 k x1 (x7.set ((wrap64 (x2 - x1)) : Int).toNat ((rd_L3 x7 (wrap64 (x2 - x1))).set ((wrap64 (t251 - 1)) : Int).toNat 1)) (wrap64 ((wrap64 (x2 - x1)) - 1)) x242000 x242001 x242002) else (none)) else (none))) else (none)) else (none))
def impl_crossing_counts.l1 : Nat → Int → List (List Int) → Int → ByteArray → ByteArray → Int → Option ((List (List Int)))
  | 0, _, _, _, _, _, _ => none
  | k + 1, x1, x7, x9, x242000, x242001, x242002 => if x9 ≥ 0 then ((impl_crossing_places.f x242000 x242001 x242002).bind fun t255 => (impl_crossing_counts.l2 k x1 x7 x9 (wrap64 (t255 - 1)) 0 x242000 x242001 x242002)) else (some x7)
def impl_crossing_counts.l2 : Nat → Int → List (List Int) → Int → Int → Int → ByteArray → ByteArray → Int → Option ((List (List Int)))
  | 0, _, _, _, _, _, _, _, _ => none
  | k + 1, x1, x7, x9, x50, x51, x242000, x242001, x242002 => if x51 < x50 then (if 0 ≤ (wrap64 (x9 + 1)) then (if (wrap64 (x9 + 1)) < (x7.length : Int) then (impl_crossing_counts.l3 k x1 x7 x9 x51 x50 x51 (rd_L3 x7 (wrap64 (x9 + 1))) ((rd_L3 x7 (wrap64 (x9 + 1))).length : Int) 0 x242000 x242001 x242002) else (none)) else (none)) else (impl_crossing_counts.l1 k x1 x7 (wrap64 (x9 - 1)) x242000 x242001 x242002)
def impl_crossing_counts.l3 : Nat → Int → List (List Int) → Int → Int → Int → Int → List Int → Int → Int → ByteArray → ByteArray → Int → Option ((List (List Int)))
  | 0, _, _, _, _, _, _, _, _, _, _, _, _ => none
  | k + 1, x1, x7, x9, x10, x50, x51, x58, x59, x60, x242000, x242001, x242002 => if x60 < x59 then (if 0 ≤ x60 then (if x60 < (x58.length : Int) then ((impl_crossing_near.f x242000 x242001 x242002 x10 x60).bind fun t258 => (if t258 = true then ((impl_isDry.f x242000 x242001 x10 (wrap64 (x1 + x9))).bind fun t259 => (if t259 = true then (if 0 ≤ x9 then (if x9 < (x7.length : Int) then (if 0 ≤ x10 then (if x10 < ((rd_L3 x7 x9).length : Int) then (impl_crossing_counts.l3 k x1 (x7.set (x9 : Int).toNat ((rd_L3 x7 x9).set (x10 : Int).toNat (mn (wrap64 ((rd (rd_L3 x7 x9) x10) + (rd x58 x60))) 1152921504606846976))) x9 x10 x50 x51 x58 x59 (wrap64 (x60 + 1)) x242000 x242001 x242002) else (none)) else (none)) else (none)) else (none)) else (impl_crossing_counts.l3 k x1 x7 x9 x10 x50 x51 x58 x59 (wrap64 (x60 + 1)) x242000 x242001 x242002))) else (impl_crossing_counts.l3 k x1 x7 x9 x10 x50 x51 x58 x59 (wrap64 (x60 + 1)) x242000 x242001 x242002))) else (none)) else (none)) else (impl_crossing_counts.l2 k x1 x7 x9 x50 (wrap64 (x51 + 1)) x242000 x242001 x242002)
end
def impl_crossing_counts.f (k : Nat) (a0_0 : ByteArray) (a0_1 : ByteArray) (a0_2 : Int) (a1 : Int) (a2 : Int) : Option ((List (List Int))) := if 0 ≤ (wrap64 ((wrap64 (a2 - a1)) + 1)) then (if (wrap64 ((wrap64 (a2 - a1)) + 1) : Int).toNat ≤ 11728124029610 then ((some (List.replicate (wrap64 ((wrap64 (a2 - a1)) + 1) : Int).toNat [] : List (List Int))).bind fun y242 => (impl_crossing_counts.l0 k a1 a2 y242 (y242.length : Int) 0 a0_0 a0_1 a0_2)) else (none)) else (none)
theorem impl_crossing_counts.mono_l : ∀ k, (∀ y0 y1 y2 y3 y4 y5 y6 y7, LeO (impl_crossing_counts.l0 k y0 y1 y2 y3 y4 y5 y6 y7) (impl_crossing_counts.l0 (k + 1) y0 y1 y2 y3 y4 y5 y6 y7)) ∧ (∀ y0 y1 y2 y3 y4 y5, LeO (impl_crossing_counts.l1 k y0 y1 y2 y3 y4 y5) (impl_crossing_counts.l1 (k + 1) y0 y1 y2 y3 y4 y5)) ∧ (∀ y0 y1 y2 y3 y4 y5 y6 y7, LeO (impl_crossing_counts.l2 k y0 y1 y2 y3 y4 y5 y6 y7) (impl_crossing_counts.l2 (k + 1) y0 y1 y2 y3 y4 y5 y6 y7)) ∧ (∀ y0 y1 y2 y3 y4 y5 y6 y7 y8 y9 y10 y11, LeO (impl_crossing_counts.l3 k y0 y1 y2 y3 y4 y5 y6 y7 y8 y9 y10 y11) (impl_crossing_counts.l3 (k + 1) y0 y1 y2 y3 y4 y5 y6 y7 y8 y9 y10 y11))
  | 0 => ⟨fun _ _ _ _ _ _ _ _ r h => by simp [impl_crossing_counts.l0] at h, fun _ _ _ _ _ _ r h => by simp [impl_crossing_counts.l1] at h, fun _ _ _ _ _ _ _ _ r h => by simp [impl_crossing_counts.l2] at h, fun _ _ _ _ _ _ _ _ _ _ _ _ r h => by simp [impl_crossing_counts.l3] at h⟩
  | k + 1 => by
    obtain ⟨ih0, ih1, ih2, ih3⟩ := impl_crossing_counts.mono_l k
    refine ⟨?_, ?_, ?_, ?_⟩
    · intro y0 y1 y2 y3 y4 y5 y6 y7
      unfold impl_crossing_counts.l0
      repeat' first
      | (with_reducible exact ih0 _ _ _ _ _ _ _ _)
      | (with_reducible exact ih1 _ _ _ _ _ _)
      | (with_reducible exact ih2 _ _ _ _ _ _ _ _)
      | (with_reducible exact ih3 _ _ _ _ _ _ _ _ _ _ _ _)
      | (with_reducible exact LeO.refl _)
      | (with_reducible exact LeO.none _)
      | (with_reducible refine LeO.ite ?_ ?_)
      | (with_reducible refine LeO.bind ?_ (fun _ => ?_))
      | exact ih0 _ _ _ _ _ _ _ _
      | exact ih1 _ _ _ _ _ _
      | exact ih2 _ _ _ _ _ _ _ _
      | exact ih3 _ _ _ _ _ _ _ _ _ _ _ _
      | exact LeO.none _
      | refine LeO.ite ?_ ?_
      | refine LeO.bind ?_ (fun _ => ?_)
    · intro y0 y1 y2 y3 y4 y5
      unfold impl_crossing_counts.l1
      repeat' first
      | (with_reducible exact ih0 _ _ _ _ _ _ _ _)
      | (with_reducible exact ih1 _ _ _ _ _ _)
      | (with_reducible exact ih2 _ _ _ _ _ _ _ _)
      | (with_reducible exact ih3 _ _ _ _ _ _ _ _ _ _ _ _)
      | (with_reducible exact LeO.refl _)
      | (with_reducible exact LeO.none _)
      | (with_reducible refine LeO.ite ?_ ?_)
      | (with_reducible refine LeO.bind ?_ (fun _ => ?_))
      | exact ih0 _ _ _ _ _ _ _ _
      | exact ih1 _ _ _ _ _ _
      | exact ih2 _ _ _ _ _ _ _ _
      | exact ih3 _ _ _ _ _ _ _ _ _ _ _ _
      | exact LeO.none _
      | refine LeO.ite ?_ ?_
      | refine LeO.bind ?_ (fun _ => ?_)
    · intro y0 y1 y2 y3 y4 y5 y6 y7
      unfold impl_crossing_counts.l2
      repeat' first
      | (with_reducible exact ih0 _ _ _ _ _ _ _ _)
      | (with_reducible exact ih1 _ _ _ _ _ _)
      | (with_reducible exact ih2 _ _ _ _ _ _ _ _)
      | (with_reducible exact ih3 _ _ _ _ _ _ _ _ _ _ _ _)
      | (with_reducible exact LeO.refl _)
      | (with_reducible exact LeO.none _)
      | (with_reducible refine LeO.ite ?_ ?_)
      | (with_reducible refine LeO.bind ?_ (fun _ => ?_))
      | exact ih0 _ _ _ _ _ _ _ _
      | exact ih1 _ _ _ _ _ _
      | exact ih2 _ _ _ _ _ _ _ _
      | exact ih3 _ _ _ _ _ _ _ _ _ _ _ _
      | exact LeO.none _
      | refine LeO.ite ?_ ?_
      | refine LeO.bind ?_ (fun _ => ?_)
    · intro y0 y1 y2 y3 y4 y5 y6 y7 y8 y9 y10 y11
      unfold impl_crossing_counts.l3
      repeat' first
      | (with_reducible exact ih0 _ _ _ _ _ _ _ _)
      | (with_reducible exact ih1 _ _ _ _ _ _)
      | (with_reducible exact ih2 _ _ _ _ _ _ _ _)
      | (with_reducible exact ih3 _ _ _ _ _ _ _ _ _ _ _ _)
      | (with_reducible exact LeO.refl _)
      | (with_reducible exact LeO.none _)
      | (with_reducible refine LeO.ite ?_ ?_)
      | (with_reducible refine LeO.bind ?_ (fun _ => ?_))
      | exact ih0 _ _ _ _ _ _ _ _
      | exact ih1 _ _ _ _ _ _
      | exact ih2 _ _ _ _ _ _ _ _
      | exact ih3 _ _ _ _ _ _ _ _ _ _ _ _
      | exact LeO.none _
      | refine LeO.ite ?_ ?_
      | refine LeO.bind ?_ (fun _ => ?_)
theorem impl_crossing_counts.mono : ∀ a0 a1 a2 a3 a4 k, LeO (impl_crossing_counts.f k a0 a1 a2 a3 a4) (impl_crossing_counts.f (k + 1) a0 a1 a2 a3 a4) := by
  intro a0 a1 a2 a3 a4 k
  obtain ⟨ih0, ih1, ih2, ih3⟩ := impl_crossing_counts.mono_l k
  unfold impl_crossing_counts.f
  repeat' first
      | (with_reducible exact ih0 _ _ _ _ _ _ _ _)
      | (with_reducible exact ih1 _ _ _ _ _ _)
      | (with_reducible exact ih2 _ _ _ _ _ _ _ _)
      | (with_reducible exact ih3 _ _ _ _ _ _ _ _ _ _ _ _)
      | (with_reducible exact LeO.refl _)
      | (with_reducible exact LeO.none _)
      | (with_reducible refine LeO.ite ?_ ?_)
      | (with_reducible refine LeO.bind ?_ (fun _ => ?_))
      | exact ih0 _ _ _ _ _ _ _ _
      | exact ih1 _ _ _ _ _ _
      | exact ih2 _ _ _ _ _ _ _ _
      | exact ih3 _ _ _ _ _ _ _ _ _ _ _ _
      | exact LeO.none _
      | refine LeO.ite ?_ ?_
      | refine LeO.bind ?_ (fun _ => ?_)
def impl_crossing_counts.T7 : Bool × List (List Nat × List Nat) := (true, [([], []), ([], []), ([], []), ([1, 2], [1, 2]), ([0, 3], [0, 3]), ([4], [4]), ([], []), ([6], [6]), ([7], [7]), ([5, 8, 0, 1, 2, 3, 4, 5, 6, 7, 8], [5, 8]), ([9, 7, 0, 1, 2, 3, 4, 5, 6, 7, 8], [9])])
def impl_crossing_counts.B7 : List Nat := [0, 0, 0, 6, 15, 31, 0, 64, 192, 511, 1023]
theorem impl_crossing_counts.tab7 : rtab .any (opsOf Tryd.f37 7) = impl_crossing_counts.T7 := by kernel_rfl
theorem impl_crossing_counts.bits7 : waitsOk impl_crossing_counts.T7.2 impl_crossing_counts.B7 = true := by kernel_rfl
def impl_crossing_counts.T18 : Bool × List (List Nat × List Nat) := (true, [([], []), ([], []), ([0, 1], [0, 1]), ([2], [2]), ([], []), ([], []), ([], []), ([5, 6], [5, 6]), ([7], [7]), ([], []), ([8, 9], [8, 9]), ([10], [10]), ([], []), ([11, 12], [11, 12]), ([13], [13]), ([3, 4, 0, 1, 2, 3, 4, 5, 6, 7, 8, 9, 10, 11, 12, 13, 14], [3, 4]), ([15, 14, 0, 1, 2, 3, 4, 5, 6, 7, 8, 9, 10, 11, 12, 13, 14], [14, 15])])
def impl_crossing_counts.B18 : List Nat := [0, 0, 3, 7, 0, 0, 0, 96, 224, 0, 992, 2016, 0, 8160, 16352, 32767, 65535]
theorem impl_crossing_counts.tab18 : rtab .any (opsOf Tryd.f37 18) = impl_crossing_counts.T18 := by kernel_rfl
theorem impl_crossing_counts.bits18 : waitsOk impl_crossing_counts.T18.2 impl_crossing_counts.B18 = true := by kernel_rfl
theorem wrap_ne (n : Int) : wrap64 (n + 1) ≠ n := by unfold wrap64; omega
theorem add_block_ (a : Addr) (n : Nat) : (a.add n).block = a.block := by unfold Addr.add; split <;> rfl
theorem cell_at_ {w w' : World} {m : Nat} {a : Addr} {v : Value} (hq : w.drewN m = w') (h : w.cell? a = some v) : w'.cell? a = some v := by subst hq; exact h
theorem cell_drew_ {w : World} {a : Addr} {v : Value} (h : w.cell? a = some v) : w.drew.cell? a = some v := h
theorem rdl_set_ne {xs : List (List Int)} {v : List Int} {i j : Int} (h : i.toNat ≠ j.toNat) : rd_L3 (xs.set i.toNat v) j = rd_L3 xs j := by
  unfold rd_L3; rw [List.getD_eq_getElem?_getD, List.getD_eq_getElem?_getD, List.getElem?_set_ne h]
set_option maxHeartbeats 8000000 in
set_option maxRecDepth 100000 in
theorem impl_crossing_counts.calls (k : Nat) (a0_0 : ByteArray) (a0_1 : ByteArray) (a0_2 : Int) (a1 : Int) (a2 : Int) (r : List (List Int)) (w : World) (h : impl_crossing_counts.f k a0_0 a0_1 a0_2 a1 a2 = some r) :
    Calls Tryd.prog 37 #[.agg #[.string a0_0, .string a0_1, .int .i64 a0_2], .int .i64 a1, .int .i64 a2] w fun e w' => ∃ v0_ : Value, e = .returned (v0_) ∧ Kd.S (Kd.slice 3 (Kd.int .i64)) 25 w' w.heap.size (fun _ => True) v0_ r ∧ Below w.heap.size w w' := by
  have hu39 := Tryd.underlying39
  have HB := Aside0.mk (Below.refl w.heap.size w)
  have H : (if 0 ≤ (wrap64 ((wrap64 (a2 - a1)) + 1)) then (if (wrap64 ((wrap64 (a2 - a1)) + 1) : Int).toNat ≤ 11728124029610 then ((some (List.replicate (wrap64 ((wrap64 (a2 - a1)) + 1) : Int).toNat [] : List (List Int))).bind fun y242 => (impl_crossing_counts.l0 k a1 a2 y242 (y242.length : Int) 0 a0_0 a0_1 a0_2)) else (none)) else (none)) = some r := h
  clear h
  obtain ⟨ji4, hji4⟩ : ∃ j_ : Int, (wrap64 ((wrap64 (a2 - a1)) + 1)) = j_ := ⟨_, rfl⟩
  replace H : (if 0 ≤ (ji4) then (if (ji4 : Int).toNat ≤ 11728124029610 then ((some (List.replicate (ji4 : Int).toNat [] : List (List Int))).bind fun y242 => (impl_crossing_counts.l0 k a1 a2 y242 (y242.length : Int) 0 a0_0 a0_1 a0_2)) else (none)) else (none)) = some r := by first | (rw [hji4] at H; exact H) | (simp only [hji4] at H ⊢; exact H)
  have hji4w : (IntKind.i64.wrap ((wrap64 (a2 - a1)) + 1)) = ji4 := (i64_w _).trans hji4
  by_cases c5 : 0 ≤ (ji4)
  · rw [if_pos c5] at H
    have c5b0 := eq_true c5
    have c5b1 : decide (0 ≤ (ji4)) = true := decide_eq_true c5
    clear c5
    by_cases c6 : (ji4 : Int).toNat ≤ 11728124029610
    · rw [if_pos c6] at H
      have c6b0 := eq_true c6
      have c6b1 : decide ((ji4 : Int).toNat ≤ 11728124029610) = true := decide_eq_true c6
      clear c6
      obtain ⟨y242, hy242⟩ : ∃ y_ : List (List Int), y_ = (List.replicate (ji4 : Int).toNat []) := ⟨_, rfl⟩
      replace H : (impl_crossing_counts.l0 k a1 a2 y242 (y242.length : Int) 0 a0_0 a0_1 a0_2) = some r := by first | (rw [hy242]; with_reducible exact H) | (have H2_ := (Option.bind_some _ _).symm.trans H; rw [hy242]; with_reducible exact H2_) | (have H2_ := (Option.bind_some _ _).symm.trans H; with_reducible exact H2_) | with_reducible exact H | (rw [hy242]; exact H) | exact H
      have Ny242 := Aside0.mk hy242
      clear hy242
      have H' := Aside0.mk H
      clear H
      go_enter Tryd.func37, Tryd.ntmps37
      go_wp2_with (first | ((with_reducible refine gate_dst (N := 3) rfl ?_); refine box_event ?hg (N := 3) ?hd (cs := #[.string a0_0, .string a0_1, .int .i64 a0_2]) (t := 39) ?hr ?_; (case hd => rfl); (case hg => rfl); (case hr => first | (go_simp; done) | (go_simp; rfl)); intro gb241 hg w7 hbox hb; have n0_ := Aside0.mk (below_step (by repeat (first | (with_reducible first | exact HB.out | apply below_alloc | apply pw_below_drewN | apply below_drew1) | exact HB.out)) hb); have n1_ := Aside0.mk (hbox); have n2_ := Aside0.mk ((by rw [hg]; exact (below_size (by repeat (first | (with_reducible first | exact HB.out | apply below_alloc | apply pw_below_drewN | apply below_drew1) | exact HB.out))) : w.heap.size ≤ gb241)); have n3_ := Aside0.mk ((by rw [hg]; exact (below_size (by repeat (first | (with_reducible first | exact HB.out | apply below_alloc | apply pw_below_drewN | apply below_drew1) | exact HB.out))) : w.heap.size ≤ gb241)); clear HB; have HB := n0_; have BK241 := n1_; have GW241 := n2_; have GE241 := n3_; clear n0_ n1_ n2_ n3_; clear hb hbox hg) | ((with_reducible refine gate_dst (N := 17) rfl ?_); refine Kd.S_make (Kd.slice 3 (Kd.int .i64)) _ 25 rfl (N := 17) rfl 47 _ _ rfl ji4 rfl rfl Tryd.underlying47 (.slice none 0 0) 24 info25 rfl (by decide) (by omega) [] (ok := fun _ => True) (okp := fun _ => True) ⟨_, rfl, Kd.R_nil _ _ _ _ _⟩ (fun _ hk => hk) trivial (of_decide_eq_true (by first | (with_reducible assumption) | assumption)) (Nat.le_trans (Nat.mul_le_mul_right _ (of_decide_eq_true (by first | (with_reducible assumption) | assumption) : ji4.toNat ≤ 11728124029610)) (by omega)) (Below.refl _ _) (Nat.le_refl _) ?_; intro v243 w8 ho9 hb hg_ hnew_; clear hg_ hnew_; (first | rw [← Ny242.out] at ho9 | (simp only [Int.reduceToNat] at ho9; rw [← Ny242.out] at ho9)); have n0_ := Aside0.mk (Kd.S_lower ho9 (below_size (by repeat (first | (with_reducible first | exact HB.out | apply below_alloc | apply pw_below_drewN | apply below_drew1 | refine below_set ?_ GE241.out) | exact HB.out)))); have n1_ := Aside0.mk (blk_below (g := gb241) (o := .cells #[.string a0_0, .string a0_1, .int .i64 a0_2] 39 (0, 0)) (by (with_reducible repeat (first | refine blk_drewN ?_ _ | refine blk_drew ?_ | refine blk_alloc ?_ _)); exact BK241.out) hb); have n2_ := Aside0.mk (below_step (by repeat (first | (with_reducible first | exact HB.out | apply below_alloc | apply pw_below_drewN | apply below_drew1 | refine below_set ?_ GE241.out) | exact HB.out)) hb); clear BK241; clear HB; have HO244 := n0_; have BK241 := n1_; have HB := n2_; clear n0_ n1_ n2_; clear hb ho9; obtain ⟨Ao10, co10, eo10⟩ := Kd.S_slice HO244.out; subst eo10))
      go_loopg [20] k (fun kq v20 w' => ∃ (x7_1 : List (List Int)) (x20_1 : Int), v20 = .int .i64 x20_1 ∧ Aside0 (impl_crossing_counts.l0 kq a1 a2 x7_1 (y242.length : Int) x20_1 a0_0 a0_1 a0_2 = some r) ∧ Aside0 (kq ≤ k) ∧ Aside0 (Kd.S (Kd.slice 3 (Kd.int .i64)) 25 w' w.heap.size (fun _ => True) (.slice Ao10 y242.length co10) x7_1) ∧ Aside0 (w'.heap[gb241]? = some (.cells #[.string a0_0, .string a0_1, .int .i64 a0_2] 39 (0, 0))) ∧ Aside0 (Below w.heap.size w w'))
      case atStart => exact ⟨(y242), (0), (by first | rfl | (simp; done) | (simp [*]; done)), H', ⟨Nat.le_refl _⟩, ⟨by (with_reducible repeat (first | apply Kd.S_alloc | apply Kd.S_drewN | apply Kd.S_drew)); exact HO244.out⟩, ⟨by (with_reducible repeat (first | refine blk_drewN ?_ _ | refine blk_drew ?_ | refine blk_alloc ?_ _)); exact BK241.out⟩, ⟨by repeat (first | (with_reducible first | exact HB.out | apply below_alloc | apply pw_below_drewN | apply below_drew1 | refine below_set ?_ GE241.out) | exact HB.out)⟩⟩
      case round =>
        clear H'
        try clear p2
        try clear c3
        try clear c5
        try clear c5b0
        try clear c5b1
        try clear c6
        try clear c6b0
        try clear c6b1
        try clear p6
        obtain ⟨x7_1, x20_1, rfl, HA, HK1, HO_7, BK241, HB⟩ := hrel
        have hl7_1 := (Kd.S_reads' HO_7.out).1
        rw [hl7_1] at HO_7
        (try simp only [hl7_1])
        (try simp only [hl7_1] at BK241)
        cases gk with
        | zero => exact absurd HA.out (by simp [impl_crossing_counts.l0])
        | succ k1 =>
          have H := HA.out
          clear HA
          simp only [impl_crossing_counts.l0] at H
          by_cases c11 : x20_1 < (y242.length : Int)
          · rw [if_pos c11] at H
            have c11b0 : decide (x20_1 < (y242.length : Int)) = true := decide_eq_true c11
            have c11b0z := c11b0
            (try simp only [hl7_1] at c11b0z)
            have c11b0z := c11b0
            (try simp only [hl7_1] at c11b0z)
            have c11b0z := c11b0
            (try simp only [hl7_1] at c11b0z)
            clear c11
            replace H := Option.bind_eq_some_iff.mp H
            obtain ⟨t245, A120, H⟩ := H
            replace H : (if 0 ≤ t245 then (if (t245 : Int).toNat ≤ 35184372088832 then (if 0 ≤ x20_1 then (if x20_1 < (x7_1.length : Int) then (impl_crossing_counts.l0 k1 a1 a2 (x7_1.set (x20_1 : Int).toNat (List.replicate (t245 : Int).toNat 0)) (y242.length : Int) (wrap64 (x20_1 + 1)) a0_0 a0_1 a0_2) else (none)) else (none)) else (none)) else (none)) = some r := H
            have A12 := Aside0.mk A120
            clear A120
            by_cases c13 : 0 ≤ t245
            · rw [if_pos c13] at H
              have c13b0 := eq_true c13
              have c13b1 : decide (0 ≤ t245) = true := decide_eq_true c13
              clear c13
              by_cases c14 : (t245 : Int).toNat ≤ 35184372088832
              · rw [if_pos c14] at H
                have c14b0 := eq_true c14
                have c14b1 : decide ((t245 : Int).toNat ≤ 35184372088832) = true := decide_eq_true c14
                clear c14
                obtain ⟨y246, hy246⟩ : ∃ y_ : List Int, y_ = (List.replicate (t245 : Int).toNat 0) := ⟨_, rfl⟩
                replace H : (if 0 ≤ x20_1 then (if x20_1 < (x7_1.length : Int) then (impl_crossing_counts.l0 k1 a1 a2 (x7_1.set (x20_1 : Int).toNat y246) (y242.length : Int) (wrap64 (x20_1 + 1)) a0_0 a0_1 a0_2) else (none)) else (none)) = some r := by first | (rw [hy246]; with_reducible exact H) | (have H2_ := (Option.bind_some _ _).symm.trans H; rw [hy246]; with_reducible exact H2_) | (have H2_ := (Option.bind_some _ _).symm.trans H; with_reducible exact H2_) | with_reducible exact H | (rw [hy246]; exact H) | exact H
                have Ny246 := Aside0.mk hy246
                clear hy246
                by_cases c15 : 0 ≤ x20_1
                · rw [if_pos c15] at H
                  have c15b0 : decide (0 ≤ x20_1) = true := decide_eq_true c15
                  clear c15
                  by_cases c16 : x20_1 < (x7_1.length : Int)
                  · rw [if_pos c16] at H
                    have c16b0 : decide (x20_1 < (x7_1.length : Int)) = true := decide_eq_true c16
                    clear c16
                    obtain ⟨y249, hy249⟩ : ∃ y_ : List (List Int), y_ = (x7_1.set (x20_1 : Int).toNat y246) := ⟨_, rfl⟩
                    replace H : (impl_crossing_counts.l0 k1 a1 a2 y249 (y242.length : Int) (wrap64 (x20_1 + 1)) a0_0 a0_1 a0_2) = some r := by first | (rw [hy249]; with_reducible exact H) | (have H2_ := (Option.bind_some _ _).symm.trans H; rw [hy249]; with_reducible exact H2_) | (have H2_ := (Option.bind_some _ _).symm.trans H; with_reducible exact H2_) | with_reducible exact H | (rw [hy249]; exact H) | exact H
                    have Ny249 := Aside0.mk hy249
                    clear hy249
                    have H' := Aside0.mk H
                    clear H
                    have hcz18_0 : wr.cell? ⟨gb241, 0, none⟩ = some (.string a0_0) := (blk_cell BK241.out 0).trans rfl
                    have hcz18_1 : wr.cell? ⟨gb241, 1, none⟩ = some (.string a0_1) := (blk_cell BK241.out 1).trans rfl
                    have hcz18_2 : wr.cell? ⟨gb241, 2, none⟩ = some (.int .i64 a0_2) := (blk_cell BK241.out 2).trans rfl
                    have hfz18_0 := blk_frozen BK241.out 0
                    have hfz18_1 := blk_frozen BK241.out 1
                    have hfz18_2 := blk_frozen BK241.out 2
                    go_wp2_with (first | ((with_reducible refine gate_callee (f := 49) rfl ?_); refine goesL_ (some 26) rfl rfl Tryd.func49 (by kernel_rfl) rfl #[.agg #[.string a0_0, .string a0_1, .int .i64 a0_2]] rfl (by (try simp only [List.map_toArray, List.map_cons, List.map_nil]); first | done | rfl | (simp only [List.length_drop, List.length_take]; rfl)) ?_; (with_reducible refine (impl_crossing_places.calls a0_0 a0_1 a0_2 t245 _ A12.out).mono ?_); rintro e w19 ⟨rfl, hb⟩; refine ⟨_, rfl, ?_⟩; have n0_ := Aside0.mk (Kd.S_below (by (with_reducible repeat (first | apply Kd.S_alloc | apply Kd.S_drewN | apply Kd.S_drew)); exact HO_7.out) hb); have n1_ := Aside0.mk (blk_below (g := gb241) (o := .cells #[.string a0_0, .string a0_1, .int .i64 a0_2] 39 (0, 0)) (by (with_reducible repeat (first | refine blk_drewN ?_ _ | refine blk_drew ?_ | refine blk_alloc ?_ _)); exact BK241.out) hb); have n2_ := Aside0.mk (below_step (by repeat (first | (with_reducible first | exact HB.out | apply below_alloc | apply pw_below_drewN | apply below_drew1 | refine below_set ?_ GE241.out) | exact HB.out)) hb); clear HO_7; clear BK241; clear HB; have HO_7 := n0_; have BK241 := n1_; have HB := n2_; clear n0_ n1_ n2_; (try clear hb); (try clear hb2); (try clear hk); (try clear hi)) | ((with_reducible refine gate_dst (N := 27) rfl ?_); refine Kd.R_make (Kd.int .i64) _ 3 rfl (N := 27) rfl 25 _ _ rfl t245 rfl rfl Tryd.underlying25 (.int .i64 0) 8 info3 rfl (by decide) (by omega) 0 (ok := fun _ => True) (okp := fun _ => True) rfl (fun _ hk => hk) trivial (of_decide_eq_true (by first | (with_reducible assumption) | assumption)) (Nat.le_trans (Nat.mul_le_mul_right _ (of_decide_eq_true (by first | (with_reducible assumption) | assumption) : t245.toNat ≤ 35184372088832)) (by omega)) (Below.refl _ _) (Nat.le_refl _) ?_; intro v247 w20 ho21 hb hg_ hnew_; clear hg_ hnew_; (first | rw [← Ny246.out] at ho21 | (simp only [Int.reduceToNat] at ho21; rw [← Ny246.out] at ho21)); have n0_ := Aside0.mk (Kd.S_elder' (by (with_reducible repeat (first | apply Kd.S_alloc | apply Kd.S_drewN | apply Kd.S_drew)); exact HO_7.out) (Kd.R_base ho21) hb); have n1_ := Aside0.mk (Kd.R_lower ho21 (below_size (by repeat (first | (with_reducible first | exact HB.out | apply below_alloc | apply pw_below_drewN | apply below_drew1 | refine below_set ?_ GE241.out) | exact HB.out)))); have n2_ := Aside0.mk (blk_below (g := gb241) (o := .cells #[.string a0_0, .string a0_1, .int .i64 a0_2] 39 (0, 0)) (by (with_reducible repeat (first | refine blk_drewN ?_ _ | refine blk_drew ?_ | refine blk_alloc ?_ _)); exact BK241.out) hb); have n3_ := Aside0.mk (below_step (by repeat (first | (with_reducible first | exact HB.out | apply below_alloc | apply pw_below_drewN | apply below_drew1 | refine below_set ?_ GE241.out) | exact HB.out)) hb); clear HO_7; clear BK241; clear HB; have HO_7 := n0_; have HO248 := n1_; have BK241 := n2_; have HB := n3_; clear n0_ n1_ n2_ n3_; clear hb ho21; obtain ⟨AoZ, coZ, eoZ⟩ := Kd.R_slice HO248.out; subst eoZ; have p17 : 0 ≤ (x20_1 : Int) := of_decide_eq_true (by first | (with_reducible assumption) | assumption); have q17 : (x20_1 : Int) < ((x7_1.length : Int) : Int) := of_decide_eq_true (by first | (with_reducible assumption) | assumption); obtain ⟨go17, co17, eo17, gb17, gl17, cl17, HG17⟩ := Kd.S_form HO_7.out (by omega); (first | cases eo17 | (injection eo17 with ea_ en_ ec_; (first | subst ea_ | (injection ea_ with ea_; subst ea_)); subst ec_; clear en_)); have GB17 := Aside0.mk gb17; have GG17 := Aside0.mk HG17; clear gb17 gl17 HG17; obtain ⟨_, ce17, hcl17, hM17, hcc17, hfr17, _, _⟩ := Kd.S_elem HO_7.out [] (x20_1 : Int) p17 q17; obtain ⟨ve17_0, rfl, ge17_0⟩ := hM17; have hx17_0 := hcc17 0 _ rfl; have hf17_0 := hfr17 0; (try simp only [show ((Kd.slice 3 (Kd.int .i64))).sz = 1 from rfl, Nat.mul_one, Nat.add_zero] at hx17_0); (try simp only [show ((Kd.slice 3 (Kd.int .i64))).sz = 1 from rfl, Nat.mul_one, Nat.add_zero] at hf17_0); ((try clear hM17); clear hcl17 hcc17 hfr17); replace p17 := eq_true p17; replace q17 := eq_true q17; have n_ := Aside0.mk (Kd.S_mono (ok' := (fun k_ => some k_ ≠ ((Value.slice AoZ y246.length coZ) : Value).ownBlock)) HO_7.out (fun k_ hk => hk.2)); clear HO_7; have HO_7 := n_; clear n_; have HX22 := Aside0.mk (show Kd.S (Kd.slice 3 (Kd.int .i64)) 25 w20 w.heap.size (fun k_ => ((fun _ => True)) k_ ∧ ¬ ((fun k_ => some k_ = ((Value.slice AoZ y246.length coZ) : Value).ownBlock)) k_) (.slice (some ⟨go17, 0, none⟩) x7_1.length co10) x7_1 from (by (with_reducible repeat (first | apply Kd.S_alloc | apply Kd.S_drewN | apply Kd.S_drew)); exact Kd.S_mono HO_7.out (fun k_ hk => ⟨trivial, fun e_ => hk e_⟩))); obtain ⟨oki22, ce22, hcl22, hM22, hcc22, hfr22, hoki22, hH22⟩ := Kd.S_elem HX22.out [] (x20_1 : Int) (of_decide_eq_true (by first | (with_reducible assumption) | assumption)) (by have h_ : (x20_1 : Int) < ((x7_1.length : Int) : Int) := of_decide_eq_true (by first | (with_reducible assumption) | assumption); first | exact h_ | (have e_ := (Kd.S_reads' HO_7.out).1; omega) | simpa using h_); obtain ⟨ve22_0, rfl, ge22_0⟩ := hM22; have HP22 := Kd.S_seg hH22 (of_decide_eq_true (by first | (with_reducible assumption) | assumption)) (by have h_ : (x20_1 : Int) < ((x7_1.length : Int) : Int) := of_decide_eq_true (by first | (with_reducible assumption) | assumption); first | exact h_ | (have e_ := (Kd.S_reads' HO_7.out).1; omega) | simpa using h_) (seg := [(Value.slice AoZ y246.length coZ)]) (j := 0) (show 1 ≤ 1 from by decide) (x' := y246) (Kd.M_row (Kd.R_mono (Kd.R_tight rfl (Kd.R_mono (ok' := fun k_ => ((fun _ => True)) k_ ∧ k_ ≠ go17) (Kd.R_apart' (HO248.out) (Kd.S_typed HO_7.out) (by decide)) (fun k_ hk => ⟨trivial, fun e_ => (hk.2) (by rw [e_]; rfl)⟩))) (fun _ h_ => Or.inr (h_)))) (fun _ hk => hk) (fun k_ hk_ => ((Kd.R_mono (ok' := fun k_ => ((fun _ => True)) k_ ∧ k_ ≠ go17) (Kd.R_apart' (HO248.out) (Kd.S_typed HO_7.out) (by decide)) (fun k_ hk => ⟨trivial, fun e_ => (hk.2) (by rw [e_]; rfl)⟩))).1 k_ hk_.symm); have hx22_0 := hcc22 0 _ rfl; (try simp only [show ((Kd.slice 3 (Kd.int .i64))).sz = 1 from rfl, Nat.mul_one, Nat.add_zero] at hx22_0); have hf22_0 := hfr22 0; (try simp only [show ((Kd.slice 3 (Kd.int .i64))).sz = 1 from rfl, Nat.mul_one, Nat.add_zero] at hf22_0); ((try clear hM22); clear hcl22 hcc22 hfr22 hoki22 hH22); (try simp only [show ((Kd.slice 3 (Kd.int .i64))).sz = 1 from rfl, Nat.mul_one, Nat.add_zero] at HP22)) | ((with_reducible refine gate_store (t := 25) (p := 28) rfl ?_); refine store_event (t := 25) (p := 28) (v := ?vo_w23) (w1 := (w20.setCell ⟨go17, (x20_1 : Int).toNat, none⟩ ((Value.slice AoZ y246.length coZ)))) ?hg ?ho ?hn ?hr ?_; (case ho => rfl); (case hg => rfl); (case hn => rfl); (case hr => first | (go_simp; done) | (go_simp; rfl)); intro w23 hw; have hg : w20.grownBy w23 (some go17) := (by rw [hw]; exact HP22.2); have hp_ : Kd.S (Kd.slice 3 (Kd.int .i64)) 25 w23 w.heap.size (fun _ => True) (.slice (some ⟨go17, 0, none⟩) x7_1.length co10) y249 := (by rw [hw, Ny249.out]; exact HP22.1); clear HP22; have n0_ := Aside0.mk (hp_); have n1_ := Aside0.mk (blk_grown (g := gb241) (o := .cells #[.string a0_0, .string a0_1, .int .i64 a0_2] 39 (0, 0)) (by (with_reducible repeat (first | refine blk_drewN ?_ _ | refine blk_drew ?_ | refine blk_alloc ?_ _)); exact BK241.out) hg (Kd.S_ne HO_7.out BK241.out (by decide))); have n2_ := Aside0.mk ((by rw [hw]; exact below_set (HB.out) GB17.out : Below w.heap.size w w23)); clear HO_7; clear BK241; clear HB; clear HO248; have HO_7 := n0_; have BK241 := n1_; have HB := n2_; clear n0_ n1_ n2_; clear hg hw hp_))
                    (try simp only [← hl7_1])
                    go_roundg k1
                    case measure => have := HK1.out; omega
                    case rel => exact ⟨(y249), (wrap64 (x20_1 + 1)), (by first | rfl | (simp; done) | (simp [*]; done)), H', ⟨by have := HK1.out; omega⟩, ⟨by (try simp only [hl7_1]); (with_reducible repeat (first | apply Kd.S_alloc | apply Kd.S_drewN | apply Kd.S_drew)); exact HO_7.out⟩, ⟨by (try simp only [hl7_1]); (with_reducible repeat (first | refine blk_drewN ?_ _ | refine blk_drew ?_ | refine blk_alloc ?_ _)); exact BK241.out⟩, ⟨by repeat (first | (with_reducible first | exact HB.out | apply below_alloc | apply pw_below_drewN | apply below_drew1 | refine below_set ?_ GE241.out) | exact HB.out)⟩⟩
                  · rw [if_neg c16] at H
                    exact absurd H (by simp)
                · rw [if_neg c15] at H
                  exact absurd H (by simp)
              · rw [if_neg c14] at H
                exact absurd H (by simp)
            · rw [if_neg c13] at H
              exact absurd H (by simp)
          · rw [if_neg c11] at H
            have c11b0 : decide (x20_1 < (y242.length : Int)) = false := decide_eq_false c11
            have c11b0z := c11b0
            (try simp only [hl7_1] at c11b0z)
            have c11b0z := c11b0
            (try simp only [hl7_1] at c11b0z)
            have c11b0z := c11b0
            (try simp only [hl7_1] at c11b0z)
            clear c11
            obtain ⟨ji24, hji24⟩ : ∃ j_ : Int, (wrap64 (a2 - a1)) = j_ := ⟨_, rfl⟩
            replace H : (if 0 ≤ (ji24) then (if (ji24) < (x7_1.length : Int) then ((impl_crossing_places.f a0_0 a0_1 a0_2).bind fun t251 => (if 0 ≤ (wrap64 (t251 - 1)) then (if (wrap64 (t251 - 1)) < ((rd_L3 x7_1 (ji24)).length : Int) then (impl_crossing_counts.l1 k1 a1 (x7_1.set ((ji24) : Int).toNat ((rd_L3 x7_1 (ji24)).set ((wrap64 (t251 - 1)) : Int).toNat 1)) (wrap64 ((ji24) - 1)) a0_0 a0_1 a0_2) else (none)) else (none))) else (none)) else (none)) = some r := by first | (rw [hji24] at H; exact H) | (simp only [hji24] at H ⊢; exact H)
            have hji24w : (IntKind.i64.wrap (a2 - a1)) = ji24 := (i64_w _).trans hji24
            by_cases c25 : 0 ≤ (ji24)
            · rw [if_pos c25] at H
              have c25b0 : decide (0 ≤ (ji24)) = true := decide_eq_true c25
              clear c25
              by_cases c26 : (ji24) < (x7_1.length : Int)
              · rw [if_pos c26] at H
                have c26b0 : decide ((ji24) < (x7_1.length : Int)) = true := decide_eq_true c26
                clear c26
                replace H := Option.bind_eq_some_iff.mp H
                obtain ⟨t251, A270, H⟩ := H
                replace H : (if 0 ≤ (wrap64 (t251 - 1)) then (if (wrap64 (t251 - 1)) < ((rd_L3 x7_1 (ji24)).length : Int) then (impl_crossing_counts.l1 k1 a1 (x7_1.set ((ji24) : Int).toNat ((rd_L3 x7_1 (ji24)).set ((wrap64 (t251 - 1)) : Int).toNat 1)) (wrap64 ((ji24) - 1)) a0_0 a0_1 a0_2) else (none)) else (none)) = some r := H
                have A27 := Aside0.mk A270
                clear A270
                obtain ⟨ji28, hji28⟩ : ∃ j_ : Int, (wrap64 (t251 - 1)) = j_ := ⟨_, rfl⟩
                replace H : (if 0 ≤ (ji28) then (if (ji28) < ((rd_L3 x7_1 (ji24)).length : Int) then (impl_crossing_counts.l1 k1 a1 (x7_1.set ((ji24) : Int).toNat ((rd_L3 x7_1 (ji24)).set ((ji28) : Int).toNat 1)) (wrap64 ((ji24) - 1)) a0_0 a0_1 a0_2) else (none)) else (none)) = some r := by first | (rw [hji28] at H; exact H) | (simp only [hji28] at H ⊢; exact H)
                (try rw [hji28] at A27)
                have hji28w : (IntKind.i64.wrap (t251 - 1)) = ji28 := (i64_w _).trans hji28
                by_cases c29 : 0 ≤ (ji28)
                · rw [if_pos c29] at H
                  have c29b0 : decide (0 ≤ (ji28)) = true := decide_eq_true c29
                  clear c29
                  by_cases c30 : (ji28) < ((rd_L3 x7_1 (ji24)).length : Int)
                  · rw [if_pos c30] at H
                    have c30b0 : decide ((ji28) < ((rd_L3 x7_1 (ji24)).length : Int)) = true := decide_eq_true c30
                    clear c30
                    obtain ⟨y252, hy252⟩ : ∃ y_ : List Int, y_ = ((rd_L3 x7_1 (ji24)).set ((ji28) : Int).toNat 1) := ⟨_, rfl⟩
                    replace H : (impl_crossing_counts.l1 k1 a1 (x7_1.set ((ji24) : Int).toNat y252) (wrap64 ((ji24) - 1)) a0_0 a0_1 a0_2) = some r := by first | (rw [hy252]; with_reducible exact H) | (have H2_ := (Option.bind_some _ _).symm.trans H; rw [hy252]; with_reducible exact H2_) | (have H2_ := (Option.bind_some _ _).symm.trans H; with_reducible exact H2_) | with_reducible exact H | (rw [hy252]; exact H) | exact H
                    have Ny252 := Aside0.mk hy252
                    clear hy252
                    obtain ⟨y254, hy254⟩ : ∃ y_ : List (List Int), y_ = (x7_1.set ((ji24) : Int).toNat y252) := ⟨_, rfl⟩
                    replace H : (impl_crossing_counts.l1 k1 a1 y254 (wrap64 ((ji24) - 1)) a0_0 a0_1 a0_2) = some r := by first | (rw [hy254]; with_reducible exact H) | (have H2_ := (Option.bind_some _ _).symm.trans H; rw [hy254]; with_reducible exact H2_) | (have H2_ := (Option.bind_some _ _).symm.trans H; with_reducible exact H2_) | with_reducible exact H | (rw [hy254]; exact H) | exact H
                    have Ny254 := Aside0.mk hy254
                    clear hy254
                    have H' := Aside0.mk H
                    clear H
                    try go_wp2
                    have n0_ := Aside0.mk (Kd.S_drew HO_7.out)
                    have n1_ := Aside0.mk (blk_drew BK241.out)
                    have n2_ := Aside0.mk (below_drew1 HB.out)
                    clear HO_7
                    clear BK241
                    clear HB
                    have HO_7 := n0_
                    have BK241 := n1_
                    have HB := n2_
                    clear n0_ n1_ n2_
                    have p250 : 0 ≤ ((ji24) : Int) := of_decide_eq_true (by first | (with_reducible assumption) | assumption)
                    have q250 : (ji24) < (x7_1.length : Int) := of_decide_eq_true (by first | (with_reducible assumption) | assumption)
                    obtain ⟨ad250, A250_0, c250_0, e250, hx250_0, hl250_0, hi250_0⟩ := at_L3 (Kd.S_reads' HO_7.out).2.2 (ji24) p250 q250
                    cases e250
                    obtain ⟨ce250, hce250, hMe250, hcc250⟩ := Kd.S_get HO_7.out [] (ji24) p250 (by first | exact q250 | exact of_decide_eq_true (by first | (with_reducible assumption) | assumption) | (have e_ := (Kd.S_reads' HO_7.out).1; omega))
                    obtain ⟨ve250_0, rfl, ge250_0⟩ := hMe250
                    have hv250_0 := hcc250 0 _ rfl
                    rw [Nat.add_zero, show ((Kd.slice 3 (Kd.int .i64))).sz = 1 from rfl, Nat.mul_one] at hv250_0
                    replace hv250_0 := Option.some.inj (hv250_0.symm.trans hx250_0)
                    rw [hv250_0] at ge250_0
                    have HL250_0 := Aside0.mk (show Kd.R (Kd.int .i64) 3 _ _ _ _ (rd_L3 x7_1 (ji24)) from ge250_0)
                    clear hv250_0 ge250_0
                    have HX250_0 := Aside0.mk hx250_0
                    clear hcc250 hce250
                    have HR250_0 := Aside0.mk hi250_0
                    have HC250_0 := Aside0.mk hl250_0
                    clear hi250_0 hl250_0
                    replace p250 := eq_true p250
                    replace q250 := eq_true q250
                    refine start_ (n := 11) (S := fun w' => w'.cell? ⟨gb241, 0, none⟩ = some (.string a0_0) ∧ w'.cell? ⟨gb241, 1, none⟩ = some (.string a0_1) ∧ w'.cell? ⟨gb241, 2, none⟩ = some (.int .i64 a0_2) ∧ w'.cell? (ad250.add ((ji24)).toNat) = some (.slice A250_0 (rd_L3 x7_1 (ji24)).length c250_0)) (ds := [10]) #[false, false, false, false, false, false, false, false, false, false, false] (by kernel_rfl) rfl rfl ⟨(blk_cell BK241.out 0).trans rfl, (blk_cell BK241.out 1).trans rfl, (blk_cell BK241.out 2).trans rfl, hx250_0⟩ (fun hHeld => ?_); refine with_tabW impl_crossing_counts.tab7 impl_crossing_counts.bits7 (fun HT_ HW_ => ?_)
                    generalize wr.drew = w32 at HO_7 BK241 HB HL250_0 HR250_0 HX250_0 hx250_0 hHeld ⊢
                    refine pure_ (i := 0) (N := some 30) (v := ?_) (a' := ?_) #[true, false, false, false, false, false, false, false, false, false, false] rfl rfl (any_of HT_.out (by kernel_rfl)) (fun _ _ _ h => h) (Or.inl ⟨by rfl, ?_⟩) ?_ ?_
                    rotate_left
                    · intro w'
                      go_simp
                      with_reducible rfl
                    rotate_left
                    · simp only [Act.put, List.setIfInBounds_toArray, List.set_cons_zero, List.set_cons_succ, i64_w, i32_w]
                      rfl
                    refine pure_ (i := 1) (N := some 31) (v := ?_) (a' := ?_) #[true, true, false, false, false, false, false, false, false, false, false] rfl rfl (any_of HT_.out (by kernel_rfl)) (fun _ _ _ h => h) (Or.inl ⟨by rfl, ?_⟩) ?_ ?_
                    rotate_left
                    · intro w'
                      go_simp
                      with_reducible rfl
                    rotate_left
                    · simp only [Act.put, List.setIfInBounds_toArray, List.set_cons_zero, List.set_cons_succ, i64_w, i32_w]
                      rfl
                    refine pure_ (i := 2) (N := some 32) (v := ?_) (a' := ?_) #[true, true, true, false, false, false, false, false, false, false, false] rfl rfl (any_of HT_.out (by kernel_rfl)) (fun _ _ _ h => h) (Or.inl ⟨by rfl, ?_⟩) ?_ ?_
                    rotate_left
                    · intro w'
                      go_simp
                      with_reducible rfl
                    rotate_left
                    · simp only [Act.put, List.setIfInBounds_toArray, List.set_cons_zero, List.set_cons_succ, i64_w, i32_w]
                      rfl
                    refine pure_ (i := 3) (N := some 33) (v := ?_) (a' := ?_) #[true, true, true, true, false, false, false, false, false, false, false] rfl rfl (any_of HT_.out (by kernel_rfl)) (fun _ _ _ h => h) (Or.inl ⟨by rfl, ?_⟩) ?_ ?_
                    rotate_left
                    · intro w'
                      go_simp
                      with_reducible rfl
                    rotate_left
                    · simp only [Act.put, List.setIfInBounds_toArray, List.set_cons_zero, List.set_cons_succ, i64_w, i32_w]
                      rfl
                    refine pure_ (i := 4) (N := some 34) (v := ?_) (a' := ?_) #[true, true, true, true, true, false, false, false, false, false, false] rfl rfl (any_of HT_.out (by kernel_rfl)) (fun _ _ _ h => h) (Or.inl ⟨by rfl, ?_⟩) ?_ ?_
                    rotate_left
                    · intro w'
                      go_simp
                      with_reducible rfl
                    rotate_left
                    · simp only [Act.put, List.setIfInBounds_toArray, List.set_cons_zero, List.set_cons_succ, i64_w, i32_w]
                      rfl
                    refine take_ (i := 5) (N := some 35) (v := ?_) (a' := ?_) #[true, true, true, true, true, true, false, false, false, false, false] rfl rfl (take_ofW HT_.out HW_.out (by kernel_rfl)) (fun _ _ _ h => h) (Or.inl ⟨by rfl, ?_⟩) hHeld ?_ ?_
                    rotate_left
                    · rintro w' ⟨s0, s1, s2, s3⟩
                      go_simp
                      with_reducible rfl
                    rotate_left
                    · simp only [Act.put, List.setIfInBounds_toArray, List.set_cons_zero, List.set_cons_succ, i64_w, i32_w]
                      rfl
                    refine take_ (i := 6) (N := some 36) (v := ?_) (a' := ?_) #[true, true, true, true, true, true, true, false, false, false, false] rfl rfl (take_ofW HT_.out HW_.out (by kernel_rfl)) (fun _ _ _ h => h) (Or.inl ⟨by rfl, ?_⟩) hHeld ?_ ?_
                    rotate_left
                    · rintro w' ⟨s0, s1, s2, s3⟩
                      go_simp
                      with_reducible rfl
                    rotate_left
                    · simp only [Act.put, List.setIfInBounds_toArray, List.set_cons_zero, List.set_cons_succ, i64_w, i32_w]
                      rfl
                    refine one_ (i := 7) (N := some 37) #[true, true, true, true, true, true, true, true, false, false, false] rfl rfl (one_of HT_.out (by kernel_rfl)) (by decide) (fun K hK => ?_)
                    refine goes_ Tryd.func49 (by kernel_rfl) rfl #[.agg #[.string a0_0, .string a0_1, .int .i64 a0_2]] (by rfl) rfl rfl (by (try simp only [List.map_toArray, List.map_cons, List.map_nil]); first | done | rfl | (simp only [List.length_drop, List.length_take]; rfl)) ?_
                    with_reducible refine (impl_crossing_places.calls a0_0 a0_1 a0_2 t251 _ A27.out).mono ?_
                    rintro e w33 ⟨rfl, hb⟩
                    have HS3_ := (hb.cell (World.block_lt_of_cell? _ _ (hHeld.2.2.2))).trans (hHeld.2.2.2)
                    refine ⟨_, rfl, ?_⟩
                    have n0_ := Aside0.mk (Kd.S_below (by (with_reducible repeat (first | apply Kd.S_alloc | apply Kd.S_drewN | apply Kd.S_drew)); exact HO_7.out) hb)
                    have n1_ := Aside0.mk (Kd.R_below (by (with_reducible repeat (first | apply Kd.R_alloc | apply Kd.R_drewN | apply Kd.R_drew)); exact HL250_0.out) hb)
                    have n2_ := Aside0.mk (blk_below (g := gb241) (o := .cells #[.string a0_0, .string a0_1, .int .i64 a0_2] 39 (0, 0)) (by (with_reducible repeat (first | refine blk_drewN ?_ _ | refine blk_drew ?_ | refine blk_alloc ?_ _)); exact BK241.out) hb)
                    have n3_ := Aside0.mk (Kd.C_below (by repeat (first | (with_reducible exact HR250_0.out) | (with_reducible refine Kd.C_alloc ?_ _) | (with_reducible refine Kd.C_drewN ?_ _) | (with_reducible refine Kd.C_drew ?_) | exact HR250_0.out)) hb)
                    have n4_ := Aside0.mk (pw_cell_below hb HX250_0.out)
                    have n5_ := Aside0.mk (below_step (by repeat (first | (with_reducible first | exact HB.out | apply below_alloc | apply pw_below_drewN | apply below_drew1 | refine below_set ?_ GE241.out) | exact HB.out)) hb)
                    clear HO_7
                    clear HL250_0
                    clear BK241
                    clear HR250_0
                    clear HX250_0
                    clear HB
                    have HO_7 := n0_
                    have HL250_0 := n1_
                    have BK241 := n2_
                    have HR250_0 := n3_
                    have HX250_0 := n4_
                    have HB := n5_
                    clear n0_ n1_ n2_ n3_ n4_ n5_
                    (try clear hb)
                    (try clear hb2)
                    (try clear hk)
                    (try clear hi)
                    have p31 : 0 ≤ ((ji28) : Int) := of_decide_eq_true (by first | (with_reducible assumption) | assumption)
                    have q31 : ((ji28) : Int) < (((rd_L3 x7_1 (ji24)).length : Int) : Int) := of_decide_eq_true (by first | (with_reducible assumption) | assumption)
                    obtain ⟨go31, co31, eo31, gb31, gl31, cl31, HG31⟩ := Kd.R_form HL250_0.out (by omega)
                    (first | cases eo31 | (injection eo31 with ea_ en_ ec_; (first | subst ea_ | (injection ea_ with ea_; subst ea_)); subst ec_; clear en_))
                    have GB31 := Aside0.mk gb31
                    have GG31 := Aside0.mk HG31
                    clear gb31 gl31 HG31
                    obtain ⟨hx31_0, hf31_0⟩ := Kd.R_celln 0 HL250_0.out ((ji28) : Int) p31 q31
                    replace p31 := eq_true p31
                    replace q31 := eq_true q31
                    have hq34 : ((ji24) : Int) < (x7_1.length : Int) := (by have h_ : ((ji24) : Int) < ((x7_1.length : Int) : Int) := of_decide_eq_true (by first | (with_reducible assumption) | assumption); first | exact h_ | (have e_ := (Kd.S_reads' HO_7.out).1; omega) | simpa only [List.length_set, List.length_set] using h_)
                    obtain ⟨oki34, ce34, hcl34, hM34, hcc34, hok34, hbk34⟩ := Kd.S_borrow HO_7.out [] ((ji24) : Int) (of_decide_eq_true (by first | (with_reducible assumption) | assumption)) hq34
                    obtain ⟨ve34_0, rfl, ge34_0⟩ := hM34
                    have hv34 := hcc34 0 _ rfl
                    rw [Nat.add_zero, show ((Kd.slice 3 (Kd.int .i64))).sz = 1 from rfl, Nat.mul_one] at hv34
                    replace hv34 := Option.some.inj (hv34.symm.trans HX250_0.out)
                    subst hv34
                    clear hcc34 hcl34
                    replace ge34_0 := (show Kd.R (Kd.int .i64) 3 _ _ _ _ (rd_L3 x7_1 (ji24)) from ge34_0)
                    have HP34 := Kd.R_putg ge34_0 ((ji28) : Int) 1
                    rw [← Ny252.out] at HP34
                    have HS34 := hbk34 HP34.2 (fun k_ e_ => by injection e_ with e_; subst e_; exact ge34_0.1 _ rfl) (x' := y252) (Kd.M_row HP34.1)
                    rw [← Ny254.out] at HS34
                    have HQ34 := Aside0.mk HS34
                    clear HP34 HS34 hbk34 hok34
                    refine hK.out _ _ ⟨(blk_cell BK241.out 0).trans rfl, (blk_cell BK241.out 1).trans rfl, (blk_cell BK241.out 2).trans rfl, HS3_⟩ (fun hHeld => ?_)
                    clear hK K
                    refine norm_ (a' := ?_) ?_ ?_
                    rotate_left
                    · show Act.put _ (some 37) _ = _
                      simp only [Act.put, List.setIfInBounds_toArray, List.set_cons_zero, List.set_cons_succ, i64_w, i32_w]
                      rfl
                    refine pure_ (i := 8) (N := some 38) (v := ?_) (a' := ?_) #[true, true, true, true, true, true, true, true, true, false, false] rfl rfl (any_of HT_.out (by kernel_rfl)) (fun _ _ _ h => h) (Or.inl ⟨by rfl, ?_⟩) ?_ ?_
                    rotate_left
                    · intro w'
                      go_simp
                      with_reducible rfl
                    rotate_left
                    · simp only [Act.put, List.setIfInBounds_toArray, List.set_cons_zero, List.set_cons_succ, i64_w, i32_w]
                      rfl
                    refine pure_ (i := 9) (N := some 39) (v := ?_) (a' := ?_) #[true, true, true, true, true, true, true, true, true, true, false] rfl rfl (any_of HT_.out (by kernel_rfl)) (fun _ _ _ h => h) (Or.inl ⟨by rfl, ?_⟩) ?_ ?_
                    rotate_left
                    · intro w'
                      go_simp
                      with_reducible rfl
                    rotate_left
                    · simp only [Act.put, List.setIfInBounds_toArray, List.set_cons_zero, List.set_cons_succ, i64_w, i32_w]
                      rfl
                    refine last_ (i := 10) (N := none) #[true, true, true, true, true, true, true, true, true, true, true] rfl rfl (one_of HT_.out (by kernel_rfl)) (by decide) (fun K hK => ?_)
                    refine skip_ (w1 := ?_) (by rfl) rfl ?_ ?_
                    rotate_left
                    · go_simp
                      rfl
                    refine hK.out _ _ ?_
                    clear hK K
                    refine done_ (done_of HT_.out (by kernel_rfl)) ?_
                    try go_wp2
                    go_loopg [9] k1 (fun kq v9 w' => ∃ (x7_2 : List (List Int)) (x9_2 : Int), v9 = .int .i64 x9_2 ∧ Aside0 (impl_crossing_counts.l1 kq a1 x7_2 x9_2 a0_0 a0_1 a0_2 = some r) ∧ Aside0 (kq ≤ k1) ∧ Aside0 (Kd.S (Kd.slice 3 (Kd.int .i64)) 25 w' w.heap.size (fun _ => True) (.slice (some ad250) x7_1.length co10) x7_2) ∧ Aside0 (w'.heap[gb241]? = some (.cells #[.string a0_0, .string a0_1, .int .i64 a0_2] 39 (0, 0))) ∧ Aside0 (Below w.heap.size w w'))
                    case atStart => exact ⟨(y254), (wrap64 ((ji24) - 1)), (by first | rfl | (simp; done) | (simp only [← hji24] <;> (first | rfl | simp)) | (simp [*]; done)), H', ⟨Nat.le_refl _⟩, ⟨by (try simp only [hl7_1]); (with_reducible repeat (first | apply Kd.S_alloc | apply Kd.S_drewN | apply Kd.S_drew)); exact HQ34.out⟩, ⟨by (try simp only [hl7_1]); (with_reducible repeat (first | refine blk_drewN ?_ _ | refine blk_drew ?_ | refine blk_alloc ?_ _)); refine blk_far ?_ (by have h_ := Kd.R_ne HL250_0.out BK241.out (by decide); intro e_; exact h_ (by rw [e_]; rfl)) _; (with_reducible repeat (first | refine blk_drewN ?_ _ | refine blk_drew ?_ | refine blk_alloc ?_ _)); exact BK241.out⟩, ⟨by repeat (first | (with_reducible first | exact HB.out | apply below_alloc | apply pw_below_drewN | apply below_drew1 | refine below_set ?_ GB31.out | refine below_set ?_ GE241.out) | exact HB.out)⟩⟩
                    case round =>
                      clear H'
                      try clear c1
                      try clear p1
                      try clear q1
                      try clear hx1
                      try clear c2
                      try clear p2
                      try clear q2
                      try clear hx2
                      try clear c3
                      try clear p3
                      try clear q3
                      try clear hx3
                      try clear hf3
                      try clear c4
                      try clear c5
                      try clear c5b0
                      try clear c5b1
                      try clear c6
                      try clear c6b0
                      try clear c6b1
                      try clear p6
                      try clear c11
                      try clear c11b0
                      try clear c13
                      try clear c13b0
                      try clear c13b1
                      try clear c14
                      try clear c14b0
                      try clear c14b1
                      try clear c15
                      try clear c15b0
                      try clear c16
                      try clear c16b0
                      try clear c17
                      try clear p17
                      try clear q17
                      try clear hx17
                      try clear hf17
                      try clear c22
                      try clear hx22
                      try clear hf22
                      try clear c25
                      try clear c25b0
                      try clear p25
                      try clear q25
                      try clear hx25
                      try clear c26
                      try clear c26b0
                      try clear c29
                      try clear c29b0
                      try clear c30
                      try clear c30b0
                      try clear p31
                      try clear q31
                      try clear hx31
                      try clear hf31
                      try clear c34
                      try clear q34
                      try clear hcz18_0
                      try clear hcz18_1
                      try clear hcz18_2
                      try clear hfz18_0
                      try clear hfz18_1
                      try clear hfz18_2
                      try clear hx17_0
                      try clear hx22_0
                      try clear hx250_0
                      try clear hx31_0
                      try clear p17
                      try clear p2
                      try clear p250
                      try clear p31
                      try clear p6
                      try clear q17
                      try clear q250
                      try clear q31
                      obtain ⟨x7_2, x9_2, rfl, HA, HK2, HO_7, BK241, HB⟩ := hrel
                      have hl7_2 := (Kd.S_reads' HO_7.out).1
                      rw [hl7_2] at HO_7
                      (try simp only [hl7_2])
                      (try simp only [hl7_2] at BK241)
                      cases gk with
                      | zero => exact absurd HA.out (by simp [impl_crossing_counts.l1])
                      | succ k2 =>
                        have H := HA.out
                        clear HA
                        simp only [impl_crossing_counts.l1] at H
                        by_cases c36 : x9_2 ≥ 0
                        · rw [if_pos c36] at H
                          have c36b0 : decide (0 ≤ x9_2) = true := decide_eq_true c36
                          clear c36
                          replace H := Option.bind_eq_some_iff.mp H
                          obtain ⟨t255, A370, H⟩ := H
                          replace H : (impl_crossing_counts.l2 k2 a1 x7_2 x9_2 (wrap64 (t255 - 1)) 0 a0_0 a0_1 a0_2) = some r := H
                          have A37 := Aside0.mk A370
                          clear A370
                          have H' := Aside0.mk H
                          clear H
                          have hcz38_0 : wr.cell? ⟨gb241, 0, none⟩ = some (.string a0_0) := (blk_cell BK241.out 0).trans rfl
                          have hcz38_1 : wr.cell? ⟨gb241, 1, none⟩ = some (.string a0_1) := (blk_cell BK241.out 1).trans rfl
                          have hcz38_2 : wr.cell? ⟨gb241, 2, none⟩ = some (.int .i64 a0_2) := (blk_cell BK241.out 2).trans rfl
                          have hfz38_0 := blk_frozen BK241.out 0
                          have hfz38_1 := blk_frozen BK241.out 1
                          have hfz38_2 := blk_frozen BK241.out 2
                          go_wp2_with (first | ((with_reducible refine gate_callee (f := 49) rfl ?_); refine goesL_ (some 49) rfl rfl Tryd.func49 (by kernel_rfl) rfl #[.agg #[.string a0_0, .string a0_1, .int .i64 a0_2]] rfl (by (try simp only [List.map_toArray, List.map_cons, List.map_nil]); first | done | rfl | (simp only [List.length_drop, List.length_take]; rfl)) ?_; (with_reducible refine (impl_crossing_places.calls a0_0 a0_1 a0_2 t255 _ A37.out).mono ?_); rintro e w39 ⟨rfl, hb⟩; refine ⟨_, rfl, ?_⟩; have n0_ := Aside0.mk (Kd.S_below (by (with_reducible repeat (first | apply Kd.S_alloc | apply Kd.S_drewN | apply Kd.S_drew)); exact HO_7.out) hb); have n1_ := Aside0.mk (blk_below (g := gb241) (o := .cells #[.string a0_0, .string a0_1, .int .i64 a0_2] 39 (0, 0)) (by (with_reducible repeat (first | refine blk_drewN ?_ _ | refine blk_drew ?_ | refine blk_alloc ?_ _)); exact BK241.out) hb); have n2_ := Aside0.mk (below_step (by repeat (first | (with_reducible first | exact HB.out | apply below_alloc | apply pw_below_drewN | apply below_drew1 | refine below_set ?_ GE241.out) | exact HB.out)) hb); clear HO_7; clear BK241; clear HB; have HO_7 := n0_; have BK241 := n1_; have HB := n2_; clear n0_ n1_ n2_; (try clear hb); (try clear hb2); (try clear hk); (try clear hi)))
                          go_loopg [51] k2 (fun kq v51 w' => ∃ (x7_3 : List (List Int)) (x51_3 : Int), v51 = .int .i64 x51_3 ∧ Aside0 (impl_crossing_counts.l2 kq a1 x7_3 x9_2 (wrap64 (t255 - 1)) x51_3 a0_0 a0_1 a0_2 = some r) ∧ Aside0 (kq ≤ k2) ∧ Aside0 (Kd.S (Kd.slice 3 (Kd.int .i64)) 25 w' w.heap.size (fun _ => True) (.slice (some ad250) x7_2.length co10) x7_3) ∧ Aside0 (w'.heap[gb241]? = some (.cells #[.string a0_0, .string a0_1, .int .i64 a0_2] 39 (0, 0))) ∧ Aside0 (Below w.heap.size w w'))
                          case atStart => exact ⟨(x7_2), (0), (by first | rfl | (simp; done) | (simp [*]; done)), H', ⟨Nat.le_refl _⟩, ⟨by (try simp only [hl7_1]); (try simp only [hl7_2]); (with_reducible repeat (first | apply Kd.S_alloc | apply Kd.S_drewN | apply Kd.S_drew)); exact HO_7.out⟩, ⟨by (try simp only [hl7_1]); (try simp only [hl7_2]); (with_reducible repeat (first | refine blk_drewN ?_ _ | refine blk_drew ?_ | refine blk_alloc ?_ _)); exact BK241.out⟩, ⟨by repeat (first | (with_reducible first | exact HB.out | apply below_alloc | apply pw_below_drewN | apply below_drew1 | refine below_set ?_ GE241.out) | exact HB.out)⟩⟩
                          case round =>
                            clear H'
                            try clear c1
                            try clear p1
                            try clear q1
                            try clear hx1
                            try clear c2
                            try clear p2
                            try clear q2
                            try clear hx2
                            try clear c3
                            try clear p3
                            try clear q3
                            try clear hx3
                            try clear hf3
                            try clear c4
                            try clear c5
                            try clear c5b0
                            try clear c5b1
                            try clear c6
                            try clear c6b0
                            try clear c6b1
                            try clear p6
                            try clear c11
                            try clear c11b0
                            try clear c13
                            try clear c13b0
                            try clear c13b1
                            try clear c14
                            try clear c14b0
                            try clear c14b1
                            try clear c15
                            try clear c15b0
                            try clear c16
                            try clear c16b0
                            try clear c17
                            try clear p17
                            try clear q17
                            try clear hx17
                            try clear hf17
                            try clear c22
                            try clear hx22
                            try clear hf22
                            try clear c25
                            try clear c25b0
                            try clear p25
                            try clear q25
                            try clear hx25
                            try clear c26
                            try clear c26b0
                            try clear c29
                            try clear c29b0
                            try clear c30
                            try clear c30b0
                            try clear p31
                            try clear q31
                            try clear hx31
                            try clear hf31
                            try clear c34
                            try clear q34
                            try clear c36
                            try clear c36b0
                            try clear c37
                            try clear hcz18_0
                            try clear hcz18_1
                            try clear hcz18_2
                            try clear hcz38_0
                            try clear hcz38_1
                            try clear hcz38_2
                            try clear hfz18_0
                            try clear hfz18_1
                            try clear hfz18_2
                            try clear hfz38_0
                            try clear hfz38_1
                            try clear hfz38_2
                            try clear hx17_0
                            try clear hx22_0
                            try clear hx250_0
                            try clear hx31_0
                            try clear p1
                            try clear p17
                            try clear p2
                            try clear p25
                            try clear p250
                            try clear p3
                            try clear p31
                            try clear p6
                            try clear q1
                            try clear q17
                            try clear q2
                            try clear q25
                            try clear q250
                            try clear q3
                            try clear q31
                            try clear q34
                            obtain ⟨x7_3, x51_3, rfl, HA, HK3, HO_7, BK241, HB⟩ := hrel
                            have hl7_3 := (Kd.S_reads' HO_7.out).1
                            rw [hl7_3] at HO_7
                            (try simp only [hl7_3])
                            (try simp only [hl7_3] at BK241)
                            cases gk with
                            | zero => exact absurd HA.out (by simp [impl_crossing_counts.l2])
                            | succ k3 =>
                              have H := HA.out
                              clear HA
                              simp only [impl_crossing_counts.l2] at H
                              by_cases c40 : x51_3 < (wrap64 (t255 - 1))
                              · rw [if_pos c40] at H
                                have c40b0 : decide (x51_3 < (wrap64 (t255 - 1))) = true := decide_eq_true c40
                                clear c40
                                obtain ⟨ji41, hji41⟩ : ∃ j_ : Int, (wrap64 (x9_2 + 1)) = j_ := ⟨_, rfl⟩
                                replace H : (if 0 ≤ (ji41) then (if (ji41) < (x7_3.length : Int) then (impl_crossing_counts.l3 k3 a1 x7_3 x9_2 x51_3 (wrap64 (t255 - 1)) x51_3 (rd_L3 x7_3 (ji41)) ((rd_L3 x7_3 (ji41)).length : Int) 0 a0_0 a0_1 a0_2) else (none)) else (none)) = some r := by first | (rw [hji41] at H; exact H) | (simp only [hji41] at H ⊢; exact H)
                                have hji41w : (IntKind.i64.wrap (x9_2 + 1)) = ji41 := (i64_w _).trans hji41
                                by_cases c42 : 0 ≤ (ji41)
                                · rw [if_pos c42] at H
                                  have c42b0 : decide (0 ≤ (ji41)) = true := decide_eq_true c42
                                  clear c42
                                  by_cases c43 : (ji41) < (x7_3.length : Int)
                                  · rw [if_pos c43] at H
                                    have c43b0 : decide ((ji41) < (x7_3.length : Int)) = true := decide_eq_true c43
                                    clear c43
                                    have H' := Aside0.mk H
                                    clear H
                                    have p256 : 0 ≤ ((ji41) : Int) := of_decide_eq_true (by first | (with_reducible assumption) | assumption)
                                    have q256 : (ji41) < (x7_3.length : Int) := of_decide_eq_true (by first | (with_reducible assumption) | assumption)
                                    obtain ⟨ad256, A256_0, c256_0, e256, hx256_0, hl256_0, hi256_0⟩ := at_L3 (Kd.S_reads' HO_7.out).2.2 (ji41) p256 q256
                                    obtain rfl : ad250 = ad256 := (by injection e256)
                                    obtain ⟨ce256, hce256, hMe256, hcc256⟩ := Kd.S_get HO_7.out [] (ji41) p256 (by first | exact q256 | exact of_decide_eq_true (by first | (with_reducible assumption) | assumption) | (have e_ := (Kd.S_reads' HO_7.out).1; omega))
                                    obtain ⟨ve256_0, rfl, ge256_0⟩ := hMe256
                                    have hv256_0 := hcc256 0 _ rfl
                                    rw [Nat.add_zero, show ((Kd.slice 3 (Kd.int .i64))).sz = 1 from rfl, Nat.mul_one] at hv256_0
                                    replace hv256_0 := Option.some.inj (hv256_0.symm.trans hx256_0)
                                    rw [hv256_0] at ge256_0
                                    have HL256_0 := Aside0.mk (show Kd.R (Kd.int .i64) 3 _ _ _ _ (rd_L3 x7_3 (ji41)) from ge256_0)
                                    clear hv256_0 ge256_0
                                    have HX256_0 := Aside0.mk hx256_0
                                    clear hcc256 hce256
                                    have HR256_0 := Aside0.mk hi256_0
                                    have HC256_0 := Aside0.mk hl256_0
                                    clear hi256_0 hl256_0
                                    replace p256 := eq_true p256
                                    replace q256 := eq_true q256
                                    have PJ_ := Aside0.mk (of_decide_eq_true c42b0)
                                    have QJ_ := Aside0.mk (of_decide_eq_true c43b0)
                                    have HE_ := HX256_0
                                    go_wp2
                                    go_loopg [60] k3 (fun kq v60 w' => ∃ (x7_4 : List (List Int)) (x60_4 : Int), v60 = .int .i64 x60_4 ∧ Aside0 (impl_crossing_counts.l3 kq a1 x7_4 x9_2 x51_3 (wrap64 (t255 - 1)) x51_3 (rd_L3 x7_3 (ji41)) ((rd_L3 x7_3 (ji41)).length : Int) x60_4 a0_0 a0_1 a0_2 = some r) ∧ Aside0 (kq ≤ k3) ∧ Aside0 (Kd.S (Kd.slice 3 (Kd.int .i64)) 25 w' w.heap.size (fun _ => True) (.slice (some ad250) x7_3.length co10) x7_4) ∧ Aside0 (w'.heap[gb241]? = some (.cells #[.string a0_0, .string a0_1, .int .i64 a0_2] 39 (0, 0))) ∧ Aside0 (Below w.heap.size w w') ∧ Aside0 (w'.cell? (ad250.add (ji41 : Int).toNat) = some (.slice A256_0 (rd_L3 x7_3 (ji41)).length c256_0)) ∧ Aside0 (rd_L3 x7_4 (ji41) = rd_L3 x7_3 (ji41)))
                                    case atStart => exact ⟨(x7_3), (0), (by first | rfl | (simp; done) | (simp [*]; done)), H', ⟨Nat.le_refl _⟩, ⟨by (try simp only [hl7_1]); (try simp only [hl7_2]); (try simp only [hl7_3]); (with_reducible repeat (first | apply Kd.S_alloc | apply Kd.S_drewN | apply Kd.S_drew)); exact HO_7.out⟩, ⟨by (try simp only [hl7_1]); (try simp only [hl7_2]); (try simp only [hl7_3]); (with_reducible repeat (first | refine blk_drewN ?_ _ | refine blk_drew ?_ | refine blk_alloc ?_ _)); exact BK241.out⟩, ⟨by repeat (first | (with_reducible first | exact HB.out | apply below_alloc | apply pw_below_drewN | apply below_drew1 | refine below_set ?_ GE241.out) | exact HB.out)⟩, ⟨HE_.out⟩, ⟨rfl⟩⟩
                                    case round =>
                                      clear H'
                                      try clear c1
                                      try clear p1
                                      try clear q1
                                      try clear hx1
                                      try clear c2
                                      try clear p2
                                      try clear q2
                                      try clear hx2
                                      try clear c3
                                      try clear p3
                                      try clear q3
                                      try clear hx3
                                      try clear hf3
                                      try clear c4
                                      try clear c5
                                      try clear c5b0
                                      try clear c5b1
                                      try clear c6
                                      try clear c6b0
                                      try clear c6b1
                                      try clear p6
                                      try clear c11
                                      try clear c11b0
                                      try clear c13
                                      try clear c13b0
                                      try clear c13b1
                                      try clear c14
                                      try clear c14b0
                                      try clear c14b1
                                      try clear c15
                                      try clear c15b0
                                      try clear c16
                                      try clear c16b0
                                      try clear c17
                                      try clear p17
                                      try clear q17
                                      try clear hx17
                                      try clear hf17
                                      try clear c22
                                      try clear hx22
                                      try clear hf22
                                      try clear c25
                                      try clear c25b0
                                      try clear p25
                                      try clear q25
                                      try clear hx25
                                      try clear c26
                                      try clear c26b0
                                      try clear c29
                                      try clear c29b0
                                      try clear c30
                                      try clear c30b0
                                      try clear p31
                                      try clear q31
                                      try clear hx31
                                      try clear hf31
                                      try clear c34
                                      try clear q34
                                      try clear c36
                                      try clear c36b0
                                      try clear c37
                                      try clear c40
                                      try clear c40b0
                                      try clear c42
                                      try clear c42b0
                                      try clear c43
                                      try clear c43b0
                                      try clear hcz18_0
                                      try clear hcz18_1
                                      try clear hcz18_2
                                      try clear hcz38_0
                                      try clear hcz38_1
                                      try clear hcz38_2
                                      try clear hfz18_0
                                      try clear hfz18_1
                                      try clear hfz18_2
                                      try clear hfz38_0
                                      try clear hfz38_1
                                      try clear hfz38_2
                                      try clear hx17_0
                                      try clear hx22_0
                                      try clear hx250_0
                                      try clear hx256_0
                                      try clear hx31_0
                                      try clear p1
                                      try clear p17
                                      try clear p2
                                      try clear p25
                                      try clear p250
                                      try clear p256
                                      try clear p3
                                      try clear p31
                                      try clear p6
                                      try clear q1
                                      try clear q17
                                      try clear q2
                                      try clear q25
                                      try clear q250
                                      try clear q256
                                      try clear q3
                                      try clear q31
                                      try clear q34
                                      obtain ⟨x7_4, x60_4, rfl, HA, HK4, HO_7, BK241, HB, HE_, HQ_⟩ := hrel
                                      have hl7_4 := (Kd.S_reads' HO_7.out).1
                                      rw [hl7_4] at HO_7
                                      obtain ⟨adE_, AE_, cE_, eE_, hxE_, hlE_, hiE_⟩ := at_L3 (Kd.S_reads' HO_7.out).2.2 (ji41) PJ_.out (by have := QJ_.out; omega)
                                      obtain rfl : ad250 = adE_ := (by injection eE_)
                                      have eqE_ := Option.some.inj (HE_.out.symm.trans hxE_)
                                      injection eqE_ with eaE_ enE_ ecE_
                                      subst eaE_
                                      rw [HQ_.out] at hiE_
                                      clear HR256_0
                                      have HR256_0 := Aside0.mk hiE_
                                      clear hiE_ hxE_ hlE_ enE_ ecE_
                                      (try simp only [hl7_4])
                                      (try simp only [hl7_4] at BK241)
                                      cases gk with
                                      | zero => exact absurd HA.out (by simp [impl_crossing_counts.l3])
                                      | succ k4 =>
                                        have H := HA.out
                                        clear HA
                                        simp only [impl_crossing_counts.l3] at H
                                        by_cases c44 : x60_4 < ((rd_L3 x7_3 (ji41)).length : Int)
                                        · rw [if_pos c44] at H
                                          have c44b0 : decide (x60_4 < ((rd_L3 x7_3 (ji41)).length : Int)) = true := decide_eq_true c44
                                          clear c44
                                          by_cases c45 : 0 ≤ x60_4
                                          · rw [if_pos c45] at H
                                            have c45b0 : decide (0 ≤ x60_4) = true := decide_eq_true c45
                                            clear c45
                                            by_cases c46 : x60_4 < ((rd_L3 x7_3 (ji41)).length : Int)
                                            · rw [if_pos c46] at H
                                              have c46b0 : decide (x60_4 < ((rd_L3 x7_3 (ji41)).length : Int)) = true := decide_eq_true c46
                                              clear c46
                                              replace H := Option.bind_eq_some_iff.mp H
                                              obtain ⟨t258, A470, H⟩ := H
                                              replace H : (if t258 = true then ((impl_isDry.f a0_0 a0_1 x51_3 (wrap64 (a1 + x9_2))).bind fun t259 => (if t259 = true then (if 0 ≤ x9_2 then (if x9_2 < (x7_4.length : Int) then (if 0 ≤ x51_3 then (if x51_3 < ((rd_L3 x7_4 x9_2).length : Int) then (impl_crossing_counts.l3 k4 a1 (x7_4.set (x9_2 : Int).toNat ((rd_L3 x7_4 x9_2).set (x51_3 : Int).toNat (mn (wrap64 ((rd (rd_L3 x7_4 x9_2) x51_3) + (rd (rd_L3 x7_3 (ji41)) x60_4))) 1152921504606846976))) x9_2 x51_3 (wrap64 (t255 - 1)) x51_3 (rd_L3 x7_3 (ji41)) ((rd_L3 x7_3 (ji41)).length : Int) (wrap64 (x60_4 + 1)) a0_0 a0_1 a0_2) else (none)) else (none)) else (none)) else (none)) else (impl_crossing_counts.l3 k4 a1 x7_4 x9_2 x51_3 (wrap64 (t255 - 1)) x51_3 (rd_L3 x7_3 (ji41)) ((rd_L3 x7_3 (ji41)).length : Int) (wrap64 (x60_4 + 1)) a0_0 a0_1 a0_2))) else (impl_crossing_counts.l3 k4 a1 x7_4 x9_2 x51_3 (wrap64 (t255 - 1)) x51_3 (rd_L3 x7_3 (ji41)) ((rd_L3 x7_3 (ji41)).length : Int) (wrap64 (x60_4 + 1)) a0_0 a0_1 a0_2)) = some r := H
                                              have A47 := Aside0.mk A470
                                              clear A470
                                              by_cases c48 : t258 = true
                                              · subst c48
                                                have H1 : ((impl_isDry.f a0_0 a0_1 x51_3 (wrap64 (a1 + x9_2))).bind fun t259 => (if t259 = true then (if 0 ≤ x9_2 then (if x9_2 < (x7_4.length : Int) then (if 0 ≤ x51_3 then (if x51_3 < ((rd_L3 x7_4 x9_2).length : Int) then (impl_crossing_counts.l3 k4 a1 (x7_4.set (x9_2 : Int).toNat ((rd_L3 x7_4 x9_2).set (x51_3 : Int).toNat (mn (wrap64 ((rd (rd_L3 x7_4 x9_2) x51_3) + (rd (rd_L3 x7_3 (ji41)) x60_4))) 1152921504606846976))) x9_2 x51_3 (wrap64 (t255 - 1)) x51_3 (rd_L3 x7_3 (ji41)) ((rd_L3 x7_3 (ji41)).length : Int) (wrap64 (x60_4 + 1)) a0_0 a0_1 a0_2) else (none)) else (none)) else (none)) else (none)) else (impl_crossing_counts.l3 k4 a1 x7_4 x9_2 x51_3 (wrap64 (t255 - 1)) x51_3 (rd_L3 x7_3 (ji41)) ((rd_L3 x7_3 (ji41)).length : Int) (wrap64 (x60_4 + 1)) a0_0 a0_1 a0_2))) = some r := by rw [if_pos rfl] at H; exact H
                                                clear H
                                                have H := H1
                                                clear H1
                                                replace H := Option.bind_eq_some_iff.mp H
                                                obtain ⟨t259, A490, H⟩ := H
                                                replace H : (if t259 = true then (if 0 ≤ x9_2 then (if x9_2 < (x7_4.length : Int) then (if 0 ≤ x51_3 then (if x51_3 < ((rd_L3 x7_4 x9_2).length : Int) then (impl_crossing_counts.l3 k4 a1 (x7_4.set (x9_2 : Int).toNat ((rd_L3 x7_4 x9_2).set (x51_3 : Int).toNat (mn (wrap64 ((rd (rd_L3 x7_4 x9_2) x51_3) + (rd (rd_L3 x7_3 (ji41)) x60_4))) 1152921504606846976))) x9_2 x51_3 (wrap64 (t255 - 1)) x51_3 (rd_L3 x7_3 (ji41)) ((rd_L3 x7_3 (ji41)).length : Int) (wrap64 (x60_4 + 1)) a0_0 a0_1 a0_2) else (none)) else (none)) else (none)) else (none)) else (impl_crossing_counts.l3 k4 a1 x7_4 x9_2 x51_3 (wrap64 (t255 - 1)) x51_3 (rd_L3 x7_3 (ji41)) ((rd_L3 x7_3 (ji41)).length : Int) (wrap64 (x60_4 + 1)) a0_0 a0_1 a0_2)) = some r := H
                                                have A49 := Aside0.mk A490
                                                clear A490
                                                by_cases c50 : t259 = true
                                                · subst c50
                                                  have H1 : (if 0 ≤ x9_2 then (if x9_2 < (x7_4.length : Int) then (if 0 ≤ x51_3 then (if x51_3 < ((rd_L3 x7_4 x9_2).length : Int) then (impl_crossing_counts.l3 k4 a1 (x7_4.set (x9_2 : Int).toNat ((rd_L3 x7_4 x9_2).set (x51_3 : Int).toNat (mn (wrap64 ((rd (rd_L3 x7_4 x9_2) x51_3) + (rd (rd_L3 x7_3 (ji41)) x60_4))) 1152921504606846976))) x9_2 x51_3 (wrap64 (t255 - 1)) x51_3 (rd_L3 x7_3 (ji41)) ((rd_L3 x7_3 (ji41)).length : Int) (wrap64 (x60_4 + 1)) a0_0 a0_1 a0_2) else (none)) else (none)) else (none)) else (none)) = some r := by rw [if_pos rfl] at H; exact H
                                                  clear H
                                                  have H := H1
                                                  clear H1
                                                  by_cases c51 : 0 ≤ x9_2
                                                  · rw [if_pos c51] at H
                                                    have c51b0 : decide (0 ≤ x9_2) = true := decide_eq_true c51
                                                    clear c51
                                                    by_cases c52 : x9_2 < (x7_4.length : Int)
                                                    · rw [if_pos c52] at H
                                                      have c52b0 : decide (x9_2 < (x7_4.length : Int)) = true := decide_eq_true c52
                                                      clear c52
                                                      by_cases c53 : 0 ≤ x51_3
                                                      · rw [if_pos c53] at H
                                                        have c53b0 : decide (0 ≤ x51_3) = true := decide_eq_true c53
                                                        clear c53
                                                        by_cases c54 : x51_3 < ((rd_L3 x7_4 x9_2).length : Int)
                                                        · rw [if_pos c54] at H
                                                          have c54b0 : decide (x51_3 < ((rd_L3 x7_4 x9_2).length : Int)) = true := decide_eq_true c54
                                                          clear c54
                                                          obtain ⟨ji55, hji55⟩ : ∃ j_ : Int, (mn (wrap64 ((rd (rd_L3 x7_4 x9_2) x51_3) + (rd (rd_L3 x7_3 (ji41)) x60_4))) 1152921504606846976) = j_ := ⟨_, rfl⟩
                                                          replace H : (impl_crossing_counts.l3 k4 a1 (x7_4.set (x9_2 : Int).toNat ((rd_L3 x7_4 x9_2).set (x51_3 : Int).toNat (ji55))) x9_2 x51_3 (wrap64 (t255 - 1)) x51_3 (rd_L3 x7_3 (ji41)) ((rd_L3 x7_3 (ji41)).length : Int) (wrap64 (x60_4 + 1)) a0_0 a0_1 a0_2) = some r := by first | (rw [hji55] at H; exact H) | (simp only [hji55] at H ⊢; exact H)
                                                          (try rw [hji55] at A47)
                                                          (try rw [hji55] at A49)
                                                          have hji55_ : (if 1152921504606846976 < (wrap64 ((rd (rd_L3 x7_4 x9_2) x51_3) + (rd (rd_L3 x7_3 (ji41)) x60_4))) then 1152921504606846976 else (wrap64 ((rd (rd_L3 x7_4 x9_2) x51_3) + (rd (rd_L3 x7_3 (ji41)) x60_4)))) = ji55 := hji55
                                                          obtain ⟨y263, hy263⟩ : ∃ y_ : List Int, y_ = ((rd_L3 x7_4 x9_2).set (x51_3 : Int).toNat (ji55)) := ⟨_, rfl⟩
                                                          replace H : (impl_crossing_counts.l3 k4 a1 (x7_4.set (x9_2 : Int).toNat y263) x9_2 x51_3 (wrap64 (t255 - 1)) x51_3 (rd_L3 x7_3 (ji41)) ((rd_L3 x7_3 (ji41)).length : Int) (wrap64 (x60_4 + 1)) a0_0 a0_1 a0_2) = some r := by first | (rw [hy263]; with_reducible exact H) | (have H2_ := (Option.bind_some _ _).symm.trans H; rw [hy263]; with_reducible exact H2_) | (have H2_ := (Option.bind_some _ _).symm.trans H; with_reducible exact H2_) | with_reducible exact H | (rw [hy263]; exact H) | exact H
                                                          have Ny263 := Aside0.mk hy263
                                                          clear hy263
                                                          obtain ⟨y265, hy265⟩ : ∃ y_ : List (List Int), y_ = (x7_4.set (x9_2 : Int).toNat y263) := ⟨_, rfl⟩
                                                          replace H : (impl_crossing_counts.l3 k4 a1 y265 x9_2 x51_3 (wrap64 (t255 - 1)) x51_3 (rd_L3 x7_3 (ji41)) ((rd_L3 x7_3 (ji41)).length : Int) (wrap64 (x60_4 + 1)) a0_0 a0_1 a0_2) = some r := by first | (rw [hy265]; with_reducible exact H) | (have H2_ := (Option.bind_some _ _).symm.trans H; rw [hy265]; with_reducible exact H2_) | (have H2_ := (Option.bind_some _ _).symm.trans H; with_reducible exact H2_) | with_reducible exact H | (rw [hy265]; exact H) | exact H
                                                          have Ny265 := Aside0.mk hy265
                                                          clear hy265
                                                          have H' := Aside0.mk H
                                                          clear H
                                                          have p257 : 0 ≤ (x60_4 : Int) := of_decide_eq_true (by first | (with_reducible assumption) | assumption)
                                                          have q257 : x60_4 < ((rd_L3 x7_3 (ji41)).length : Int) := of_decide_eq_true (by first | (with_reducible assumption) | assumption)
                                                          obtain ⟨ad257, e257, hx257_0⟩ := Kd.at_int HR256_0.out x60_4 p257 q257
                                                          cases e257
                                                          (first | replace hx257_0 := (HB.out.cell (World.block_lt_of_cell? w _ hx257_0)).trans hx257_0 | skip)
                                                          replace p257 := eq_true p257
                                                          replace q257 := eq_true q257
                                                          have hcz57_0 : wr.cell? ⟨gb241, 0, none⟩ = some (.string a0_0) := (blk_cell BK241.out 0).trans rfl
                                                          have hcz57_1 : wr.cell? ⟨gb241, 1, none⟩ = some (.string a0_1) := (blk_cell BK241.out 1).trans rfl
                                                          have hcz57_2 : wr.cell? ⟨gb241, 2, none⟩ = some (.int .i64 a0_2) := (blk_cell BK241.out 2).trans rfl
                                                          have hfz57_0 := blk_frozen BK241.out 0
                                                          have hfz57_1 := blk_frozen BK241.out 1
                                                          have hfz57_2 := blk_frozen BK241.out 2
                                                          try go_wp2_with (first | ((with_reducible refine gate_callee (f := 38) rfl ?_); refine goesL_ (some 68) rfl rfl Tryd.func38 (by kernel_rfl) rfl #[.agg #[.string a0_0, .string a0_1, .int .i64 a0_2], .int .i64 x51_3, .int .i64 x60_4] rfl (by (try simp only [List.map_toArray, List.map_cons, List.map_nil]); first | done | rfl | (simp only [List.length_drop, List.length_take]; rfl)) ?_; (with_reducible refine (impl_crossing_near.calls a0_0 a0_1 a0_2 x51_3 x60_4 true _ A47.out).mono ?_); rintro e w58 ⟨rfl, hb⟩; (try (have nE_ := Aside0.mk (pw_cell_below hb HE_.out); clear HE_; have HE_ := nE_; clear nE_)); (try (have nR_ := Aside0.mk (Kd.C_below HR256_0.out hb); clear HR256_0; have HR256_0 := nR_; clear nR_)); refine ⟨_, rfl, ?_⟩; have n0_ := Aside0.mk (Kd.S_below (by (with_reducible repeat (first | apply Kd.S_alloc | apply Kd.S_drewN | apply Kd.S_drew)); exact HO_7.out) hb); have n1_ := Aside0.mk (blk_below (g := gb241) (o := .cells #[.string a0_0, .string a0_1, .int .i64 a0_2] 39 (0, 0)) (by (with_reducible repeat (first | refine blk_drewN ?_ _ | refine blk_drew ?_ | refine blk_alloc ?_ _)); exact BK241.out) hb); have n2_ := Aside0.mk (below_step (by repeat (first | (with_reducible first | exact HB.out | apply below_alloc | apply pw_below_drewN | apply below_drew1 | refine below_set ?_ GE241.out) | exact HB.out)) hb); clear HO_7; clear BK241; clear HB; have HO_7 := n0_; have BK241 := n1_; have HB := n2_; clear n0_ n1_ n2_; (try clear hb); (try clear hb2); (try clear hk); (try clear hi); have hcz59_0 : w58.cell? ⟨gb241, 0, none⟩ = some (.string a0_0) := (blk_cell BK241.out 0).trans rfl; have hcz59_1 : w58.cell? ⟨gb241, 1, none⟩ = some (.string a0_1) := (blk_cell BK241.out 1).trans rfl; have hcz59_2 : w58.cell? ⟨gb241, 2, none⟩ = some (.int .i64 a0_2) := (blk_cell BK241.out 2).trans rfl; have hfz59_0 := blk_frozen BK241.out 0; have hfz59_1 := blk_frozen BK241.out 1; have hfz59_2 := blk_frozen BK241.out 2) | (go_at_call 50; (with_reducible refine (impl_isDry.calls a0_0 a0_1 x51_3 (wrap64 (a1 + x9_2)) true _ A49.out).mono ?_); rintro e w' ⟨rfl, ⟨nd, rfl⟩⟩; (try (rw [drewN_self w58]; generalize hq_ : World.drewN w58 _ = w58; have nE_ := Aside0.mk (cell_at_ hq_ HE_.out); clear HE_; have HE_ := nE_; clear nE_; have n0_ : Aside0 (Kd.S (Kd.slice 3 (Kd.int .i64)) 25 w58 w.heap.size (fun _ => True) (.slice (some ad250) x7_4.length co10) x7_4) := ⟨by rw [← hq_]; exact (by (with_reducible repeat (first | apply Kd.S_alloc | apply Kd.S_drewN | apply Kd.S_drew)); exact HO_7.out)⟩; have n1_ : Aside0 (w58.heap[gb241]? = some (.cells #[.string a0_0, .string a0_1, .int .i64 a0_2] 39 (0, 0))) := ⟨by rw [← hq_]; exact (by (with_reducible repeat (first | refine blk_drewN ?_ _ | refine blk_drew ?_ | refine blk_alloc ?_ _)); exact BK241.out)⟩; have n2_ : Aside0 (Below w.heap.size w w58) := ⟨by rw [← hq_]; exact (by repeat (first | (with_reducible first | exact HB.out | apply below_alloc | apply pw_below_drewN | apply below_drew1 | refine below_set ?_ GE241.out) | exact HB.out))⟩; clear HO_7 BK241 HB hq_; have HO_7 := n0_; have BK241 := n1_; have HB := n2_; clear n0_ n1_ n2_))))
                                                          have n0_ := Aside0.mk (Kd.S_drew HO_7.out)
                                                          have n1_ := Aside0.mk (blk_drew BK241.out)
                                                          have n2_ := Aside0.mk (below_drew1 HB.out)
                                                          clear HO_7
                                                          clear BK241
                                                          clear HB
                                                          have HO_7 := n0_
                                                          have BK241 := n1_
                                                          have HB := n2_
                                                          clear n0_ n1_ n2_
                                                          have HE_ := Aside0.mk (cell_drew_ HE_.out)
                                                          have p260 : 0 ≤ (x9_2 : Int) := of_decide_eq_true (by first | (with_reducible assumption) | assumption)
                                                          have q260 : x9_2 < (x7_4.length : Int) := of_decide_eq_true (by first | (with_reducible assumption) | assumption)
                                                          obtain ⟨ad260, A260_0, c260_0, e260, hx260_0, hl260_0, hi260_0⟩ := at_L3 (Kd.S_reads' HO_7.out).2.2 x9_2 p260 q260
                                                          obtain rfl : ad250 = ad260 := (by injection e260)
                                                          obtain ⟨ce260, hce260, hMe260, hcc260⟩ := Kd.S_get HO_7.out [] x9_2 p260 (by first | exact q260 | exact of_decide_eq_true (by first | (with_reducible assumption) | assumption) | (have e_ := (Kd.S_reads' HO_7.out).1; omega))
                                                          obtain ⟨ve260_0, rfl, ge260_0⟩ := hMe260
                                                          have hv260_0 := hcc260 0 _ rfl
                                                          rw [Nat.add_zero, show ((Kd.slice 3 (Kd.int .i64))).sz = 1 from rfl, Nat.mul_one] at hv260_0
                                                          replace hv260_0 := Option.some.inj (hv260_0.symm.trans hx260_0)
                                                          rw [hv260_0] at ge260_0
                                                          have HL260_0 := Aside0.mk (show Kd.R (Kd.int .i64) 3 _ _ _ _ (rd_L3 x7_4 x9_2) from ge260_0)
                                                          clear hv260_0 ge260_0
                                                          have HX260_0 := Aside0.mk hx260_0
                                                          clear hcc260 hce260
                                                          have HR260_0 := Aside0.mk hi260_0
                                                          have HC260_0 := Aside0.mk hl260_0
                                                          clear hi260_0 hl260_0
                                                          replace p260 := eq_true p260
                                                          replace q260 := eq_true q260
                                                          have p261 : 0 ≤ (x9_2 : Int) := of_decide_eq_true (by first | (with_reducible assumption) | assumption)
                                                          have q261 : x9_2 < (x7_4.length : Int) := of_decide_eq_true (by first | (with_reducible assumption) | assumption)
                                                          obtain ⟨ad261, A261_0, c261_0, e261, hx261_0, hl261_0, hi261_0⟩ := at_L3 (Kd.S_reads' HO_7.out).2.2 x9_2 p261 q261
                                                          obtain rfl : ad250 = ad261 := (by injection e261)
                                                          obtain ⟨ce261, hce261, hMe261, hcc261⟩ := Kd.S_get HO_7.out [] x9_2 p261 (by first | exact q261 | exact of_decide_eq_true (by first | (with_reducible assumption) | assumption) | (have e_ := (Kd.S_reads' HO_7.out).1; omega))
                                                          obtain ⟨ve261_0, rfl, ge261_0⟩ := hMe261
                                                          have hv261_0 := hcc261 0 _ rfl
                                                          rw [Nat.add_zero, show ((Kd.slice 3 (Kd.int .i64))).sz = 1 from rfl, Nat.mul_one] at hv261_0
                                                          replace hv261_0 := Option.some.inj (hv261_0.symm.trans hx261_0)
                                                          rw [hv261_0] at ge261_0
                                                          have HL261_0 := Aside0.mk (show Kd.R (Kd.int .i64) 3 _ _ _ _ (rd_L3 x7_4 x9_2) from ge261_0)
                                                          clear hv261_0 ge261_0
                                                          have HX261_0 := Aside0.mk hx261_0
                                                          clear hcc261 hce261
                                                          have HR261_0 := Aside0.mk hi261_0
                                                          have HC261_0 := Aside0.mk hl261_0
                                                          clear hi261_0 hl261_0
                                                          replace p261 := eq_true p261
                                                          replace q261 := eq_true q261
                                                          have ea_ := Option.some.inj (hx260_0.symm.trans hx261_0)
                                                          injection ea_ with ea_ en_ ec_
                                                          subst ea_
                                                          subst ec_
                                                          clear en_
                                                          have p262 : 0 ≤ (x51_3 : Int) := of_decide_eq_true (by first | (with_reducible assumption) | assumption)
                                                          have q262 : x51_3 < ((rd_L3 x7_4 x9_2).length : Int) := of_decide_eq_true (by first | (with_reducible assumption) | assumption)
                                                          obtain ⟨ad262, e262, hx262_0⟩ := Kd.at_int (by repeat (first | (with_reducible exact HR261_0.out) | (with_reducible refine Kd.C_alloc ?_ _) | (with_reducible refine Kd.C_drewN ?_ _) | (with_reducible refine Kd.C_drew ?_) | exact HR261_0.out)) x51_3 p262 q262
                                                          cases e262
                                                          replace p262 := eq_true p262
                                                          replace q262 := eq_true q262
                                                          have p56 : 0 ≤ (x51_3 : Int) := of_decide_eq_true (by first | (with_reducible assumption) | assumption)
                                                          have q56 : (x51_3 : Int) < (((rd_L3 x7_4 x9_2).length : Int) : Int) := of_decide_eq_true (by first | (with_reducible assumption) | assumption)
                                                          obtain ⟨go56, co56, eo56, gb56, gl56, cl56, HG56⟩ := Kd.R_form HL260_0.out (by omega)
                                                          (first | cases eo56 | (injection eo56 with ea_ en_ ec_; (first | subst ea_ | (injection ea_ with ea_; subst ea_)); subst ec_; clear en_))
                                                          have GB56 := Aside0.mk gb56
                                                          have GG56 := Aside0.mk HG56
                                                          clear gb56 gl56 HG56
                                                          (first | simp only [add_plain] at hx262_0 | skip)
                                                          obtain ⟨hx56_0, hf56_0⟩ := Kd.R_celln 0 HL260_0.out (x51_3 : Int) p56 q56
                                                          replace p56 := eq_true p56
                                                          replace q56 := eq_true q56
                                                          have hq61 : (x9_2 : Int) < (x7_4.length : Int) := (by have h_ : (x9_2 : Int) < ((x7_4.length : Int) : Int) := of_decide_eq_true (by first | (with_reducible assumption) | assumption); first | exact h_ | (have e_ := (Kd.S_reads' HO_7.out).1; omega) | simpa only [List.length_set, List.length_set] using h_)
                                                          obtain ⟨oki61, ce61, hcl61, hM61, hcc61, hok61, hbk61⟩ := Kd.S_borrow HO_7.out [] (x9_2 : Int) (of_decide_eq_true (by first | (with_reducible assumption) | assumption)) hq61
                                                          obtain ⟨ve61_0, rfl, ge61_0⟩ := hM61
                                                          have hv61 := hcc61 0 _ rfl
                                                          rw [Nat.add_zero, show ((Kd.slice 3 (Kd.int .i64))).sz = 1 from rfl, Nat.mul_one] at hv61
                                                          replace hv61 := Option.some.inj (hv61.symm.trans HX260_0.out)
                                                          subst hv61
                                                          clear hcc61 hcl61
                                                          replace ge61_0 := (show Kd.R (Kd.int .i64) 3 _ _ _ _ (rd_L3 x7_4 x9_2) from ge61_0)
                                                          have HP61 := Kd.R_putg ge61_0 (x51_3 : Int) ji55
                                                          rw [← Ny263.out] at HP61
                                                          have HS61 := hbk61 HP61.2 (fun k_ e_ => by injection e_ with e_; subst e_; exact ge61_0.1 _ rfl) (x' := y263) (Kd.M_row HP61.1)
                                                          rw [← Ny265.out] at HS61
                                                          have HQ61 := Aside0.mk HS61
                                                          clear HP61 HS61 hbk61 hok61
                                                          refine start_ (n := 17) (S := fun w' => w'.cell? (ad250.add (x9_2).toNat) = some (.slice (some ⟨go56, 0, none⟩) (rd_L3 x7_4 x9_2).length c260_0) ∧ w'.cell? (ad250.add (x9_2).toNat) = some (.slice (some ⟨go56, 0, none⟩) (rd_L3 x7_4 x9_2).length c260_0) ∧ w'.cell? ⟨go56, (x51_3).toNat, none⟩ = some (.int .i64 (rd (rd_L3 x7_4 x9_2) x51_3))) (ds := [16]) #[false, false, false, false, false, false, false, false, false, false, false, false, false, false, false, false, false] (by kernel_rfl) rfl rfl ⟨hx260_0, hx261_0, hx262_0⟩ (fun hHeld => ?_); refine with_tabW impl_crossing_counts.tab18 impl_crossing_counts.bits18 (fun HT_ HW_ => ?_)
                                                          generalize w58.drew = w60 at HO_7 HE_ BK241 HB GG56 HL260_0 HL261_0 HQ61 HR260_0 HR261_0 HX260_0 HX261_0 hf56_0 hx260_0 hx261_0 hx262_0 hx56_0 hHeld ⊢
                                                          refine pure_ (i := 0) (N := some 80) (v := ?_) (a' := ?_) #[true, false, false, false, false, false, false, false, false, false, false, false, false, false, false, false, false] rfl rfl (any_of HT_.out (by kernel_rfl)) (fun _ _ _ h => h) (Or.inl ⟨by rfl, ?_⟩) ?_ ?_
                                                          rotate_left
                                                          · intro w'
                                                            go_simp
                                                            with_reducible rfl
                                                          rotate_left
                                                          · simp only [Act.put, List.setIfInBounds_toArray, List.set_cons_zero, List.set_cons_succ, i64_w, i32_w]
                                                            rfl
                                                          refine pure_ (i := 1) (N := some 81) (v := ?_) (a' := ?_) #[true, true, false, false, false, false, false, false, false, false, false, false, false, false, false, false, false] rfl rfl (any_of HT_.out (by kernel_rfl)) (fun _ _ _ h => h) (Or.inl ⟨by rfl, ?_⟩) ?_ ?_
                                                          rotate_left
                                                          · intro w'
                                                            go_simp
                                                            with_reducible rfl
                                                          rotate_left
                                                          · simp only [Act.put, List.setIfInBounds_toArray, List.set_cons_zero, List.set_cons_succ, i64_w, i32_w]
                                                            rfl
                                                          refine pure_ (i := 2) (N := some 82) (v := ?_) (a' := ?_) #[true, true, true, false, false, false, false, false, false, false, false, false, false, false, false, false, false] rfl rfl (any_of HT_.out (by kernel_rfl)) (fun _ _ _ h => h) (Or.inl ⟨by rfl, ?_⟩) ?_ ?_
                                                          rotate_left
                                                          · intro w'
                                                            go_simp
                                                            with_reducible rfl
                                                          rotate_left
                                                          · simp only [Act.put, List.setIfInBounds_toArray, List.set_cons_zero, List.set_cons_succ, i64_w, i32_w]
                                                            rfl
                                                          refine pure_ (i := 4) (N := some 84) (v := ?_) (a' := ?_) #[true, true, true, false, true, false, false, false, false, false, false, false, false, false, false, false, false] rfl rfl (any_of HT_.out (by kernel_rfl)) (fun _ _ _ h => h) (Or.inl ⟨by rfl, ?_⟩) ?_ ?_
                                                          rotate_left
                                                          · intro w'
                                                            go_simp
                                                            with_reducible rfl
                                                          rotate_left
                                                          · simp only [Act.put, List.setIfInBounds_toArray, List.set_cons_zero, List.set_cons_succ, i64_w, i32_w]
                                                            rfl
                                                          refine pure_ (i := 5) (N := some 85) (v := ?_) (a' := ?_) #[true, true, true, false, true, true, false, false, false, false, false, false, false, false, false, false, false] rfl rfl (any_of HT_.out (by kernel_rfl)) (fun _ _ _ h => h) (Or.inl ⟨by rfl, ?_⟩) ?_ ?_
                                                          rotate_left
                                                          · intro w'
                                                            go_simp
                                                            with_reducible rfl
                                                          rotate_left
                                                          · simp only [Act.put, List.setIfInBounds_toArray, List.set_cons_zero, List.set_cons_succ, i64_w, i32_w]
                                                            rfl
                                                          refine pure_ (i := 6) (N := some 86) (v := ?_) (a' := ?_) #[true, true, true, false, true, true, true, false, false, false, false, false, false, false, false, false, false] rfl rfl (any_of HT_.out (by kernel_rfl)) (fun _ _ _ h => h) (Or.inl ⟨by rfl, ?_⟩) ?_ ?_
                                                          rotate_left
                                                          · intro w'
                                                            go_simp
                                                            with_reducible rfl
                                                          rotate_left
                                                          · simp only [Act.put, List.setIfInBounds_toArray, List.set_cons_zero, List.set_cons_succ, i64_w, i32_w]
                                                            rfl
                                                          refine pure_ (i := 7) (N := some 87) (v := ?_) (a' := ?_) #[true, true, true, false, true, true, true, true, false, false, false, false, false, false, false, false, false] rfl rfl (any_of HT_.out (by kernel_rfl)) (fun _ _ _ h => h) (Or.inl ⟨by rfl, ?_⟩) ?_ ?_
                                                          rotate_left
                                                          · intro w'
                                                            go_simp
                                                            with_reducible rfl
                                                          rotate_left
                                                          · simp only [Act.put, List.setIfInBounds_toArray, List.set_cons_zero, List.set_cons_succ, i64_w, i32_w]
                                                            rfl
                                                          refine pure_ (i := 9) (N := some 89) (v := ?_) (a' := ?_) #[true, true, true, false, true, true, true, true, false, true, false, false, false, false, false, false, false] rfl rfl (any_of HT_.out (by kernel_rfl)) (fun _ _ _ h => h) (Or.inl ⟨by rfl, ?_⟩) ?_ ?_
                                                          rotate_left
                                                          · intro w'
                                                            go_simp
                                                            with_reducible rfl
                                                          rotate_left
                                                          · simp only [Act.put, List.setIfInBounds_toArray, List.set_cons_zero, List.set_cons_succ, i64_w, i32_w]
                                                            rfl
                                                          refine pure_ (i := 12) (N := some 92) (v := ?_) (a' := ?_) #[true, true, true, false, true, true, true, true, false, true, false, false, true, false, false, false, false] rfl rfl (any_of HT_.out (by kernel_rfl)) (fun _ _ _ h => h) (Or.inl ⟨by rfl, ?_⟩) ?_ ?_
                                                          rotate_left
                                                          · intro w'
                                                            go_simp
                                                            with_reducible rfl
                                                          rotate_left
                                                          · simp only [Act.put, List.setIfInBounds_toArray, List.set_cons_zero, List.set_cons_succ, i64_w, i32_w]
                                                            rfl
                                                          refine take_ (i := 3) (N := some 83) (v := ?_) (a' := ?_) #[true, true, true, true, true, true, true, true, false, true, false, false, true, false, false, false, false] rfl rfl (take_ofW HT_.out HW_.out (by kernel_rfl)) (fun _ _ _ h => h) (Or.inl ⟨by rfl, ?_⟩) hHeld ?_ ?_
                                                          rotate_left
                                                          · rintro w' ⟨s0, s1, s2⟩
                                                            go_simp
                                                            with_reducible rfl
                                                          rotate_left
                                                          · simp only [Act.put, List.setIfInBounds_toArray, List.set_cons_zero, List.set_cons_succ, i64_w, i32_w]
                                                            rfl
                                                          refine take_ (i := 8) (N := some 88) (v := ?_) (a' := ?_) #[true, true, true, true, true, true, true, true, true, true, false, false, true, false, false, false, false] rfl rfl (take_ofW HT_.out HW_.out (by kernel_rfl)) (fun _ _ _ h => h) (Or.inl ⟨by rfl, ?_⟩) hHeld ?_ ?_
                                                          rotate_left
                                                          · rintro w' ⟨s0, s1, s2⟩
                                                            go_simp
                                                            with_reducible rfl
                                                          rotate_left
                                                          · simp only [Act.put, List.setIfInBounds_toArray, List.set_cons_zero, List.set_cons_succ, i64_w, i32_w]
                                                            rfl
                                                          refine pure_ (i := 10) (N := some 90) (v := ?_) (a' := ?_) #[true, true, true, true, true, true, true, true, true, true, true, false, true, false, false, false, false] rfl rfl (any_of HT_.out (by kernel_rfl)) (fun _ _ _ h => h) (Or.inl ⟨by rfl, ?_⟩) ?_ ?_
                                                          rotate_left
                                                          · intro w'
                                                            go_simp
                                                            with_reducible rfl
                                                          rotate_left
                                                          · simp only [Act.put, List.setIfInBounds_toArray, List.set_cons_zero, List.set_cons_succ, i64_w, i32_w]
                                                            rfl
                                                          refine take_ (i := 11) (N := some 91) (v := ?_) (a' := ?_) #[true, true, true, true, true, true, true, true, true, true, true, true, true, false, false, false, false] rfl rfl (take_ofW HT_.out HW_.out (by kernel_rfl)) (fun _ _ _ h => h) (Or.inl ⟨by rfl, ?_⟩) hHeld ?_ ?_
                                                          rotate_left
                                                          · rintro w' ⟨s0, s1, s2⟩
                                                            go_simp
                                                            with_reducible rfl
                                                          rotate_left
                                                          · simp only [Act.put, List.setIfInBounds_toArray, List.set_cons_zero, List.set_cons_succ, i64_w, i32_w]
                                                            rfl
                                                          refine pure_ (i := 13) (N := some 93) (v := ?_) (a' := ?_) #[true, true, true, true, true, true, true, true, true, true, true, true, true, true, false, false, false] rfl rfl (any_of HT_.out (by kernel_rfl)) (fun _ _ _ h => h) (Or.inl ⟨by rfl, ?_⟩) ?_ ?_
                                                          rotate_left
                                                          · intro w'
                                                            go_simp
                                                            with_reducible rfl
                                                          rotate_left
                                                          · simp only [Act.put, List.setIfInBounds_toArray, List.set_cons_zero, List.set_cons_succ, i64_w, i32_w]
                                                            rfl
                                                          refine pure_ (i := 14) (N := some 94) (v := ?_) (a' := ?_) #[true, true, true, true, true, true, true, true, true, true, true, true, true, true, true, false, false] rfl rfl (any_of HT_.out (by kernel_rfl)) (fun _ _ _ h => h) (Or.inl ⟨by rfl, ?_⟩) ?_ ?_
                                                          rotate_left
                                                          · intro w'
                                                            go_simp
                                                            with_reducible rfl
                                                          rotate_left
                                                          · simp only [Act.put, List.setIfInBounds_toArray, List.set_cons_zero, List.set_cons_succ, i64_w, i32_w]
                                                            rfl
                                                          refine pure_ (i := 15) (N := some 95) (v := ?_) (a' := ?_) #[true, true, true, true, true, true, true, true, true, true, true, true, true, true, true, true, false] rfl rfl (any_of HT_.out (by kernel_rfl)) (fun _ _ _ h => h) (Or.inl ⟨by rfl, ?_⟩) ?_ ?_
                                                          rotate_left
                                                          · intro w'
                                                            go_simp
                                                            with_reducible rfl
                                                          rotate_left
                                                          · simp only [Act.put, List.setIfInBounds_toArray, List.set_cons_zero, List.set_cons_succ, i64_w, i32_w]
                                                            rfl
                                                          refine last_ (i := 16) (N := none) #[true, true, true, true, true, true, true, true, true, true, true, true, true, true, true, true, true] rfl rfl (one_of HT_.out (by kernel_rfl)) (by decide) (fun K hK => ?_)
                                                          refine skip_ (w1 := ?_) (by rfl) rfl ?_ ?_
                                                          rotate_left
                                                          · go_simp
                                                            rfl
                                                          refine hK.out _ _ ?_
                                                          clear hK K
                                                          refine done_ (done_of HT_.out (by kernel_rfl)) ?_
                                                          try go_wp2
                                                          (try simp only [← hl7_4])
                                                          go_roundg k4
                                                          case measure => have := HK1.out; have := HK2.out; have := HK3.out; have := HK4.out; omega
                                                          case rel => exact ⟨(y265), (wrap64 (x60_4 + 1)), (by first | rfl | (simp; done) | (simp [*]; done)), H', ⟨by have := HK1.out; have := HK2.out; have := HK3.out; have := HK4.out; omega⟩, ⟨by (try simp only [hl7_1]); (try simp only [hl7_2]); (try simp only [hl7_3]); (try simp only [hl7_4]); (with_reducible repeat (first | apply Kd.S_alloc | apply Kd.S_drewN | apply Kd.S_drew)); exact HQ61.out⟩, ⟨by (try simp only [hl7_1]); (try simp only [hl7_2]); (try simp only [hl7_3]); (try simp only [hl7_4]); (with_reducible repeat (first | refine blk_drewN ?_ _ | refine blk_drew ?_ | refine blk_alloc ?_ _)); refine blk_far ?_ (by have h_ := Kd.R_ne HL260_0.out BK241.out (by decide); intro e_; exact h_ (by rw [e_]; rfl)) _; (with_reducible repeat (first | refine blk_drewN ?_ _ | refine blk_drew ?_ | refine blk_alloc ?_ _)); exact BK241.out⟩, ⟨by repeat (first | (with_reducible first | exact HB.out | apply below_alloc | apply pw_below_drewN | apply below_drew1 | refine below_set ?_ GB56.out | refine below_set ?_ GE241.out) | exact HB.out)⟩, ⟨(World.cell?_setCell_far _ _ (ad250.add (ji41 : Int).toNat) _ (fun e_ => ((Kd.R_apart' HL260_0.out (Kd.S_typed HO_7.out) (by decide)).1 go56 rfl).2 (congrArg some (show go56 = ad250.block from Eq.trans e_ (add_block_ _ _))))).trans HE_.out⟩, ⟨by rw [Ny265.out]; refine (rdl_set_ne (by have h0_ := PJ_.out; have h1_ := wrap_ne x9_2; rw [hji41] at h1_; have h2_ : 0 ≤ x9_2 := of_decide_eq_true (by first | (with_reducible assumption) | assumption); omega)).trans HQ_.out⟩⟩
                                                        · rw [if_neg c54] at H
                                                          exact absurd H (by simp)
                                                      · rw [if_neg c53] at H
                                                        exact absurd H (by simp)
                                                    · rw [if_neg c52] at H
                                                      exact absurd H (by simp)
                                                  · rw [if_neg c51] at H
                                                    exact absurd H (by simp)
                                                · replace c50 := Bool.eq_false_iff.mpr c50
                                                  subst c50
                                                  have H1 : (impl_crossing_counts.l3 k4 a1 x7_4 x9_2 x51_3 (wrap64 (t255 - 1)) x51_3 (rd_L3 x7_3 (ji41)) ((rd_L3 x7_3 (ji41)).length : Int) (wrap64 (x60_4 + 1)) a0_0 a0_1 a0_2) = some r := by rw [if_neg (show ¬ (false = true) by decide)] at H; exact H
                                                  clear H
                                                  have H := H1
                                                  clear H1
                                                  have H' := Aside0.mk H
                                                  clear H
                                                  have p257 : 0 ≤ (x60_4 : Int) := of_decide_eq_true (by first | (with_reducible assumption) | assumption)
                                                  have q257 : x60_4 < ((rd_L3 x7_3 (ji41)).length : Int) := of_decide_eq_true (by first | (with_reducible assumption) | assumption)
                                                  obtain ⟨ad257, e257, hx257_0⟩ := Kd.at_int HR256_0.out x60_4 p257 q257
                                                  cases e257
                                                  (first | replace hx257_0 := (HB.out.cell (World.block_lt_of_cell? w _ hx257_0)).trans hx257_0 | skip)
                                                  replace p257 := eq_true p257
                                                  replace q257 := eq_true q257
                                                  have hcz63_0 : wr.cell? ⟨gb241, 0, none⟩ = some (.string a0_0) := (blk_cell BK241.out 0).trans rfl
                                                  have hcz63_1 : wr.cell? ⟨gb241, 1, none⟩ = some (.string a0_1) := (blk_cell BK241.out 1).trans rfl
                                                  have hcz63_2 : wr.cell? ⟨gb241, 2, none⟩ = some (.int .i64 a0_2) := (blk_cell BK241.out 2).trans rfl
                                                  have hfz63_0 := blk_frozen BK241.out 0
                                                  have hfz63_1 := blk_frozen BK241.out 1
                                                  have hfz63_2 := blk_frozen BK241.out 2
                                                  go_wp2_with (first | ((with_reducible refine gate_callee (f := 38) rfl ?_); refine goesL_ (some 68) rfl rfl Tryd.func38 (by kernel_rfl) rfl #[.agg #[.string a0_0, .string a0_1, .int .i64 a0_2], .int .i64 x51_3, .int .i64 x60_4] rfl (by (try simp only [List.map_toArray, List.map_cons, List.map_nil]); first | done | rfl | (simp only [List.length_drop, List.length_take]; rfl)) ?_; (with_reducible refine (impl_crossing_near.calls a0_0 a0_1 a0_2 x51_3 x60_4 true _ A47.out).mono ?_); rintro e w64 ⟨rfl, hb⟩; (try (have nE_ := Aside0.mk (pw_cell_below hb HE_.out); clear HE_; have HE_ := nE_; clear nE_)); (try (have nR_ := Aside0.mk (Kd.C_below HR256_0.out hb); clear HR256_0; have HR256_0 := nR_; clear nR_)); refine ⟨_, rfl, ?_⟩; have n0_ := Aside0.mk (Kd.S_below (by (with_reducible repeat (first | apply Kd.S_alloc | apply Kd.S_drewN | apply Kd.S_drew)); exact HO_7.out) hb); have n1_ := Aside0.mk (blk_below (g := gb241) (o := .cells #[.string a0_0, .string a0_1, .int .i64 a0_2] 39 (0, 0)) (by (with_reducible repeat (first | refine blk_drewN ?_ _ | refine blk_drew ?_ | refine blk_alloc ?_ _)); exact BK241.out) hb); have n2_ := Aside0.mk (below_step (by repeat (first | (with_reducible first | exact HB.out | apply below_alloc | apply pw_below_drewN | apply below_drew1 | refine below_set ?_ GE241.out) | exact HB.out)) hb); clear HO_7; clear BK241; clear HB; have HO_7 := n0_; have BK241 := n1_; have HB := n2_; clear n0_ n1_ n2_; (try clear hb); (try clear hb2); (try clear hk); (try clear hi); have hcz65_0 : w64.cell? ⟨gb241, 0, none⟩ = some (.string a0_0) := (blk_cell BK241.out 0).trans rfl; have hcz65_1 : w64.cell? ⟨gb241, 1, none⟩ = some (.string a0_1) := (blk_cell BK241.out 1).trans rfl; have hcz65_2 : w64.cell? ⟨gb241, 2, none⟩ = some (.int .i64 a0_2) := (blk_cell BK241.out 2).trans rfl; have hfz65_0 := blk_frozen BK241.out 0; have hfz65_1 := blk_frozen BK241.out 1; have hfz65_2 := blk_frozen BK241.out 2) | (go_at_call 50; (with_reducible refine (impl_isDry.calls a0_0 a0_1 x51_3 (wrap64 (a1 + x9_2)) false _ A49.out).mono ?_); rintro e w' ⟨rfl, ⟨nd, rfl⟩⟩))
                                                  (try simp only [← hl7_4])
                                                  go_roundg k4
                                                  case measure => have := HK1.out; have := HK2.out; have := HK3.out; have := HK4.out; omega
                                                  case rel => exact ⟨(x7_4), (wrap64 (x60_4 + 1)), (by first | rfl | (simp; done) | (simp [*]; done)), H', ⟨by have := HK1.out; have := HK2.out; have := HK3.out; have := HK4.out; omega⟩, ⟨by (try simp only [hl7_1]); (try simp only [hl7_2]); (try simp only [hl7_3]); (try simp only [hl7_4]); (with_reducible repeat (first | apply Kd.S_alloc | apply Kd.S_drewN | apply Kd.S_drew)); exact HO_7.out⟩, ⟨by (try simp only [hl7_1]); (try simp only [hl7_2]); (try simp only [hl7_3]); (try simp only [hl7_4]); (with_reducible repeat (first | refine blk_drewN ?_ _ | refine blk_drew ?_ | refine blk_alloc ?_ _)); exact BK241.out⟩, ⟨by repeat (first | (with_reducible first | exact HB.out | apply below_alloc | apply pw_below_drewN | apply below_drew1 | refine below_set ?_ GE241.out) | exact HB.out)⟩, ⟨HE_.out⟩, ⟨HQ_.out⟩⟩
                                              · replace c48 := Bool.eq_false_iff.mpr c48
                                                subst c48
                                                have H1 : (impl_crossing_counts.l3 k4 a1 x7_4 x9_2 x51_3 (wrap64 (t255 - 1)) x51_3 (rd_L3 x7_3 (ji41)) ((rd_L3 x7_3 (ji41)).length : Int) (wrap64 (x60_4 + 1)) a0_0 a0_1 a0_2) = some r := by rw [if_neg (show ¬ (false = true) by decide)] at H; exact H
                                                clear H
                                                have H := H1
                                                clear H1
                                                have H' := Aside0.mk H
                                                clear H
                                                have p257 : 0 ≤ (x60_4 : Int) := of_decide_eq_true (by first | (with_reducible assumption) | assumption)
                                                have q257 : x60_4 < ((rd_L3 x7_3 (ji41)).length : Int) := of_decide_eq_true (by first | (with_reducible assumption) | assumption)
                                                obtain ⟨ad257, e257, hx257_0⟩ := Kd.at_int HR256_0.out x60_4 p257 q257
                                                cases e257
                                                (first | replace hx257_0 := (HB.out.cell (World.block_lt_of_cell? w _ hx257_0)).trans hx257_0 | skip)
                                                replace p257 := eq_true p257
                                                replace q257 := eq_true q257
                                                have hcz66_0 : wr.cell? ⟨gb241, 0, none⟩ = some (.string a0_0) := (blk_cell BK241.out 0).trans rfl
                                                have hcz66_1 : wr.cell? ⟨gb241, 1, none⟩ = some (.string a0_1) := (blk_cell BK241.out 1).trans rfl
                                                have hcz66_2 : wr.cell? ⟨gb241, 2, none⟩ = some (.int .i64 a0_2) := (blk_cell BK241.out 2).trans rfl
                                                have hfz66_0 := blk_frozen BK241.out 0
                                                have hfz66_1 := blk_frozen BK241.out 1
                                                have hfz66_2 := blk_frozen BK241.out 2
                                                go_wp2_with (first | ((with_reducible refine gate_callee (f := 38) rfl ?_); refine goesL_ (some 68) rfl rfl Tryd.func38 (by kernel_rfl) rfl #[.agg #[.string a0_0, .string a0_1, .int .i64 a0_2], .int .i64 x51_3, .int .i64 x60_4] rfl (by (try simp only [List.map_toArray, List.map_cons, List.map_nil]); first | done | rfl | (simp only [List.length_drop, List.length_take]; rfl)) ?_; (with_reducible refine (impl_crossing_near.calls a0_0 a0_1 a0_2 x51_3 x60_4 false _ A47.out).mono ?_); rintro e w67 ⟨rfl, hb⟩; (try (have nE_ := Aside0.mk (pw_cell_below hb HE_.out); clear HE_; have HE_ := nE_; clear nE_)); (try (have nR_ := Aside0.mk (Kd.C_below HR256_0.out hb); clear HR256_0; have HR256_0 := nR_; clear nR_)); refine ⟨_, rfl, ?_⟩; have n0_ := Aside0.mk (Kd.S_below (by (with_reducible repeat (first | apply Kd.S_alloc | apply Kd.S_drewN | apply Kd.S_drew)); exact HO_7.out) hb); have n1_ := Aside0.mk (blk_below (g := gb241) (o := .cells #[.string a0_0, .string a0_1, .int .i64 a0_2] 39 (0, 0)) (by (with_reducible repeat (first | refine blk_drewN ?_ _ | refine blk_drew ?_ | refine blk_alloc ?_ _)); exact BK241.out) hb); have n2_ := Aside0.mk (below_step (by repeat (first | (with_reducible first | exact HB.out | apply below_alloc | apply pw_below_drewN | apply below_drew1 | refine below_set ?_ GE241.out) | exact HB.out)) hb); clear HO_7; clear BK241; clear HB; have HO_7 := n0_; have BK241 := n1_; have HB := n2_; clear n0_ n1_ n2_; (try clear hb); (try clear hb2); (try clear hk); (try clear hi)))
                                                (try simp only [← hl7_4])
                                                go_roundg k4
                                                case measure => have := HK1.out; have := HK2.out; have := HK3.out; have := HK4.out; omega
                                                case rel => exact ⟨(x7_4), (wrap64 (x60_4 + 1)), (by first | rfl | (simp; done) | (simp [*]; done)), H', ⟨by have := HK1.out; have := HK2.out; have := HK3.out; have := HK4.out; omega⟩, ⟨by (try simp only [hl7_1]); (try simp only [hl7_2]); (try simp only [hl7_3]); (try simp only [hl7_4]); (with_reducible repeat (first | apply Kd.S_alloc | apply Kd.S_drewN | apply Kd.S_drew)); exact HO_7.out⟩, ⟨by (try simp only [hl7_1]); (try simp only [hl7_2]); (try simp only [hl7_3]); (try simp only [hl7_4]); (with_reducible repeat (first | refine blk_drewN ?_ _ | refine blk_drew ?_ | refine blk_alloc ?_ _)); exact BK241.out⟩, ⟨by repeat (first | (with_reducible first | exact HB.out | apply below_alloc | apply pw_below_drewN | apply below_drew1 | refine below_set ?_ GE241.out) | exact HB.out)⟩, ⟨HE_.out⟩, ⟨HQ_.out⟩⟩
                                            · rw [if_neg c46] at H
                                              exact absurd H (by simp)
                                          · rw [if_neg c45] at H
                                            exact absurd H (by simp)
                                        · rw [if_neg c44] at H
                                          have c44b0 : decide (x60_4 < ((rd_L3 x7_3 (ji41)).length : Int)) = false := decide_eq_false c44
                                          clear c44
                                          have H' := Aside0.mk H
                                          clear H
                                          go_wp2
                                          (try simp only [← hl7_3, ← hl7_4])
                                          go_roundg k4
                                          case measure => have := HK1.out; have := HK2.out; have := HK3.out; have := HK4.out; omega
                                          case rel => exact ⟨(x7_4), (wrap64 (x51_3 + 1)), (by first | rfl | (simp; done) | (simp [*]; done)), H', ⟨by have := HK1.out; have := HK2.out; have := HK3.out; have := HK4.out; omega⟩, ⟨by (try simp only [hl7_1]); (try simp only [hl7_2]); (try simp only [hl7_3]); (try simp only [hl7_4]); (with_reducible repeat (first | apply Kd.S_alloc | apply Kd.S_drewN | apply Kd.S_drew)); exact HO_7.out⟩, ⟨by (try simp only [hl7_1]); (try simp only [hl7_2]); (try simp only [hl7_3]); (try simp only [hl7_4]); (with_reducible repeat (first | refine blk_drewN ?_ _ | refine blk_drew ?_ | refine blk_alloc ?_ _)); exact BK241.out⟩, ⟨by repeat (first | (with_reducible first | exact HB.out | apply below_alloc | apply pw_below_drewN | apply below_drew1 | refine below_set ?_ GE241.out) | exact HB.out)⟩⟩
                                  · rw [if_neg c43] at H
                                    exact absurd H (by simp)
                                · rw [if_neg c42] at H
                                  exact absurd H (by simp)
                              · rw [if_neg c40] at H
                                have c40b0 : decide (x51_3 < (wrap64 (t255 - 1))) = false := decide_eq_false c40
                                clear c40
                                have H' := Aside0.mk H
                                clear H
                                go_wp2
                                (try simp only [← hl7_2, ← hl7_3])
                                subst hji24
                                go_roundg k3
                                case measure => have := HK1.out; have := HK2.out; have := HK3.out; omega
                                case rel => exact ⟨(x7_3), (wrap64 (x9_2 - 1)), (by first | rfl | (simp; done) | (simp [*]; done)), H', ⟨by have := HK1.out; have := HK2.out; have := HK3.out; omega⟩, ⟨by (try simp only [hl7_1]); (try simp only [hl7_2]); (try simp only [hl7_3]); (with_reducible repeat (first | apply Kd.S_alloc | apply Kd.S_drewN | apply Kd.S_drew)); exact HO_7.out⟩, ⟨by (try simp only [hl7_1]); (try simp only [hl7_2]); (try simp only [hl7_3]); (with_reducible repeat (first | refine blk_drewN ?_ _ | refine blk_drew ?_ | refine blk_alloc ?_ _)); exact BK241.out⟩, ⟨by repeat (first | (with_reducible first | exact HB.out | apply below_alloc | apply pw_below_drewN | apply below_drew1 | refine below_set ?_ GE241.out) | exact HB.out)⟩⟩
                        · rw [if_neg c36] at H
                          have c36b0 : decide (0 ≤ x9_2) = false := decide_eq_false c36
                          clear c36
                          obtain rfl := Option.some.inj H
                          go_wp2
                          go_ret
                          exact ⟨_, by first | rfl | (simp [errW_none, errW_some] <;> rfl) | (simp only [← hji4, ← hji24, ← hji28]; first | rfl | (simp [errW_none, errW_some] <;> rfl)) | (simp [*, errW_none, errW_some] <;> rfl), by (with_reducible repeat (first | apply Kd.S_alloc | apply Kd.S_drewN | apply Kd.S_drew)); exact HO_7.out, by repeat (first | (with_reducible first | exact HB.out | apply below_alloc | apply pw_below_drewN | apply below_drew1 | refine below_set ?_ GE241.out) | exact HB.out)⟩
                  · rw [if_neg c30] at H
                    exact absurd H (by simp)
                · rw [if_neg c29] at H
                  exact absurd H (by simp)
              · rw [if_neg c26] at H
                exact absurd H (by simp)
            · rw [if_neg c25] at H
              exact absurd H (by simp)
    · rw [if_neg c6] at H
      exact absurd H (by simp)
  · rw [if_neg c5] at H
    exact absurd H (by simp)

end Go.Proofs.YteijbohbdhemoaaDoor.PFnExactEarliestWay
