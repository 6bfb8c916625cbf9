-- Written for this claim by a program of this session, which drives the kit's printer; some callees' contracts in it are proved by hand.
import Derived.Test.YteijbohbdhemoaaDoorPFnExactEarliestWayx0
import Derived.Test.YteijbohbdhemoaaDoorPFnExactEarliestWayx1
import Derived.Test.YteijbohbdhemoaaDoorPFnExactEarliestWayx2
namespace Go.Proofs.YteijbohbdhemoaaDoor.PFnExactEarliestWay
open Go.RowKit Go.Proofs.YteijbohbdhemoaaDoorW.PrintWords Go.Proofs.YteijbohbdhemoaaDoorW.PrintLast Go.Proofs.YteijbohbdhemoaaDoorW.PrintMore
attribute [local go_sem] max2_int min2_int max_two min_two max_three min_three max_four min_four   -- for this text's walks alone
set_option linter.unusedVariables false
set_option linter.unusedSimpArgs false

/-! ### spec_tdBack: function 35 -/
mutual
def spec_tdBack.l0 : Nat → ByteArray → ByteArray → Int → Int → Int → List (List Bool) → Int → Option ((List (List Bool)))
  | 0, _, _, _, _, _, _, _ => none
  | k + 1, x0, x1, x2, x3, x11, x13, x14 => if x14 > x3 then (if 0 ≤ x11 then (if (x11 : Int).toNat ≤ 281474976710656 then ((some (List.replicate (x11 : Int).toNat false : List Bool)).bind fun y144 => (spec_tdBack.l1 k x0 x1 x2 x3 x11 x13 x14 y144 (y144.length : Int) 0)) else (none)) else (none)) else (some x13)
def spec_tdBack.l1 : Nat → ByteArray → ByteArray → Int → Int → Int → List (List Bool) → Int → List Bool → Int → Int → Option ((List (List Bool)))
  | 0, _, _, _, _, _, _, _, _, _, _ => none
  | k + 1, x0, x1, x2, x3, x11, x13, x14, x15, x38, x39 => if x39 < x38 then ((spec_l1Most.f 0 (wrap64 (x39 - x2))).bind fun t153 => (spec_tdBack.l2 k x0 x1 x2 x3 x11 x13 x14 x15 x39 t153 x38 x39)) else ((some (([x15] : List (List Bool)) : List (List Bool))).bind fun y147 => (if y147.length + x13.length < 5864062014805 then (spec_tdBack.l0 k x0 x1 x2 x3 x11 (y147 ++ x13) (wrap64 (x14 - 1))) else (none)))
def spec_tdBack.l2 : Nat → ByteArray → ByteArray → Int → Int → Int → List (List Bool) → Int → List Bool → Int → Int → Int → Int → Option ((List (List Bool)))
  | 0, _, _, _, _, _, _, _, _, _, _, _, _ => none
  | k + 1, x0, x1, x2, x3, x11, x13, x14, x15, x16, x17, x38, x39 => if x17 < x11 then (if x17 ≤ (wrap64 (x16 + x2)) then ((spec_tdDry.f x0 x1 x16 (wrap64 (x14 - 1))).bind fun t154 => (if t154 = true then (if 0 ≤ x16 then (if x16 < (x15.length : Int) then (if rdOf false x15 x16 = true then (spec_tdBack.l2 k x0 x1 x2 x3 x11 x13 x14 (x15.set (x16 : Int).toNat true) x16 (wrap64 (x17 + 1)) x38 x39) else (if 0 < (x13.length : Int) then (if 0 ≤ x17 then (if x17 < ((rd_L2 x13 0).length : Int) then (spec_tdBack.l2 k x0 x1 x2 x3 x11 x13 x14 (x15.set (x16 : Int).toNat (rdOf false (rd_L2 x13 0) x17)) x16 (wrap64 (x17 + 1)) x38 x39) else (none)) else (none)) else (none))) else (none)) else (none)) else (spec_tdBack.l1 k x0 x1 x2 x3 x11 x13 x14 x15 x38 (wrap64 (x39 + 1))))) else (spec_tdBack.l1 k x0 x1 x2 x3 x11 x13 x14 x15 x38 (wrap64 (x39 + 1)))) else (spec_tdBack.l1 k x0 x1 x2 x3 x11 x13 x14 x15 x38 (wrap64 (x39 + 1)))
end
def spec_tdBack.f (k : Nat) (a0 : ByteArray) (a1 : ByteArray) (a2 : Int) (a3 : Int) (a4 : Int) : Option ((List (List Bool))) := if 0 ≤ (wrap64 ((a0.size : Int) + 2)) then (if (wrap64 ((a0.size : Int) + 2) : Int).toNat ≤ 281474976710656 then ((some (List.replicate (wrap64 ((a0.size : Int) + 2) : Int).toNat false : List Bool)).bind fun y137 => (if 0 ≤ (wrap64 ((wrap64 ((a0.size : Int) + 2)) - 1)) then (if (wrap64 ((wrap64 ((a0.size : Int) + 2)) - 1)) < (y137.length : Int) then (spec_tdBack.l0 k a0 a1 a2 a3 (wrap64 ((a0.size : Int) + 2)) (([(y137.set ((wrap64 ((wrap64 ((a0.size : Int) + 2)) - 1)) : Int).toNat true)] : List (List Bool))) a4) else (none)) else (none))) else (none)) else (none)
theorem spec_tdBack.mono_l : ∀ k, (∀ y0 y1 y2 y3 y4 y5 y6, LeO (spec_tdBack.l0 k y0 y1 y2 y3 y4 y5 y6) (spec_tdBack.l0 (k + 1) y0 y1 y2 y3 y4 y5 y6)) ∧ (∀ y0 y1 y2 y3 y4 y5 y6 y7 y8 y9, LeO (spec_tdBack.l1 k y0 y1 y2 y3 y4 y5 y6 y7 y8 y9) (spec_tdBack.l1 (k + 1) y0 y1 y2 y3 y4 y5 y6 y7 y8 y9)) ∧ (∀ y0 y1 y2 y3 y4 y5 y6 y7 y8 y9 y10 y11, LeO (spec_tdBack.l2 k y0 y1 y2 y3 y4 y5 y6 y7 y8 y9 y10 y11) (spec_tdBack.l2 (k + 1) y0 y1 y2 y3 y4 y5 y6 y7 y8 y9 y10 y11))
  | 0 => ⟨fun _ _ _ _ _ _ _ r h => by simp [spec_tdBack.l0] at h, fun _ _ _ _ _ _ _ _ _ _ r h => by simp [spec_tdBack.l1] at h, fun _ _ _ _ _ _ _ _ _ _ _ _ r h => by simp [spec_tdBack.l2] at h⟩
  | k + 1 => by
    obtain ⟨ih0, ih1, ih2⟩ := spec_tdBack.mono_l k
    refine ⟨?_, ?_, ?_⟩
    · intro y0 y1 y2 y3 y4 y5 y6
      unfold spec_tdBack.l0
      repeat' first
      | (with_reducible exact ih0 _ _ _ _ _ _ _)
      | (with_reducible exact ih1 _ _ _ _ _ _ _ _ _ _)
      | (with_reducible exact ih2 _ _ _ _ _ _ _ _ _ _ _ _)
      | (with_reducible exact LeO.refl _)
      | (with_reducible exact LeO.none _)
      | (with_reducible refine LeO.ite ?_ ?_)
      | (with_reducible refine LeO.bind ?_ (fun _ => ?_))
      | exact ih0 _ _ _ _ _ _ _
      | exact ih1 _ _ _ _ _ _ _ _ _ _
      | exact ih2 _ _ _ _ _ _ _ _ _ _ _ _
      | exact LeO.none _
      | refine LeO.ite ?_ ?_
      | refine LeO.bind ?_ (fun _ => ?_)
    · intro y0 y1 y2 y3 y4 y5 y6 y7 y8 y9
      unfold spec_tdBack.l1
      repeat' first
      | (with_reducible exact ih0 _ _ _ _ _ _ _)
      | (with_reducible exact ih1 _ _ _ _ _ _ _ _ _ _)
      | (with_reducible exact ih2 _ _ _ _ _ _ _ _ _ _ _ _)
      | (with_reducible exact LeO.refl _)
      | (with_reducible exact LeO.none _)
      | (with_reducible refine LeO.ite ?_ ?_)
      | (with_reducible refine LeO.bind ?_ (fun _ => ?_))
      | exact ih0 _ _ _ _ _ _ _
      | exact ih1 _ _ _ _ _ _ _ _ _ _
      | exact ih2 _ _ _ _ _ _ _ _ _ _ _ _
      | exact LeO.none _
      | refine LeO.ite ?_ ?_
      | refine LeO.bind ?_ (fun _ => ?_)
    · intro y0 y1 y2 y3 y4 y5 y6 y7 y8 y9 y10 y11
      unfold spec_tdBack.l2
      repeat' first
      | (with_reducible exact ih0 _ _ _ _ _ _ _)
      | (with_reducible exact ih1 _ _ _ _ _ _ _ _ _ _)
      | (with_reducible exact ih2 _ _ _ _ _ _ _ _ _ _ _ _)
      | (with_reducible exact LeO.refl _)
      | (with_reducible exact LeO.none _)
      | (with_reducible refine LeO.ite ?_ ?_)
      | (with_reducible refine LeO.bind ?_ (fun _ => ?_))
      | exact ih0 _ _ _ _ _ _ _
      | exact ih1 _ _ _ _ _ _ _ _ _ _
      | exact ih2 _ _ _ _ _ _ _ _ _ _ _ _
      | exact LeO.none _
      | refine LeO.ite ?_ ?_
      | refine LeO.bind ?_ (fun _ => ?_)
theorem spec_tdBack.mono : ∀ a0 a1 a2 a3 a4 k, LeO (spec_tdBack.f k a0 a1 a2 a3 a4) (spec_tdBack.f (k + 1) a0 a1 a2 a3 a4) := by
  intro a0 a1 a2 a3 a4 k
  obtain ⟨ih0, ih1, ih2⟩ := spec_tdBack.mono_l k
  unfold spec_tdBack.f
  repeat' first
      | (with_reducible exact ih0 _ _ _ _ _ _ _)
      | (with_reducible exact ih1 _ _ _ _ _ _ _ _ _ _)
      | (with_reducible exact ih2 _ _ _ _ _ _ _ _ _ _ _ _)
      | (with_reducible exact LeO.refl _)
      | (with_reducible exact LeO.none _)
      | (with_reducible refine LeO.ite ?_ ?_)
      | (with_reducible refine LeO.bind ?_ (fun _ => ?_))
      | exact ih0 _ _ _ _ _ _ _
      | exact ih1 _ _ _ _ _ _ _ _ _ _
      | exact ih2 _ _ _ _ _ _ _ _ _ _ _ _
      | exact LeO.none _
      | refine LeO.ite ?_ ?_
      | refine LeO.bind ?_ (fun _ => ?_)
set_option maxHeartbeats 8000000 in
set_option maxRecDepth 100000 in
theorem spec_tdBack.calls (k : Nat) (a0 : ByteArray) (a1 : ByteArray) (a2 : Int) (a3 : Int) (a4 : Int) (r : List (List Bool)) (w : World) (h : spec_tdBack.f k a0 a1 a2 a3 a4 = some r) :
    Calls Tryd.prog 35 #[.string a0, .string a1, .int .i64 a2, .int .i64 a3, .int .i64 a4] w fun e w' => ∃ v0_ : Value, e = .returned (v0_) ∧ Kd.N (Kd.slice 4 Kd.bool) 45 w' w.heap.size (fun k_ => (w.heap.size ≤ k_)) v0_ r ∧ Below w.heap.size w w' := by
  have HB := Aside0.mk (Below.refl w.heap.size w)
  have H : (if 0 ≤ (wrap64 ((a0.size : Int) + 2)) then (if (wrap64 ((a0.size : Int) + 2) : Int).toNat ≤ 281474976710656 then ((some (List.replicate (wrap64 ((a0.size : Int) + 2) : Int).toNat false : List Bool)).bind fun y137 => (if 0 ≤ (wrap64 ((wrap64 ((a0.size : Int) + 2)) - 1)) then (if (wrap64 ((wrap64 ((a0.size : Int) + 2)) - 1)) < (y137.length : Int) then (spec_tdBack.l0 k a0 a1 a2 a3 (wrap64 ((a0.size : Int) + 2)) (([(y137.set ((wrap64 ((wrap64 ((a0.size : Int) + 2)) - 1)) : Int).toNat true)] : List (List Bool))) a4) else (none)) else (none))) else (none)) else (none)) = some r := h
  clear h
  obtain ⟨ji6, hji6⟩ : ∃ j_ : Int, (wrap64 ((a0.size : Int) + 2)) = j_ := ⟨_, rfl⟩
  replace H : (if 0 ≤ (ji6) then (if (ji6 : Int).toNat ≤ 281474976710656 then ((some (List.replicate (ji6 : Int).toNat false : List Bool)).bind fun y137 => (if 0 ≤ (wrap64 ((ji6) - 1)) then (if (wrap64 ((ji6) - 1)) < (y137.length : Int) then (spec_tdBack.l0 k a0 a1 a2 a3 ji6 (([(y137.set ((wrap64 ((ji6) - 1)) : Int).toNat true)] : List (List Bool))) a4) else (none)) else (none))) else (none)) else (none)) = some r := by first | (rw [hji6] at H; exact H) | (simp only [hji6] at H ⊢; exact H)
  have hji6w : (IntKind.i64.wrap ((a0.size : Int) + 2)) = ji6 := (i64_w _).trans hji6
  by_cases c7 : 0 ≤ (ji6)
  · rw [if_pos c7] at H
    have c7b0 := eq_true c7
    have c7b1 : decide (0 ≤ (ji6)) = true := decide_eq_true c7
    clear c7
    by_cases c8 : (ji6 : Int).toNat ≤ 281474976710656
    · rw [if_pos c8] at H
      have c8b0 := eq_true c8
      have c8b1 : decide ((ji6 : Int).toNat ≤ 281474976710656) = true := decide_eq_true c8
      clear c8
      obtain ⟨y137, hy137⟩ : ∃ y_ : List Bool, y_ = (List.replicate (ji6 : Int).toNat false) := ⟨_, rfl⟩
      replace H : (if 0 ≤ (wrap64 ((ji6) - 1)) then (if (wrap64 ((ji6) - 1)) < (y137.length : Int) then (spec_tdBack.l0 k a0 a1 a2 a3 ji6 (([(y137.set ((wrap64 ((ji6) - 1)) : Int).toNat true)] : List (List Bool))) a4) else (none)) else (none)) = some r := by first | (rw [hy137]; with_reducible exact H) | (have H2_ := (Option.bind_some _ _).symm.trans H; rw [hy137]; with_reducible exact H2_) | (have H2_ := (Option.bind_some _ _).symm.trans H; with_reducible exact H2_) | with_reducible exact H | (rw [hy137]; exact H) | exact H
      have Ny137 := Aside0.mk hy137
      clear hy137
      obtain ⟨ji9, hji9⟩ : ∃ j_ : Int, (wrap64 ((ji6) - 1)) = j_ := ⟨_, rfl⟩
      replace H : (if 0 ≤ (ji9) then (if (ji9) < (y137.length : Int) then (spec_tdBack.l0 k a0 a1 a2 a3 ji6 (([(y137.set ((ji9) : Int).toNat true)] : List (List Bool))) a4) else (none)) else (none)) = some r := by first | (rw [hji9] at H; exact H) | (simp only [hji9] at H ⊢; exact H)
      have hji9w : (IntKind.i64.wrap ((ji6) - 1)) = ji9 := (i64_w _).trans hji9
      by_cases c10 : 0 ≤ (ji9)
      · rw [if_pos c10] at H
        have c10b0 : decide (0 ≤ (ji9)) = true := decide_eq_true c10
        clear c10
        by_cases c11 : (ji9) < (y137.length : Int)
        · rw [if_pos c11] at H
          have c11b0 : decide ((ji9) < (y137.length : Int)) = true := decide_eq_true c11
          clear c11
          obtain ⟨y140, hy140⟩ : ∃ y_ : List Bool, y_ = (y137.set ((ji9) : Int).toNat true) := ⟨_, rfl⟩
          replace H : (spec_tdBack.l0 k a0 a1 a2 a3 ji6 (([y140] : List (List Bool))) a4) = some r := by first | (rw [hy140]; with_reducible exact H) | (have H2_ := (Option.bind_some _ _).symm.trans H; rw [hy140]; with_reducible exact H2_) | (have H2_ := (Option.bind_some _ _).symm.trans H; with_reducible exact H2_) | with_reducible exact H | (rw [hy140]; exact H) | exact H
          have Ny140 := Aside0.mk hy140
          clear hy140
          obtain ⟨y141, hy141⟩ : ∃ y_ : List (List Bool), y_ = (([y140] : List (List Bool))) := ⟨_, rfl⟩
          replace H : (spec_tdBack.l0 k a0 a1 a2 a3 ji6 y141 a4) = some r := by first | (rw [hy141]; with_reducible exact H) | (have H2_ := (Option.bind_some _ _).symm.trans H; rw [hy141]; with_reducible exact H2_) | (have H2_ := (Option.bind_some _ _).symm.trans H; with_reducible exact H2_) | with_reducible exact H | (rw [hy141]; exact H) | exact H
          have Ny141 := Aside0.mk hy141
          clear hy141
          have H' := Aside0.mk H
          clear H
          go_enter Tryd.func35, Tryd.ntmps35
          go_wp2_with (first | ((with_reducible refine gate_dst (N := 22) rfl ?_); refine Kd.R_make Kd.bool _ 4 rfl (N := 22) rfl 45 _ _ rfl ji6 rfl rfl Tryd.underlying45 (.bool false) 1 info4 rfl (by decide) (by omega) false (ok := fun _ => True) (okp := fun _ => True) rfl (fun _ hk => hk) trivial (of_decide_eq_true (by first | (with_reducible assumption) | assumption)) (Nat.le_trans (Nat.mul_le_mul_right _ (of_decide_eq_true (by first | (with_reducible assumption) | assumption) : ji6.toNat ≤ 281474976710656)) (by omega)) (Below.refl _ _) (Nat.le_refl _) ?_; intro v138 w13 ho14 hb hg_ hnew_; clear hg_ hnew_; (first | rw [← Ny137.out] at ho14 | (simp only [Int.reduceToNat] at ho14; rw [← Ny137.out] at ho14)); have n0_ := Aside0.mk (Kd.R_lower (Kd.R_newM (M := fun k_ => (w.heap.size ≤ k_)) ho14 (below_size (by repeat (first | (with_reducible first | exact HB.out | apply below_alloc | apply pw_below_drewN | apply below_drew1) | exact HB.out))) (fun k_ h_ => h_)) (below_size (by repeat (first | (with_reducible first | exact HB.out | apply below_alloc | apply pw_below_drewN | apply below_drew1) | exact HB.out)))); have n1_ := Aside0.mk (below_step (by repeat (first | (with_reducible first | exact HB.out | apply below_alloc | apply pw_below_drewN | apply below_drew1) | exact HB.out)) hb); clear HB; have HO139 := n0_; have HB := n1_; clear n0_ n1_; clear hb ho14; have p12 : 0 ≤ ((ji9) : Int) := of_decide_eq_true (by first | (with_reducible assumption) | assumption); have q12 : ((ji9) : Int) < ((y137.length : Int) : Int) := of_decide_eq_true (by first | (with_reducible assumption) | assumption); obtain ⟨go12, co12, eo12, gb12, gl12, cl12, HG12⟩ := Kd.R_form HO139.out (by omega); (first | cases eo12 | (injection eo12 with ea_ en_ ec_; (first | subst ea_ | (injection ea_ with ea_; subst ea_)); subst ec_; clear en_)); have GB12 := Aside0.mk gb12; have GG12 := Aside0.mk HG12; clear gb12 gl12 HG12; obtain ⟨hx12_0, hf12_0⟩ := Kd.R_celln false HO139.out ((ji9) : Int) p12 q12; replace p12 := eq_true p12; replace q12 := eq_true q12; have n_ := Aside0.mk (Kd.R_mono (ok' := (fun k_ => (w.heap.size ≤ k_))) HO139.out (fun k_ hk => hk.1)); clear HO139; have HO139 := n_; clear n_; obtain ⟨hy15_, hz15_⟩ := Kd.R_celln false HO139.out ((ji9) : Int) (of_decide_eq_true (by first | (with_reducible assumption) | assumption)) (of_decide_eq_true (by first | (with_reducible assumption) | assumption)); have HP15 := Kd.R_putg HO139.out ((ji9) : Int) true) | ((with_reducible refine gate_store (t := 4) (p := 26) rfl ?_); refine store_event (t := 4) (p := 26) (v := ?vo_w16) (w1 := (w13.setCell ⟨go12, ((ji9) : Int).toNat, none⟩ (.bool true))) ?hg ?ho ?hn ?hr ?_; (case ho => rfl); (case hg => rfl); (case hn => rfl); (case hr => first | (go_simp; done) | (go_simp; rfl)); intro w16 hw; have hg : w13.grownBy w16 (some go12) := (by rw [hw]; exact HP15.2); have hp_ : Kd.R Kd.bool 4 w16 w.heap.size (fun k_ => (w.heap.size ≤ k_)) (.slice (some ⟨go12, 0, none⟩) y137.length co12) y140 := (by rw [hw, Ny140.out]; exact HP15.1); clear HP15; have n0_ := Aside0.mk (hp_); have n1_ := Aside0.mk ((by rw [hw]; exact below_set (HB.out) GB12.out : Below w.heap.size w w16)); clear HO139; clear HB; have HO139 := n0_; have HB := n1_; clear n0_ n1_; clear hg hw hp_) | ((with_reducible refine gate_dst (N := 28) rfl ?_); refine Kd.N_lit (Kd.slice 4 Kd.bool) _ 45 ?hg (N' := 28) ?hd (xs := ([y140] : List (List Bool))) (inner := [.slice (some ⟨go12, 0, none⟩) y137.length co12]) (ok := (fun k_ => (w.heap.size ≤ k_))) (okp := (fun k_ => (w.heap.size ≤ k_))) ?hr ?hp (fun _ hk => hk) ((show ∀ k_, w16.heap.size ≤ k_ → (fun k_ => (w.heap.size ≤ k_)) k_ from fun k_ hk => (Nat.le_trans (below_size (by repeat (first | (with_reducible first | exact HB.out | apply below_alloc | apply pw_below_drewN | apply below_drew1) | exact HB.out))) hk)) _ (Nat.le_refl _)) (Below.refl _ _) (Nat.le_refl _) (by simp) ?_; (case hd => rfl); (case hg => rfl); (case hr => first | (go_simp; done) | (go_simp; rfl)); (case hp => exact (Reps.one (show Kd.FK (Kd.slice 4 Kd.bool) _ _ y140 [.slice (some ⟨go12, 0, none⟩) y137.length co12] from (by have ho_ := HO139.out; have hl_ : y137.length = y140.length := (by rw [Ny140.out]; simp); rw [hl_] at ho_ ⊢; exact (Kd.FK_slice_mk (Kd.R_reads' (Kd.R_mono (ok' := (fun k_ => (w.heap.size ≤ k_))) ho_ (fun k_ hk => hk))).2.1 (Kd.R_F (Kd.R_mono (ok' := (fun k_ => (w.heap.size ≤ k_))) ho_ (fun k_ hk => hk)))))) (Reps.none _ _))); intro v142 w17 ho18 hb hg_ hnew_; clear hg_ hnew_; (first | rw [← Ny141.out] at ho18 | (simp only [Int.reduceToNat] at ho18; rw [← Ny141.out] at ho18)); have n0_ := Aside0.mk (Kd.N_lower ho18 (below_size (by repeat (first | (with_reducible first | exact HB.out | apply below_alloc | apply pw_below_drewN | apply below_drew1) | exact HB.out)))); have n1_ := Aside0.mk (below_step (by repeat (first | (with_reducible first | exact HB.out | apply below_alloc | apply pw_below_drewN | apply below_drew1) | exact HB.out)) hb); clear HB; clear HO139; have HO143 := n0_; have HB := n1_; clear n0_ n1_; clear hb ho18))
          go_loopg [13, 14] k (fun kq v13 v14 w' => ∃ (x13_1 : List (List Bool)) (x14_1 : Int), v14 = .int .i64 x14_1 ∧ Aside0 (spec_tdBack.l0 kq a0 a1 a2 a3 ji6 x13_1 x14_1 = some r) ∧ Aside0 (kq ≤ k) ∧ Aside0 (Kd.N (Kd.slice 4 Kd.bool) 45 w' w.heap.size (fun k_ => (w.heap.size ≤ k_)) v13 x13_1) ∧ Aside0 (Below w.heap.size w w'))
          case atStart => exact ⟨(y141), (a4), (by first | rfl | (simp; done) | (simp [*]; done)), H', ⟨Nat.le_refl _⟩, ⟨by (with_reducible repeat (first | apply Kd.N_alloc | apply Kd.N_drewN | apply Kd.N_drew)); exact HO143.out⟩, ⟨by repeat (first | (with_reducible first | exact HB.out | apply below_alloc | apply pw_below_drewN | apply below_drew1) | exact HB.out)⟩⟩
          case round =>
            clear H'
            try clear c1
            try clear p1
            try clear q1
            try clear hx1
            try clear p2
            try clear c3
            try clear p6
            try clear c7
            try clear c7b0
            try clear c7b1
            try clear c8
            try clear c8b0
            try clear c8b1
            try clear c10
            try clear c10b0
            try clear c11
            try clear c11b0
            try clear p12
            try clear q12
            try clear hx12
            try clear hf12
            try clear hx12_0
            try clear p12
            try clear q12
            obtain ⟨x13_1, x14_1, rfl, HA, HK1, HO_13, HB⟩ := hrel
            cases gk with
            | zero => exact absurd HA.out (by simp [spec_tdBack.l0])
            | succ k1 =>
              have H := HA.out
              clear HA
              simp only [spec_tdBack.l0] at H
              by_cases c19 : x14_1 > a3
              · rw [if_pos c19] at H
                have c19b0 : decide (a3 < x14_1) = true := decide_eq_true c19
                clear c19
                by_cases c20 : 0 ≤ ji6
                · rw [if_pos c20] at H
                  have c20b0 := eq_true c20
                  have c20b1 : decide (0 ≤ ji6) = true := decide_eq_true c20
                  clear c20
                  by_cases c21 : (ji6 : Int).toNat ≤ 281474976710656
                  · rw [if_pos c21] at H
                    have c21b0 := eq_true c21
                    have c21b1 : decide ((ji6 : Int).toNat ≤ 281474976710656) = true := decide_eq_true c21
                    clear c21
                    obtain ⟨y144, hy144⟩ : ∃ y_ : List Bool, y_ = (List.replicate (ji6 : Int).toNat false) := ⟨_, rfl⟩
                    replace H : (spec_tdBack.l1 k1 a0 a1 a2 a3 ji6 x13_1 x14_1 y144 (y144.length : Int) 0) = some r := by first | (rw [hy144]; with_reducible exact H) | (have H2_ := (Option.bind_some _ _).symm.trans H; rw [hy144]; with_reducible exact H2_) | (have H2_ := (Option.bind_some _ _).symm.trans H; with_reducible exact H2_) | with_reducible exact H | (rw [hy144]; exact H) | exact H
                    have Ny144 := Aside0.mk hy144
                    clear hy144
                    have H' := Aside0.mk H
                    clear H
                    go_wp2_with (first | ((with_reducible refine gate_dst (N := 36) rfl ?_); refine Kd.R_make Kd.bool _ 4 rfl (N := 36) rfl 45 _ _ rfl ji6 rfl rfl Tryd.underlying45 (.bool false) 1 info4 rfl (by decide) (by omega) false (ok := fun _ => True) (okp := fun _ => True) rfl (fun _ hk => hk) trivial (of_decide_eq_true (by first | (with_reducible assumption) | assumption)) (Nat.le_trans (Nat.mul_le_mul_right _ (of_decide_eq_true (by first | (with_reducible assumption) | assumption) : ji6.toNat ≤ 281474976710656)) (by omega)) (Below.refl _ _) (Nat.le_refl _) ?_; intro v145 w22 ho23 hb hg_ hnew_; clear hg_ hnew_; (first | rw [← Ny144.out] at ho23 | (simp only [Int.reduceToNat] at ho23; rw [← Ny144.out] at ho23)); have n0_ := Aside0.mk (Kd.N_elder' (by (with_reducible repeat (first | apply Kd.N_alloc | apply Kd.N_drewN | apply Kd.N_drew)); exact HO_13.out) (Kd.R_base ho23) hb); have n1_ := Aside0.mk (Kd.R_lower (Kd.R_newM (M := fun k_ => (w.heap.size ≤ k_)) ho23 (below_size (by repeat (first | (with_reducible first | exact HB.out | apply below_alloc | apply pw_below_drewN | apply below_drew1) | exact HB.out))) (fun k_ h_ => h_)) (below_size (by repeat (first | (with_reducible first | exact HB.out | apply below_alloc | apply pw_below_drewN | apply below_drew1) | exact HB.out)))); have n2_ := Aside0.mk (below_step (by repeat (first | (with_reducible first | exact HB.out | apply below_alloc | apply pw_below_drewN | apply below_drew1) | exact HB.out)) hb); clear HO_13; clear HB; have HO_13 := n0_; have HO146 := n1_; have HB := n2_; clear n0_ n1_ n2_; clear hb ho23; obtain ⟨Ao24, co24, eo24⟩ := Kd.R_slice HO146.out; subst eo24))
                    go_loopg [39] k1 (fun kq v39 w' => ∃ (x15_2 : List Bool) (x39_2 : Int), v39 = .int .i64 x39_2 ∧ Aside0 (spec_tdBack.l1 kq a0 a1 a2 a3 ji6 x13_1 x14_1 x15_2 (y144.length : Int) x39_2 = some r) ∧ Aside0 (kq ≤ k1) ∧ Aside0 (Kd.N (Kd.slice 4 Kd.bool) 45 w' w.heap.size (fun k_ => (w.heap.size ≤ k_) ∧ some k_ ≠ ((.slice Ao24 y144.length co24) : Value).ownBlock) u13 x13_1) ∧ Aside0 (Kd.R Kd.bool 4 w' w.heap.size (fun k_ => (w.heap.size ≤ k_)) (.slice Ao24 y144.length co24) x15_2) ∧ Aside0 (Below w.heap.size w w'))
                    case atStart => exact ⟨(y144), (0), (by first | rfl | (simp; done) | (simp [*]; done)), H', ⟨Nat.le_refl _⟩, ⟨by (with_reducible repeat (first | apply Kd.N_alloc | apply Kd.N_drewN | apply Kd.N_drew)); exact HO_13.out⟩, ⟨by (with_reducible repeat (first | apply Kd.R_alloc | apply Kd.R_drewN | apply Kd.R_drew)); exact Kd.R_mono HO146.out (fun _ hk => hk.1)⟩, ⟨by repeat (first | (with_reducible first | exact HB.out | apply below_alloc | apply pw_below_drewN | apply below_drew1) | exact HB.out)⟩⟩
                    case round =>
                      clear H'
                      try clear c1
                      try clear p1
                      try clear q1
                      try clear hx1
                      try clear c2
                      try clear p2
                      try clear c3
                      try clear p6
                      try clear c7
                      try clear c7b0
                      try clear c7b1
                      try clear c8
                      try clear c8b0
                      try clear c8b1
                      try clear c10
                      try clear c10b0
                      try clear c11
                      try clear c11b0
                      try clear p12
                      try clear q12
                      try clear hx12
                      try clear hf12
                      try clear c19
                      try clear c19b0
                      try clear c20
                      try clear c20b0
                      try clear c20b1
                      try clear c21
                      try clear c21b0
                      try clear c21b1
                      try clear hx12_0
                      try clear p1
                      try clear p12
                      try clear p2
                      try clear p6
                      try clear q1
                      try clear q12
                      obtain ⟨x15_2, x39_2, rfl, HA, HK2, HO_13, HO_15, HB⟩ := hrel
                      have hl15_2 := (Kd.R_reads' HO_15.out).1
                      rw [hl15_2] at HO_15
                      (try simp only [hl15_2])
                      (try simp only [hl15_2] at HO_13)
                      cases gk with
                      | zero => exact absurd HA.out (by simp [spec_tdBack.l1])
                      | succ k2 =>
                        have H := HA.out
                        clear HA
                        simp only [spec_tdBack.l1] at H
                        by_cases c25 : x39_2 < (y144.length : Int)
                        · rw [if_pos c25] at H
                          have c25b0 : decide (x39_2 < (y144.length : Int)) = true := decide_eq_true c25
                          have c25b0z := c25b0
                          (try simp only [hl15_2] at c25b0z)
                          have c25b0z := c25b0
                          (try simp only [hl15_2] at c25b0z)
                          have c25b0z := c25b0
                          (try simp only [hl15_2] at c25b0z)
                          have c25b0z := c25b0
                          (try simp only [hl15_2] at c25b0z)
                          clear c25
                          replace H := Option.bind_eq_some_iff.mp H
                          obtain ⟨t153, A260, H⟩ := H
                          replace H : (spec_tdBack.l2 k2 a0 a1 a2 a3 ji6 x13_1 x14_1 x15_2 x39_2 t153 (y144.length : Int) x39_2) = some r := H
                          have A26 := Aside0.mk A260
                          clear A260
                          have H' := Aside0.mk H
                          clear H
                          go_wp2_with (first | ((with_reducible refine gate_callee (f := 36) rfl ?_); refine goesL_ (some 45) rfl rfl Tryd.func36 (by kernel_rfl) rfl #[.int .i64 0, .int .i64 (wrap64 (x39_2 - a2))] rfl (by (try simp only [List.map_toArray, List.map_cons, List.map_nil]); first | done | rfl | (simp only [List.length_drop, List.length_take]; rfl)) ?_; (with_reducible refine (spec_l1Most.calls 0 (wrap64 (x39_2 - a2)) t153 _ A26.out).mono ?_); rintro e w' ⟨rfl, ⟨nd, rfl⟩⟩; refine ⟨_, rfl, ?_⟩))
                          go_loopg [17] k2 (fun kq v17 w' => ∃ (x15_3 : List Bool) (x17_3 : Int), v17 = .int .i64 x17_3 ∧ Aside0 (spec_tdBack.l2 kq a0 a1 a2 a3 ji6 x13_1 x14_1 x15_3 x39_2 x17_3 (y144.length : Int) x39_2 = some r) ∧ Aside0 (kq ≤ k2) ∧ Aside0 (Kd.N (Kd.slice 4 Kd.bool) 45 w' w.heap.size (fun k_ => (w.heap.size ≤ k_) ∧ some k_ ≠ ((.slice Ao24 x15_2.length co24) : Value).ownBlock) u13 x13_1) ∧ Aside0 (Kd.R Kd.bool 4 w' w.heap.size (fun k_ => (w.heap.size ≤ k_)) (.slice Ao24 x15_2.length co24) x15_3) ∧ Aside0 (Below w.heap.size w w'))
                          case atStart => exact ⟨(x15_2), (t153), (by first | rfl | (simp; done) | (simp [*]; done)), H', ⟨Nat.le_refl _⟩, ⟨by (try simp only [hl15_2]); (with_reducible repeat (first | apply Kd.N_alloc | apply Kd.N_drewN | apply Kd.N_drew)); exact HO_13.out⟩, ⟨by (try simp only [hl15_2]); (with_reducible repeat (first | apply Kd.R_alloc | apply Kd.R_drewN | apply Kd.R_drew)); exact HO_15.out⟩, ⟨by repeat (first | (with_reducible first | exact HB.out | apply below_alloc | apply pw_below_drewN | apply below_drew1) | exact HB.out)⟩⟩
                          case round =>
                            clear H'
                            try clear c1
                            try clear p1
                            try clear q1
                            try clear hx1
                            try clear c2
                            try clear p2
                            try clear c3
                            try clear p6
                            try clear c7
                            try clear c7b0
                            try clear c7b1
                            try clear c8
                            try clear c8b0
                            try clear c8b1
                            try clear c10
                            try clear c10b0
                            try clear c11
                            try clear c11b0
                            try clear p12
                            try clear q12
                            try clear hx12
                            try clear hf12
                            try clear c19
                            try clear c19b0
                            try clear c20
                            try clear c20b0
                            try clear c20b1
                            try clear c21
                            try clear c21b0
                            try clear c21b1
                            try clear c25
                            try clear c25b0
                            try clear hx12_0
                            try clear p1
                            try clear p12
                            try clear p2
                            try clear p6
                            try clear q1
                            try clear q12
                            obtain ⟨x15_3, x17_3, rfl, HA, HK3, HO_13, HO_15, HB⟩ := hrel
                            have hl15_3 := (Kd.R_reads' HO_15.out).1
                            rw [hl15_3] at HO_15
                            (try simp only [hl15_3])
                            (try simp only [hl15_3] at HO_13)
                            cases gk with
                            | zero => exact absurd HA.out (by simp [spec_tdBack.l2])
                            | succ k3 =>
                              have H := HA.out
                              clear HA
                              simp only [spec_tdBack.l2] at H
                              by_cases c27 : x17_3 < ji6
                              · rw [if_pos c27] at H
                                have c27b0 : decide (x17_3 < ji6) = true := decide_eq_true c27
                                clear c27
                                by_cases c28 : x17_3 ≤ (wrap64 (x39_2 + a2))
                                · rw [if_pos c28] at H
                                  have c28b0 : decide (x17_3 ≤ (wrap64 (x39_2 + a2))) = true := decide_eq_true c28
                                  clear c28
                                  replace H := Option.bind_eq_some_iff.mp H
                                  obtain ⟨t154, A290, H⟩ := H
                                  replace H : (if t154 = true then (if 0 ≤ x39_2 then (if x39_2 < (x15_3.length : Int) then (if rdOf false x15_3 x39_2 = true then (spec_tdBack.l2 k3 a0 a1 a2 a3 ji6 x13_1 x14_1 (x15_3.set (x39_2 : Int).toNat true) x39_2 (wrap64 (x17_3 + 1)) (y144.length : Int) x39_2) else (if 0 < (x13_1.length : Int) then (if 0 ≤ x17_3 then (if x17_3 < ((rd_L2 x13_1 0).length : Int) then (spec_tdBack.l2 k3 a0 a1 a2 a3 ji6 x13_1 x14_1 (x15_3.set (x39_2 : Int).toNat (rdOf false (rd_L2 x13_1 0) x17_3)) x39_2 (wrap64 (x17_3 + 1)) (y144.length : Int) x39_2) else (none)) else (none)) else (none))) else (none)) else (none)) else (spec_tdBack.l1 k3 a0 a1 a2 a3 ji6 x13_1 x14_1 x15_3 (y144.length : Int) (wrap64 (x39_2 + 1)))) = some r := H
                                  have A29 := Aside0.mk A290
                                  clear A290
                                  by_cases c30 : t154 = true
                                  · subst c30
                                    have H1 : (if 0 ≤ x39_2 then (if x39_2 < (x15_3.length : Int) then (if rdOf false x15_3 x39_2 = true then (spec_tdBack.l2 k3 a0 a1 a2 a3 ji6 x13_1 x14_1 (x15_3.set (x39_2 : Int).toNat true) x39_2 (wrap64 (x17_3 + 1)) (y144.length : Int) x39_2) else (if 0 < (x13_1.length : Int) then (if 0 ≤ x17_3 then (if x17_3 < ((rd_L2 x13_1 0).length : Int) then (spec_tdBack.l2 k3 a0 a1 a2 a3 ji6 x13_1 x14_1 (x15_3.set (x39_2 : Int).toNat (rdOf false (rd_L2 x13_1 0) x17_3)) x39_2 (wrap64 (x17_3 + 1)) (y144.length : Int) x39_2) else (none)) else (none)) else (none))) else (none)) else (none)) = some r := by rw [if_pos rfl] at H; exact H
                                    clear H
                                    have H := H1
                                    clear H1
                                    by_cases c31 : 0 ≤ x39_2
                                    · rw [if_pos c31] at H
                                      have c31b0 : decide (0 ≤ x39_2) = true := decide_eq_true c31
                                      clear c31
                                      by_cases c32 : x39_2 < (x15_3.length : Int)
                                      · rw [if_pos c32] at H
                                        have c32b0 : decide (x39_2 < (x15_3.length : Int)) = true := decide_eq_true c32
                                        clear c32
                                        obtain ⟨bq33, hbq33⟩ : ∃ b_ : Bool, b_ = (rdOf false x15_3 x39_2) := ⟨_, rfl⟩
                                        replace H : (if bq33 = true then (spec_tdBack.l2 k3 a0 a1 a2 a3 ji6 x13_1 x14_1 (x15_3.set (x39_2 : Int).toNat true) x39_2 (wrap64 (x17_3 + 1)) (y144.length : Int) x39_2) else (if 0 < (x13_1.length : Int) then (if 0 ≤ x17_3 then (if x17_3 < ((rd_L2 x13_1 0).length : Int) then (spec_tdBack.l2 k3 a0 a1 a2 a3 ji6 x13_1 x14_1 (x15_3.set (x39_2 : Int).toNat (rdOf false (rd_L2 x13_1 0) x17_3)) x39_2 (wrap64 (x17_3 + 1)) (y144.length : Int) x39_2) else (none)) else (none)) else (none))) = some r := by rw [← hbq33] at H; exact H
                                        have Nbq33 := Aside0.mk hbq33
                                        clear hbq33
                                        by_cases c34 : bq33 = true
                                        · subst c34
                                          have H1 : (spec_tdBack.l2 k3 a0 a1 a2 a3 ji6 x13_1 x14_1 (x15_3.set (x39_2 : Int).toNat true) x39_2 (wrap64 (x17_3 + 1)) (y144.length : Int) x39_2) = some r := by rw [if_pos rfl] at H; exact H
                                          clear H
                                          have H := H1
                                          clear H1
                                          obtain ⟨y156, hy156⟩ : ∃ y_ : List Bool, y_ = (x15_3.set (x39_2 : Int).toNat true) := ⟨_, rfl⟩
                                          replace H : (spec_tdBack.l2 k3 a0 a1 a2 a3 ji6 x13_1 x14_1 y156 x39_2 (wrap64 (x17_3 + 1)) (y144.length : Int) x39_2) = some r := by first | (rw [hy156]; with_reducible exact H) | (have H2_ := (Option.bind_some _ _).symm.trans H; rw [hy156]; with_reducible exact H2_) | (have H2_ := (Option.bind_some _ _).symm.trans H; with_reducible exact H2_) | with_reducible exact H | (rw [hy156]; exact H) | exact H
                                          have Ny156 := Aside0.mk hy156
                                          clear hy156
                                          have H' := Aside0.mk H
                                          clear H
                                          go_wp2_with (first | (go_at_call 48; (with_reducible refine (spec_tdDry.calls a0 a1 x39_2 (wrap64 (x14_1 - 1)) true _ A29.out).mono ?_); rintro e w' ⟨rfl, ⟨nd, rfl⟩⟩; (try (rw [drewN_self wr]; generalize hq_ : World.drewN wr _ = wr; have n0_ : Aside0 (Kd.N (Kd.slice 4 Kd.bool) 45 wr w.heap.size (fun k_ => (w.heap.size ≤ k_) ∧ some k_ ≠ (.slice Ao24 x15_3.length co24 : Value).ownBlock) u13 x13_1) := ⟨by rw [← hq_]; exact (by (with_reducible repeat (first | apply Kd.N_alloc | apply Kd.N_drewN | apply Kd.N_drew)); exact HO_13.out)⟩; have n1_ : Aside0 (Kd.R Kd.bool 4 wr w.heap.size (fun k_ => (w.heap.size ≤ k_)) (.slice Ao24 x15_3.length co24) x15_3) := ⟨by rw [← hq_]; exact (by (with_reducible repeat (first | apply Kd.R_alloc | apply Kd.R_drewN | apply Kd.R_drew)); exact HO_15.out)⟩; have n2_ : Aside0 (Below w.heap.size w wr) := ⟨by rw [← hq_]; exact (by repeat (first | (with_reducible first | exact HB.out | apply below_alloc | apply pw_below_drewN | apply below_drew1) | exact HB.out))⟩; clear HO_13 HO_15 HB hq_; have HO_13 := n0_; have HO_15 := n1_; have HB := n2_; clear n0_ n1_ n2_)); have p155 : 0 ≤ (x39_2 : Int) := of_decide_eq_true (by first | (with_reducible assumption) | assumption); have q155 : x39_2 < (x15_3.length : Int) := of_decide_eq_true (by first | (with_reducible assumption) | assumption); obtain ⟨ad155, e155, hx155_0⟩ := Kd.at_bool (Kd.R_reads' HO_15.out).2.2 x39_2 p155 q155; (try rw [← Nbq33.out] at hx155_0); cases e155; replace p155 := eq_true p155; replace q155 := eq_true q155; have p35 : 0 ≤ (x39_2 : Int) := of_decide_eq_true (by first | (with_reducible assumption) | assumption); have q35 : (x39_2 : Int) < ((x15_3.length : Int) : Int) := of_decide_eq_true (by first | (with_reducible assumption) | assumption); obtain ⟨go35, co35, eo35, gb35, gl35, cl35, HG35⟩ := Kd.R_form HO_15.out (by omega); (first | cases eo35 | (injection eo35 with ea_ en_ ec_; (first | subst ea_ | (injection ea_ with ea_; subst ea_)); subst ec_; clear en_)); have GB35 := Aside0.mk gb35; have GG35 := Aside0.mk HG35; clear gb35 gl35 HG35; (first | simp only [add_plain] at hx155_0 | skip); obtain ⟨hx35_0, hf35_0⟩ := Kd.R_celln false HO_15.out (x39_2 : Int) p35 q35; replace p35 := eq_true p35; replace q35 := eq_true q35; obtain ⟨hy36_, hz36_⟩ := Kd.R_celln false HO_15.out (x39_2 : Int) (of_decide_eq_true (by first | (with_reducible assumption) | assumption)) (of_decide_eq_true (by first | (with_reducible assumption) | assumption)); have HP36 := Kd.R_putg HO_15.out (x39_2 : Int) true) | ((with_reducible refine gate_store (t := 4) (p := 80) rfl ?_); refine store_event (t := 4) (p := 80) (v := ?vo_w37) (w1 := (wr.setCell ⟨go35, (x39_2 : Int).toNat, none⟩ (.bool true))) ?hg ?ho ?hn ?hr ?_; (case ho => rfl); (case hg => rfl); (case hn => rfl); (case hr => first | (go_simp; done) | (go_simp; rfl)); intro w37 hw; have hg : wr.grownBy w37 (some go35) := (by rw [hw]; exact HP36.2); have hp_ : Kd.R Kd.bool 4 w37 w.heap.size (fun k_ => (w.heap.size ≤ k_)) (.slice (some ⟨go35, 0, none⟩) x15_3.length co24) y156 := (by rw [hw, Ny156.out]; exact HP36.1); clear HP36; have n0_ := Aside0.mk (Kd.N_afterv (v := (.slice (some ⟨go35, 0, none⟩) x15_3.length co24)) (v1 := (.slice (some ⟨go35, 0, none⟩) x15_3.length co24)) (ok := (fun k_ => (w.heap.size ≤ k_))) (by (with_reducible repeat (first | apply Kd.N_alloc | apply Kd.N_drewN | apply Kd.N_drew)); exact HO_13.out) hg (.inl rfl)); have n1_ := Aside0.mk (hp_); have n2_ := Aside0.mk ((by rw [hw]; exact below_set (HB.out) GB35.out : Below w.heap.size w w37)); clear HO_13; clear HO_15; clear HB; have HO_13 := n0_; have HO_15 := n1_; have HB := n2_; clear n0_ n1_ n2_; clear hg hw hp_))
                                          (try simp only [← hl15_3])
                                          go_roundg k3
                                          case measure => have := HK1.out; have := HK2.out; have := HK3.out; omega
                                          case rel => exact ⟨(y156), (wrap64 (x17_3 + 1)), (by first | rfl | (simp; done) | (simp [*]; done)), H', ⟨by have := HK1.out; have := HK2.out; have := HK3.out; omega⟩, ⟨by (try simp only [hl15_2]); (try simp only [hl15_3]); (with_reducible repeat (first | apply Kd.N_alloc | apply Kd.N_drewN | apply Kd.N_drew)); exact HO_13.out⟩, ⟨by (try simp only [hl15_2]); (try simp only [hl15_3]); (with_reducible repeat (first | apply Kd.R_alloc | apply Kd.R_drewN | apply Kd.R_drew)); exact HO_15.out⟩, ⟨by repeat (first | (with_reducible first | exact HB.out | apply below_alloc | apply pw_below_drewN | apply below_drew1) | exact HB.out)⟩⟩
                                        · replace c34 := Bool.eq_false_iff.mpr c34
                                          subst c34
                                          have H1 : (if 0 < (x13_1.length : Int) then (if 0 ≤ x17_3 then (if x17_3 < ((rd_L2 x13_1 0).length : Int) then (spec_tdBack.l2 k3 a0 a1 a2 a3 ji6 x13_1 x14_1 (x15_3.set (x39_2 : Int).toNat (rdOf false (rd_L2 x13_1 0) x17_3)) x39_2 (wrap64 (x17_3 + 1)) (y144.length : Int) x39_2) else (none)) else (none)) else (none)) = some r := by rw [if_neg (show ¬ (false = true) by decide)] at H; exact H
                                          clear H
                                          have H := H1
                                          clear H1
                                          by_cases c38 : 0 < (x13_1.length : Int)
                                          · rw [if_pos c38] at H
                                            have c38b0 : decide (0 < (x13_1.length : Int)) = true := decide_eq_true c38
                                            have c38b1 : decide (0 < x13_1.length) = true := decide_eq_true (by omega)
                                            clear c38
                                            by_cases c39 : 0 ≤ x17_3
                                            · rw [if_pos c39] at H
                                              have c39b0 : decide (0 ≤ x17_3) = true := decide_eq_true c39
                                              clear c39
                                              by_cases c40 : x17_3 < ((rd_L2 x13_1 0).length : Int)
                                              · rw [if_pos c40] at H
                                                have c40b0 : decide (x17_3 < ((rd_L2 x13_1 0).length : Int)) = true := decide_eq_true c40
                                                clear c40
                                                obtain ⟨y159, hy159⟩ : ∃ y_ : List Bool, y_ = (x15_3.set (x39_2 : Int).toNat (rdOf false (rd_L2 x13_1 0) x17_3)) := ⟨_, rfl⟩
                                                replace H : (spec_tdBack.l2 k3 a0 a1 a2 a3 ji6 x13_1 x14_1 y159 x39_2 (wrap64 (x17_3 + 1)) (y144.length : Int) x39_2) = some r := by first | (rw [hy159]; with_reducible exact H) | (have H2_ := (Option.bind_some _ _).symm.trans H; rw [hy159]; with_reducible exact H2_) | (have H2_ := (Option.bind_some _ _).symm.trans H; with_reducible exact H2_) | with_reducible exact H | (rw [hy159]; exact H) | exact H
                                                have Ny159 := Aside0.mk hy159
                                                clear hy159
                                                have H' := Aside0.mk H
                                                clear H
                                                go_wp2_with (first | (go_at_call 48; (with_reducible refine (spec_tdDry.calls a0 a1 x39_2 (wrap64 (x14_1 - 1)) true _ A29.out).mono ?_); rintro e w' ⟨rfl, ⟨nd, rfl⟩⟩; (try (rw [drewN_self wr]; generalize hq_ : World.drewN wr _ = wr; have n0_ : Aside0 (Kd.N (Kd.slice 4 Kd.bool) 45 wr w.heap.size (fun k_ => (w.heap.size ≤ k_) ∧ some k_ ≠ (.slice Ao24 x15_3.length co24 : Value).ownBlock) u13 x13_1) := ⟨by rw [← hq_]; exact (by (with_reducible repeat (first | apply Kd.N_alloc | apply Kd.N_drewN | apply Kd.N_drew)); exact HO_13.out)⟩; have n1_ : Aside0 (Kd.R Kd.bool 4 wr w.heap.size (fun k_ => (w.heap.size ≤ k_)) (.slice Ao24 x15_3.length co24) x15_3) := ⟨by rw [← hq_]; exact (by (with_reducible repeat (first | apply Kd.R_alloc | apply Kd.R_drewN | apply Kd.R_drew)); exact HO_15.out)⟩; have n2_ : Aside0 (Below w.heap.size w wr) := ⟨by rw [← hq_]; exact (by repeat (first | (with_reducible first | exact HB.out | apply below_alloc | apply pw_below_drewN | apply below_drew1) | exact HB.out))⟩; clear HO_13 HO_15 HB hq_; have HO_13 := n0_; have HO_15 := n1_; have HB := n2_; clear n0_ n1_ n2_)); have p155 : 0 ≤ (x39_2 : Int) := of_decide_eq_true (by first | (with_reducible assumption) | assumption); have q155 : x39_2 < (x15_3.length : Int) := of_decide_eq_true (by first | (with_reducible assumption) | assumption); obtain ⟨ad155, e155, hx155_0⟩ := Kd.at_bool (Kd.R_reads' HO_15.out).2.2 x39_2 p155 q155; (try rw [← Nbq33.out] at hx155_0); cases e155; replace p155 := eq_true p155; replace q155 := eq_true q155; obtain ⟨Ao42, co42, eo42⟩ := Kd.N_slice HO_13.out; subst eo42; have p157 : 0 ≤ (0 : Int) := (by omega); have q157 : 0 < (x13_1.length : Int) := of_decide_eq_true (by first | (with_reducible assumption) | assumption); obtain ⟨ad157, A157_0, c157_0, e157, hx157_0, hl157_0, hi157_0⟩ := at_L2 (Kd.N_reads' HO_13.out).2.2 0 p157 q157; cases e157; obtain ⟨ce157, hce157, hMe157, hcc157⟩ := Kd.N_get HO_13.out [] 0 p157 (by first | exact q157 | exact of_decide_eq_true (by first | (with_reducible assumption) | assumption) | (have e_ := (Kd.N_reads' HO_13.out).1; omega)); obtain ⟨ua157_0, uc157_0, rfl, ul157_0, ge157_0⟩ := Kd.FK_slice_open hMe157; have hv157_0 := hcc157 0 _ rfl; rw [Nat.add_zero, show ((Kd.slice 4 Kd.bool)).sz = 1 from rfl, Nat.mul_one] at hv157_0; replace hv157_0 := Option.some.inj (hv157_0.symm.trans hx157_0); injection hv157_0 with hva_ hvn_ hvc_; rw [hva_] at ge157_0; rw [hvc_] at ul157_0; have HL157_0 := Aside0.mk (show Kd.V Kd.bool 4 _ w.heap.size _ _ (rd_L2 x13_1 0) from Kd.V_mk ul157_0 ge157_0); clear hva_ hvn_ hvc_ ge157_0 ul157_0; clear hcc157 hce157; have qi157 : (0 < x13_1.length) = True := eq_true (by omega); (try rw [show ((0 : Int)).toNat = 0 from rfl] at hx157_0); (try rw [Addr.add_zero'] at hx157_0); have HR157_0 := Aside0.mk hi157_0; have HC157_0 := Aside0.mk hl157_0; clear hi157_0 hl157_0; replace p157 := eq_true p157; replace q157 := eq_true q157; have p158 : 0 ≤ (x17_3 : Int) := of_decide_eq_true (by first | (with_reducible assumption) | assumption); have q158 : x17_3 < ((rd_L2 x13_1 0).length : Int) := of_decide_eq_true (by first | (with_reducible assumption) | assumption); obtain ⟨ad158, e158, hx158_0⟩ := Kd.at_bool (by repeat (first | (with_reducible exact HR157_0.out) | (with_reducible refine Kd.C_alloc ?_ _) | (with_reducible refine Kd.C_drewN ?_ _) | (with_reducible refine Kd.C_drew ?_) | exact HR157_0.out)) x17_3 p158 q158; (try rw [← Nbq33.out] at hx158_0); cases e158; replace p158 := eq_true p158; replace q158 := eq_true q158; have p41 : 0 ≤ (x39_2 : Int) := of_decide_eq_true (by first | (with_reducible assumption) | assumption); have q41 : (x39_2 : Int) < ((x15_3.length : Int) : Int) := of_decide_eq_true (by first | (with_reducible assumption) | assumption); obtain ⟨go41, co41, eo41, gb41, gl41, cl41, HG41⟩ := Kd.R_form HO_15.out (by omega); (first | cases eo41 | (injection eo41 with ea_ en_ ec_; (first | subst ea_ | (injection ea_ with ea_; subst ea_)); subst ec_; clear en_)); have GB41 := Aside0.mk gb41; have GG41 := Aside0.mk HG41; clear gb41 gl41 HG41; (first | simp only [add_plain] at hx155_0 | skip); obtain ⟨hx41_0, hf41_0⟩ := Kd.R_celln false HO_15.out (x39_2 : Int) p41 q41; replace p41 := eq_true p41; replace q41 := eq_true q41; obtain ⟨hy43_, hz43_⟩ := Kd.R_celln false HO_15.out (x39_2 : Int) (of_decide_eq_true (by first | (with_reducible assumption) | assumption)) (of_decide_eq_true (by first | (with_reducible assumption) | assumption)); have HP43 := Kd.R_putg HO_15.out (x39_2 : Int) (rdOf false (rd_L2 x13_1 0) x17_3)) | ((with_reducible refine gate_store (t := 4) (p := 80) rfl ?_); refine store_event (t := 4) (p := 80) (v := ?vo_w44) (w1 := (wr.setCell ⟨go41, (x39_2 : Int).toNat, none⟩ (.bool (rdOf false (rd_L2 x13_1 0) x17_3)))) ?hg ?ho ?hn ?hr ?_; (case ho => rfl); (case hg => rfl); (case hn => rfl); (case hr => first | (go_simp; done) | (go_simp; rfl)); intro w44 hw; have hg : wr.grownBy w44 (some go41) := (by rw [hw]; exact HP43.2); have hp_ : Kd.R Kd.bool 4 w44 w.heap.size (fun k_ => (w.heap.size ≤ k_)) (.slice (some ⟨go41, 0, none⟩) x15_3.length co24) y159 := (by rw [hw, Ny159.out]; exact HP43.1); clear HP43; have n0_ := Aside0.mk (Kd.N_afterv (v := (.slice (some ⟨go41, 0, none⟩) x15_3.length co24)) (v1 := (.slice (some ⟨go41, 0, none⟩) x15_3.length co24)) (ok := (fun k_ => (w.heap.size ≤ k_))) (by (with_reducible repeat (first | apply Kd.N_alloc | apply Kd.N_drewN | apply Kd.N_drew)); exact HO_13.out) hg (.inl rfl)); have n1_ := Aside0.mk (hp_); have n2_ := Aside0.mk (Kd.V_afterv (v := (.slice (some ⟨go41, 0, none⟩) x15_3.length co24)) (v1 := (.slice (some ⟨go41, 0, none⟩) x15_3.length co24)) (ok := (fun k_ => (w.heap.size ≤ k_) ∧ some k_ ≠ (.slice (some ad157) x13_1.length co42 : Value).ownBlock)) (by (with_reducible repeat (first | apply Kd.V_alloc | apply Kd.V_drewN | apply Kd.V_drew)); exact Kd.V_mono HL157_0.out (fun _ hk => ⟨⟨hk.1.1, hk.2⟩, hk.1.2⟩)) hg (.inl rfl)); have n3_ := Aside0.mk ((by rw [hw]; exact below_set (HB.out) GB41.out : Below w.heap.size w w44)); clear HO_13; clear HO_15; clear HL157_0; clear HB; have HO_13 := n0_; have HO_15 := n1_; have HL157_0 := n2_; have HB := n3_; clear n0_ n1_ n2_ n3_; clear hg hw hp_))
                                                (try simp only [← hl15_3])
                                                go_roundg k3
                                                case measure => have := HK1.out; have := HK2.out; have := HK3.out; omega
                                                case rel => exact ⟨(y159), (wrap64 (x17_3 + 1)), (by first | rfl | (simp; done) | (simp [*]; done)), H', ⟨by have := HK1.out; have := HK2.out; have := HK3.out; omega⟩, ⟨by (try simp only [hl15_2]); (try simp only [hl15_3]); (with_reducible repeat (first | apply Kd.N_alloc | apply Kd.N_drewN | apply Kd.N_drew)); exact HO_13.out⟩, ⟨by (try simp only [hl15_2]); (try simp only [hl15_3]); (with_reducible repeat (first | apply Kd.R_alloc | apply Kd.R_drewN | apply Kd.R_drew)); exact HO_15.out⟩, ⟨by repeat (first | (with_reducible first | exact HB.out | apply below_alloc | apply pw_below_drewN | apply below_drew1) | exact HB.out)⟩⟩
                                              · rw [if_neg c40] at H
                                                exact absurd H (by simp)
                                            · rw [if_neg c39] at H
                                              exact absurd H (by simp)
                                          · rw [if_neg c38] at H
                                            exact absurd H (by simp)
                                      · rw [if_neg c32] at H
                                        exact absurd H (by simp)
                                    · rw [if_neg c31] at H
                                      exact absurd H (by simp)
                                  · replace c30 := Bool.eq_false_iff.mpr c30
                                    subst c30
                                    have H1 : (spec_tdBack.l1 k3 a0 a1 a2 a3 ji6 x13_1 x14_1 x15_3 (y144.length : Int) (wrap64 (x39_2 + 1))) = some r := by rw [if_neg (show ¬ (false = true) by decide)] at H; exact H
                                    clear H
                                    have H := H1
                                    clear H1
                                    have H' := Aside0.mk H
                                    clear H
                                    go_wp2_with (first | (go_at_call 48; (with_reducible refine (spec_tdDry.calls a0 a1 x39_2 (wrap64 (x14_1 - 1)) false _ A29.out).mono ?_); rintro e w' ⟨rfl, ⟨nd, rfl⟩⟩))
                                    (try simp only [← hl15_2, ← hl15_3])
                                    go_roundg k3
                                    case measure => have := HK1.out; have := HK2.out; have := HK3.out; omega
                                    case rel => exact ⟨(x15_3), (wrap64 (x39_2 + 1)), (by first | rfl | (simp; done) | (simp [*]; done)), H', ⟨by have := HK1.out; have := HK2.out; have := HK3.out; omega⟩, ⟨by (try simp only [hl15_2]); (try simp only [hl15_3]); (with_reducible repeat (first | apply Kd.N_alloc | apply Kd.N_drewN | apply Kd.N_drew)); exact HO_13.out⟩, ⟨by (try simp only [hl15_2]); (try simp only [hl15_3]); (with_reducible repeat (first | apply Kd.R_alloc | apply Kd.R_drewN | apply Kd.R_drew)); exact HO_15.out⟩, ⟨by repeat (first | (with_reducible first | exact HB.out | apply below_alloc | apply pw_below_drewN | apply below_drew1) | exact HB.out)⟩⟩
                                · rw [if_neg c28] at H
                                  have c28b0 : decide (x17_3 ≤ (wrap64 (x39_2 + a2))) = false := decide_eq_false c28
                                  clear c28
                                  have H' := Aside0.mk H
                                  clear H
                                  go_wp2
                                  (try simp only [← hl15_2, ← hl15_3])
                                  go_roundg k3
                                  case measure => have := HK1.out; have := HK2.out; have := HK3.out; omega
                                  case rel => exact ⟨(x15_3), (wrap64 (x39_2 + 1)), (by first | rfl | (simp; done) | (simp [*]; done)), H', ⟨by have := HK1.out; have := HK2.out; have := HK3.out; omega⟩, ⟨by (try simp only [hl15_2]); (try simp only [hl15_3]); (with_reducible repeat (first | apply Kd.N_alloc | apply Kd.N_drewN | apply Kd.N_drew)); exact HO_13.out⟩, ⟨by (try simp only [hl15_2]); (try simp only [hl15_3]); (with_reducible repeat (first | apply Kd.R_alloc | apply Kd.R_drewN | apply Kd.R_drew)); exact HO_15.out⟩, ⟨by repeat (first | (with_reducible first | exact HB.out | apply below_alloc | apply pw_below_drewN | apply below_drew1) | exact HB.out)⟩⟩
                              · rw [if_neg c27] at H
                                have c27b0 : decide (x17_3 < ji6) = false := decide_eq_false c27
                                clear c27
                                have H' := Aside0.mk H
                                clear H
                                go_wp2
                                (try simp only [← hl15_2, ← hl15_3])
                                go_roundg k3
                                case measure => have := HK1.out; have := HK2.out; have := HK3.out; omega
                                case rel => exact ⟨(x15_3), (wrap64 (x39_2 + 1)), (by first | rfl | (simp; done) | (simp [*]; done)), H', ⟨by have := HK1.out; have := HK2.out; have := HK3.out; omega⟩, ⟨by (try simp only [hl15_2]); (try simp only [hl15_3]); (with_reducible repeat (first | apply Kd.N_alloc | apply Kd.N_drewN | apply Kd.N_drew)); exact HO_13.out⟩, ⟨by (try simp only [hl15_2]); (try simp only [hl15_3]); (with_reducible repeat (first | apply Kd.R_alloc | apply Kd.R_drewN | apply Kd.R_drew)); exact HO_15.out⟩, ⟨by repeat (first | (with_reducible first | exact HB.out | apply below_alloc | apply pw_below_drewN | apply below_drew1) | exact HB.out)⟩⟩
                        · rw [if_neg c25] at H
                          have c25b0 : decide (x39_2 < (y144.length : Int)) = false := decide_eq_false c25
                          have c25b0z := c25b0
                          (try simp only [hl15_2] at c25b0z)
                          (try simp only [hl15_3] at c25b0z)
                          have c25b0z := c25b0
                          (try simp only [hl15_2] at c25b0z)
                          (try simp only [hl15_3] at c25b0z)
                          have c25b0z := c25b0
                          (try simp only [hl15_2] at c25b0z)
                          (try simp only [hl15_3] at c25b0z)
                          have c25b0z := c25b0
                          (try simp only [hl15_2] at c25b0z)
                          (try simp only [hl15_3] at c25b0z)
                          clear c25
                          obtain ⟨y147, hy147⟩ : ∃ y_ : List (List Bool), y_ = (([x15_2] : List (List Bool))) := ⟨_, rfl⟩
                          replace H : (if y147.length + x13_1.length < 5864062014805 then (spec_tdBack.l0 k2 a0 a1 a2 a3 ji6 (y147 ++ x13_1) (wrap64 (x14_1 - 1))) else (none)) = some r := by first | (rw [hy147]; with_reducible exact H) | (have H2_ := (Option.bind_some _ _).symm.trans H; rw [hy147]; with_reducible exact H2_) | (have H2_ := (Option.bind_some _ _).symm.trans H; with_reducible exact H2_) | with_reducible exact H | (rw [hy147]; exact H) | exact H
                          have Ny147 := Aside0.mk hy147
                          clear hy147
                          by_cases c45 : y147.length + x13_1.length < 5864062014805
                          · rw [if_pos c45] at H
                            have LMc45 := Aside0.mk c45
                            clear c45
                            obtain ⟨y150, hy150⟩ : ∃ y_ : List (List Bool), y_ = (y147 ++ x13_1) := ⟨_, rfl⟩
                            replace H : (spec_tdBack.l0 k2 a0 a1 a2 a3 ji6 y150 (wrap64 (x14_1 - 1))) = some r := by first | (rw [hy150]; with_reducible exact H) | (have H2_ := (Option.bind_some _ _).symm.trans H; rw [hy150]; with_reducible exact H2_) | (have H2_ := (Option.bind_some _ _).symm.trans H; with_reducible exact H2_) | with_reducible exact H | (rw [hy150]; exact H) | exact H
                            have Ny150 := Aside0.mk hy150
                            clear hy150
                            have H' := Aside0.mk H
                            clear H
                            go_wp2_with (first | ((with_reducible refine gate_dst (N := 83) rfl ?_); refine Kd.N_lit (Kd.slice 4 Kd.bool) _ 45 ?hg (N' := 83) ?hd (xs := ([x15_2] : List (List Bool))) (inner := [.slice Ao24 x15_2.length co24]) (ok := (fun k_ => (w.heap.size ≤ k_) ∧ some k_ ≠ (u13 : Value).ownBlock)) (okp := (fun k_ => (w.heap.size ≤ k_) ∧ some k_ ≠ (u13 : Value).ownBlock)) ?hr ?hp (fun _ hk => hk) ((show ∀ k_, wr.heap.size ≤ k_ → (fun k_ => (w.heap.size ≤ k_) ∧ some k_ ≠ (u13 : Value).ownBlock) k_ from fun k_ hk => ⟨(Nat.le_trans (below_size (by repeat (first | (with_reducible first | exact HB.out | apply below_alloc | apply pw_below_drewN | apply below_drew1) | exact HB.out))) hk), Kd.fresh' (Kd.N_lt (by (with_reducible repeat (first | apply Kd.N_alloc | apply Kd.N_drewN | apply Kd.N_drew)); exact HO_13.out)) k_ hk⟩) _ (Nat.le_refl _)) (Below.refl _ _) (Nat.le_refl _) (by simp) ?_; (case hd => rfl); (case hg => rfl); (case hr => first | (go_simp; done) | (go_simp; rfl)); (case hp => exact (Reps.one (show Kd.FK (Kd.slice 4 Kd.bool) _ _ x15_2 [.slice Ao24 x15_2.length co24] from (Kd.FK_slice_mk (Kd.R_reads' (Kd.R_mono (ok' := (fun k_ => (w.heap.size ≤ k_) ∧ some k_ ≠ (u13 : Value).ownBlock)) (Kd.R_apart' (HO_15.out) (Kd.N_typed HO_13.out) (by decide)) (fun k_ hk => ⟨hk.1, hk.2⟩))).2.1 (Kd.R_F (Kd.R_mono (ok' := (fun k_ => (w.heap.size ≤ k_) ∧ some k_ ≠ (u13 : Value).ownBlock)) (Kd.R_apart' (HO_15.out) (Kd.N_typed HO_13.out) (by decide)) (fun k_ hk => ⟨hk.1, hk.2⟩))))) (Reps.none _ _))); intro v148 w46 ho47 hb hg_ hnew_; clear hg_ hnew_; (first | rw [← Ny147.out] at ho47 | (simp only [Int.reduceToNat] at ho47; rw [← Ny147.out] at ho47)); have n0_ := Aside0.mk (Kd.N_elder' (by (with_reducible repeat (first | apply Kd.N_alloc | apply Kd.N_drewN | apply Kd.N_drew)); exact HO_13.out) (Kd.N_base ho47) hb); have n1_ := Aside0.mk (Kd.N_lower ho47 (below_size (by repeat (first | (with_reducible first | exact HB.out | apply below_alloc | apply pw_below_drewN | apply below_drew1) | exact HB.out)))); have n2_ := Aside0.mk (below_step (by repeat (first | (with_reducible first | exact HB.out | apply below_alloc | apply pw_below_drewN | apply below_drew1) | exact HB.out)) hb); clear HO_13; clear HB; clear HO_15; have HO_13 := n0_; have HO149 := n1_; have HB := n2_; clear n0_ n1_ n2_; clear hb ho47; obtain ⟨Ao49, co49, eo49⟩ := Kd.N_slice HO_13.out; subst eo49) | ((with_reducible refine gate_builtin (b := .append) (xs := #[.tmp 83, .tmp 84]) rfl ?_); at_builtin; refine Kd.N_append_rows (Kd.slice 4 Kd.bool) (w0 := w) w.heap.size rfl (.tmp 83) (.tmp 84) 43 45 (.slice none 0 0) 24 rfl Tryd.underlying43 info45 rfl (by decide) (by omega) v148 y147 x13_1 _ _ _ (fun k_ => (w.heap.size ≤ k_)) (fun k_ => ((fun k_ => (w.heap.size ≤ k_))) k_ ∧ some k_ ≠ (v148 : Value).ownBlock) rfl rfl ?aO ?aR (fun _ hk => hk) ?aF ?aB ?aS ?aL ?_; (case aR => exact (by skip; exact Kd.N_F (Kd.N_mono (ok' := (fun k_ => ((fun k_ => (w.heap.size ≤ k_))) k_ ∧ some k_ ≠ (v148 : Value).ownBlock)) (HO_13.out) (fun k_ hk => ⟨hk.1.1, hk.2⟩)))); (case aB => exact (by repeat (first | (with_reducible first | exact HB.out | apply below_alloc | apply pw_below_drewN | apply below_drew1) | exact HB.out))); (case aF => exact (fun k_ hk => (Nat.le_trans (below_size (by repeat (first | (with_reducible first | exact HB.out | apply below_alloc | apply pw_below_drewN | apply below_drew1) | exact HB.out))) hk))); (case aO => exact (by (with_reducible repeat (first | apply Kd.N_alloc | apply Kd.N_drewN | apply Kd.N_drew)); exact Kd.N_mono HO149.out (fun _ hk => hk.1))); (case aS => exact (below_size (by repeat (first | (with_reducible first | exact HB.out | apply below_alloc | apply pw_below_drewN | apply below_drew1) | exact HB.out)))); (case aL => have := LMc45.out; omega); intro v151 w48 ho hb hg hat; rw [← Ny150.out] at ho; have n0_ := Aside0.mk (Kd.N_afterv (ok := (fun k_ => (w.heap.size ≤ k_))) (by (with_reducible repeat (first | apply Kd.N_alloc | apply Kd.N_drewN | apply Kd.N_drew)); exact Kd.N_mono HO_13.out (fun _ hk => ⟨hk.1.1, hk.2⟩)) hg hat); have n1_ := Aside0.mk (hb); have n2_ := Aside0.mk (ho); clear HO_13; clear HB; clear HO149; have HO_13 := n0_; have HB := n1_; have HO152 := n2_; clear n0_ n1_ n2_; clear ho hb hg hat))
                            (try simp only [← hl15_2])
                            go_roundg k2
                            case measure => have := HK1.out; have := HK2.out; omega
                            case rel => exact ⟨(y150), (wrap64 (x14_1 - 1)), (by first | rfl | (simp; done) | (simp [*]; done)), H', ⟨by have := HK1.out; have := HK2.out; omega⟩, ⟨by (try simp only [hl15_2]); (with_reducible repeat (first | apply Kd.N_alloc | apply Kd.N_drewN | apply Kd.N_drew)); exact HO152.out⟩, ⟨by repeat (first | (with_reducible first | exact HB.out | apply below_alloc | apply pw_below_drewN | apply below_drew1) | exact HB.out)⟩⟩
                          · rw [if_neg c45] at H
                            exact absurd H (by simp)
                  · rw [if_neg c21] at H
                    exact absurd H (by simp)
                · rw [if_neg c20] at H
                  exact absurd H (by simp)
              · rw [if_neg c19] at H
                have c19b0 : decide (a3 < x14_1) = false := decide_eq_false c19
                clear c19
                obtain rfl := Option.some.inj H
                go_wp2
                go_ret
                exact ⟨_, by first | rfl | (simp [errW_none, errW_some] <;> rfl) | (simp only [← hji6, ← hji9]; first | rfl | (simp [errW_none, errW_some] <;> rfl)) | (simp [*, errW_none, errW_some] <;> rfl), by (with_reducible repeat (first | apply Kd.N_alloc | apply Kd.N_drewN | apply Kd.N_drew)); exact HO_13.out, by repeat (first | (with_reducible first | exact HB.out | apply below_alloc | apply pw_below_drewN | apply below_drew1) | exact HB.out)⟩
        · rw [if_neg c11] at H
          exact absurd H (by simp)
      · rw [if_neg c10] at H
        exact absurd H (by simp)
    · rw [if_neg c8] at H
      exact absurd H (by simp)
  · rw [if_neg c7] at H
    exact absurd H (by simp)

/-! ### spec_EarliestWay: function 13 -/
mutual
def spec_EarliestWay.l0 : Nat → Int → List Int → Int → List (List Bool) → Int → Int → Option (List Int × Bool)
  | 0, _, _, _, _, _, _ => none
  | k + 1, x2, x12, x13, x38, x39, x40 => if x40 < x39 then (if 0 ≤ x40 then (if x40 < (x38.length : Int) then ((spec_l1Most.f 0 (wrap64 (x13 - x2))).bind fun t174 => (spec_EarliestWay.l1 k x2 x12 (rd_L2 x38 x40) t174 x38 x39 x40)) else (none)) else (none)) else (some (x12, true))
def spec_EarliestWay.l1 : Nat → Int → List Int → List Bool → Int → List (List Bool) → Int → Int → Option (List Int × Bool)
  | 0, _, _, _, _, _, _, _ => none
  | k + 1, x2, x12, x15, x16, x38, x39, x40 => if 0 ≤ x16 then (if x16 < (x15.length : Int) then (if rdOf false x15 x16 = true then (if x12.length < 17592186044416 then (spec_EarliestWay.l0 k x2 (x12 ++ [x16]) x16 x38 x39 (wrap64 (x40 + 1))) else (none)) else (spec_EarliestWay.l1 k x2 x12 x15 (wrap64 (x16 + 1)) x38 x39 x40)) else (none)) else (none)
end
def spec_EarliestWay.f (k : Nat) (a0 : ByteArray) (a1 : ByteArray) (a2 : Int) (a3 : Int) : Option (List Int × Bool) := (spec_tdAsked.f k a0 a1 a2 a3).bind fun t160 => (if t160 = true then ((spec_tdEnd.f k a0 a1 a2 a3).bind fun t161 => (if t161 < 0 then (some (([] : List Int), false)) else ((spec_tdBack.f k a0 a1 a2 a3 t161).bind fun t162 => (if 1 ≤ (t162.length : Int) then ((some (t162.drop 1 : List (List Bool))).bind fun y168 => (spec_EarliestWay.l0 k a2 (([0] : List Int)) 0 y168 (y168.length : Int) 0)) else (none))))) else (some (([] : List Int), false)))
theorem spec_EarliestWay.mono_l : ∀ k, (∀ y0 y1 y2 y3 y4 y5, LeO (spec_EarliestWay.l0 k y0 y1 y2 y3 y4 y5) (spec_EarliestWay.l0 (k + 1) y0 y1 y2 y3 y4 y5)) ∧ (∀ y0 y1 y2 y3 y4 y5 y6, LeO (spec_EarliestWay.l1 k y0 y1 y2 y3 y4 y5 y6) (spec_EarliestWay.l1 (k + 1) y0 y1 y2 y3 y4 y5 y6))
  | 0 => ⟨fun _ _ _ _ _ _ r h => by simp [spec_EarliestWay.l0] at h, fun _ _ _ _ _ _ _ r h => by simp [spec_EarliestWay.l1] at h⟩
  | k + 1 => by
    obtain ⟨ih0, ih1⟩ := spec_EarliestWay.mono_l k
    refine ⟨?_, ?_⟩
    · intro y0 y1 y2 y3 y4 y5
      unfold spec_EarliestWay.l0
      repeat' first
      | (with_reducible exact ih0 _ _ _ _ _ _)
      | (with_reducible exact ih1 _ _ _ _ _ _ _)
      | (with_reducible exact spec_tdAsked.mono _ _ _ _ _)
      | (with_reducible exact spec_tdBack.mono _ _ _ _ _ _)
      | (with_reducible exact spec_tdEnd.mono _ _ _ _ _)
      | (with_reducible exact LeO.refl _)
      | (with_reducible exact LeO.none _)
      | (with_reducible refine LeO.ite ?_ ?_)
      | (with_reducible refine LeO.bind ?_ (fun _ => ?_))
      | exact ih0 _ _ _ _ _ _
      | exact ih1 _ _ _ _ _ _ _
      | exact spec_tdAsked.mono _ _ _ _ _
      | exact spec_tdBack.mono _ _ _ _ _ _
      | exact spec_tdEnd.mono _ _ _ _ _
      | exact LeO.none _
      | refine LeO.ite ?_ ?_
      | refine LeO.bind ?_ (fun _ => ?_)
    · intro y0 y1 y2 y3 y4 y5 y6
      unfold spec_EarliestWay.l1
      repeat' first
      | (with_reducible exact ih0 _ _ _ _ _ _)
      | (with_reducible exact ih1 _ _ _ _ _ _ _)
      | (with_reducible exact spec_tdAsked.mono _ _ _ _ _)
      | (with_reducible exact spec_tdBack.mono _ _ _ _ _ _)
      | (with_reducible exact spec_tdEnd.mono _ _ _ _ _)
      | (with_reducible exact LeO.refl _)
      | (with_reducible exact LeO.none _)
      | (with_reducible refine LeO.ite ?_ ?_)
      | (with_reducible refine LeO.bind ?_ (fun _ => ?_))
      | exact ih0 _ _ _ _ _ _
      | exact ih1 _ _ _ _ _ _ _
      | exact spec_tdAsked.mono _ _ _ _ _
      | exact spec_tdBack.mono _ _ _ _ _ _
      | exact spec_tdEnd.mono _ _ _ _ _
      | exact LeO.none _
      | refine LeO.ite ?_ ?_
      | refine LeO.bind ?_ (fun _ => ?_)
theorem spec_EarliestWay.mono : ∀ a0 a1 a2 a3 k, LeO (spec_EarliestWay.f k a0 a1 a2 a3) (spec_EarliestWay.f (k + 1) a0 a1 a2 a3) := by
  intro a0 a1 a2 a3 k
  obtain ⟨ih0, ih1⟩ := spec_EarliestWay.mono_l k
  unfold spec_EarliestWay.f
  repeat' first
      | (with_reducible exact ih0 _ _ _ _ _ _)
      | (with_reducible exact ih1 _ _ _ _ _ _ _)
      | (with_reducible exact spec_tdAsked.mono _ _ _ _ _)
      | (with_reducible exact spec_tdBack.mono _ _ _ _ _ _)
      | (with_reducible exact spec_tdEnd.mono _ _ _ _ _)
      | (with_reducible exact LeO.refl _)
      | (with_reducible exact LeO.none _)
      | (with_reducible refine LeO.ite ?_ ?_)
      | (with_reducible refine LeO.bind ?_ (fun _ => ?_))
      | exact ih0 _ _ _ _ _ _
      | exact ih1 _ _ _ _ _ _ _
      | exact spec_tdAsked.mono _ _ _ _ _
      | exact spec_tdBack.mono _ _ _ _ _ _
      | exact spec_tdEnd.mono _ _ _ _ _
      | exact LeO.none _
      | refine LeO.ite ?_ ?_
      | refine LeO.bind ?_ (fun _ => ?_)
set_option maxHeartbeats 8000000 in
set_option maxRecDepth 100000 in
theorem spec_EarliestWay.calls (k : Nat) (a0 : ByteArray) (a1 : ByteArray) (a2 : Int) (a3 : Int) (r1 : List Int) (r2 : Bool) (w : World) (h : spec_EarliestWay.f k a0 a1 a2 a3 = some (r1, r2)) :
    Calls Tryd.prog 13 #[.string a0, .string a1, .int .i64 a2, .int .i64 a3] w fun e w' => ∃ v0_ : Value, e = .returned (.tuple #[v0_, .bool r2]) ∧ Kd.R (Kd.int .i64) 3 w' w.heap.size (fun _ => True) v0_ r1 ∧ Below w.heap.size w w' := by
  have HB := Aside0.mk (Below.refl w.heap.size w)
  have H : ((spec_tdAsked.f k a0 a1 a2 a3).bind fun t160 => (if t160 = true then ((spec_tdEnd.f k a0 a1 a2 a3).bind fun t161 => (if t161 < 0 then (some (([] : List Int), false)) else ((spec_tdBack.f k a0 a1 a2 a3 t161).bind fun t162 => (if 1 ≤ (t162.length : Int) then ((some (t162.drop 1 : List (List Bool))).bind fun y168 => (spec_EarliestWay.l0 k a2 (([0] : List Int)) 0 y168 (y168.length : Int) 0)) else (none))))) else (some (([] : List Int), false)))) = some (r1, r2) := h
  clear h
  replace H := Option.bind_eq_some_iff.mp H
  obtain ⟨t160, A50, H⟩ := H
  replace H : (if t160 = true then ((spec_tdEnd.f k a0 a1 a2 a3).bind fun t161 => (if t161 < 0 then (some (([] : List Int), false)) else ((spec_tdBack.f k a0 a1 a2 a3 t161).bind fun t162 => (if 1 ≤ (t162.length : Int) then ((some (t162.drop 1 : List (List Bool))).bind fun y168 => (spec_EarliestWay.l0 k a2 (([0] : List Int)) 0 y168 (y168.length : Int) 0)) else (none))))) else (some (([] : List Int), false))) = some (r1, r2) := H
  have A5 := Aside0.mk A50
  clear A50
  by_cases c6 : t160 = true
  · subst c6
    have H1 : ((spec_tdEnd.f k a0 a1 a2 a3).bind fun t161 => (if t161 < 0 then (some (([] : List Int), false)) else ((spec_tdBack.f k a0 a1 a2 a3 t161).bind fun t162 => (if 1 ≤ (t162.length : Int) then ((some (t162.drop 1 : List (List Bool))).bind fun y168 => (spec_EarliestWay.l0 k a2 (([0] : List Int)) 0 y168 (y168.length : Int) 0)) else (none))))) = some (r1, r2) := by rw [if_pos rfl] at H; exact H
    clear H
    have H := H1
    clear H1
    replace H := Option.bind_eq_some_iff.mp H
    obtain ⟨t161, A70, H⟩ := H
    replace H : (if t161 < 0 then (some (([] : List Int), false)) else ((spec_tdBack.f k a0 a1 a2 a3 t161).bind fun t162 => (if 1 ≤ (t162.length : Int) then ((some (t162.drop 1 : List (List Bool))).bind fun y168 => (spec_EarliestWay.l0 k a2 (([0] : List Int)) 0 y168 (y168.length : Int) 0)) else (none)))) = some (r1, r2) := H
    have A7 := Aside0.mk A70
    clear A70
    by_cases c8 : t161 < 0
    · rw [if_pos c8] at H
      have c8b0 : decide (t161 < 0) = true := decide_eq_true c8
      clear c8
      simp only [Option.some.injEq, Prod.mk.injEq] at H
      obtain ⟨rfl, rfl⟩ := H
      go_enter Tryd.func13, Tryd.ntmps13
      go_wp2_with (first | ((with_reducible refine gate_callee (f := 30) rfl ?_); refine goesL_ (some 21) rfl rfl Tryd.func30 (by kernel_rfl) rfl #[.string a0, .string a1, .int .i64 a2, .int .i64 a3] rfl (by (try simp only [List.map_toArray, List.map_cons, List.map_nil]); first | done | rfl | (simp only [List.length_drop, List.length_take]; rfl)) ?_; (with_reducible refine (spec_tdAsked.calls k a0 a1 a2 a3 true _ A5.out).mono ?_); rintro e w' ⟨rfl, ⟨nd, rfl⟩⟩; refine ⟨_, rfl, ?_⟩) | ((with_reducible refine gate_callee (f := 31) rfl ?_); refine goesL_ (some 27) rfl rfl Tryd.func31 (by kernel_rfl) rfl #[.string a0, .string a1, .int .i64 a2, .int .i64 a3] rfl (by (try simp only [List.map_toArray, List.map_cons, List.map_nil]); first | done | rfl | (simp only [List.length_drop, List.length_take]; rfl)) ?_; (with_reducible refine (spec_tdEnd.calls k a0 a1 a2 a3 t161 _ A7.out).mono ?_); rintro e w9 ⟨rfl, hb⟩; refine ⟨_, rfl, ?_⟩; have n0_ := Aside0.mk (below_step (by repeat (first | (with_reducible first | exact HB.out | apply below_alloc | apply pw_below_drewN | apply below_drew1) | exact HB.out)) hb); clear HB; have HB := n0_; clear n0_; (try clear hb); (try clear hb2); (try clear hk); (try clear hi)))
      go_ret2
      exact ⟨_, by first | rfl | (simp [errW_none, errW_some] <;> rfl) | (simp [*, errW_none, errW_some] <;> rfl), by first | exact Kd.R_nil _ _ _ _ _ | exact Kd.N_nil _ _ _ _ _ | exact Kd.V_nil _ _ _ _ _ | exact Kd.Q_nil _ _ _ _ _ | exact Kd.S_nil _ _ _ _ _, by repeat (first | (with_reducible first | exact HB.out | apply below_alloc | apply pw_below_drewN | apply below_drew1) | exact HB.out)⟩
    · rw [if_neg c8] at H
      have c8b0 : decide (t161 < 0) = false := decide_eq_false c8
      clear c8
      replace H := Option.bind_eq_some_iff.mp H
      obtain ⟨t162, A100, H⟩ := H
      replace H : (if 1 ≤ (t162.length : Int) then ((some (t162.drop 1 : List (List Bool))).bind fun y168 => (spec_EarliestWay.l0 k a2 (([0] : List Int)) 0 y168 (y168.length : Int) 0)) else (none)) = some (r1, r2) := H
      have A10 := Aside0.mk A100
      clear A100
      obtain ⟨y165, hy165⟩ : ∃ y_ : List Int, y_ = (([0] : List Int)) := ⟨_, rfl⟩
      replace H : (if 1 ≤ (t162.length : Int) then ((some (t162.drop 1 : List (List Bool))).bind fun y168 => (spec_EarliestWay.l0 k a2 y165 0 y168 (y168.length : Int) 0)) else (none)) = some (r1, r2) := by first | (rw [hy165]; with_reducible exact H) | (have H2_ := (Option.bind_some _ _).symm.trans H; rw [hy165]; with_reducible exact H2_) | (have H2_ := (Option.bind_some _ _).symm.trans H; with_reducible exact H2_) | with_reducible exact H | (rw [hy165]; exact H) | exact H
      have Ny165 := Aside0.mk hy165
      clear hy165
      by_cases c11 : 1 ≤ (t162.length : Int)
      · rw [if_pos c11] at H
        have c11b0 := eq_true c11
        have c11b1 : decide (1 ≤ (t162.length : Int)) = true := decide_eq_true c11
        clear c11
        obtain ⟨y168, hy168⟩ : ∃ y_ : List (List Bool), y_ = (t162.drop 1) := ⟨_, rfl⟩
        replace H : (spec_EarliestWay.l0 k a2 y165 0 y168 (y168.length : Int) 0) = some (r1, r2) := by first | (rw [hy168]; with_reducible exact H) | (have H2_ := (Option.bind_some _ _).symm.trans H; rw [hy168]; with_reducible exact H2_) | (have H2_ := (Option.bind_some _ _).symm.trans H; with_reducible exact H2_) | with_reducible exact H | (rw [hy168]; exact H) | exact H
        have Ny168 := Aside0.mk hy168
        clear hy168
        have H' := Aside0.mk H
        clear H
        go_enter Tryd.func13, Tryd.ntmps13
        go_wp2_with (first | ((with_reducible refine gate_callee (f := 30) rfl ?_); refine goesL_ (some 21) rfl rfl Tryd.func30 (by kernel_rfl) rfl #[.string a0, .string a1, .int .i64 a2, .int .i64 a3] rfl (by (try simp only [List.map_toArray, List.map_cons, List.map_nil]); first | done | rfl | (simp only [List.length_drop, List.length_take]; rfl)) ?_; (with_reducible refine (spec_tdAsked.calls k a0 a1 a2 a3 true _ A5.out).mono ?_); rintro e w' ⟨rfl, ⟨nd, rfl⟩⟩; refine ⟨_, rfl, ?_⟩) | ((with_reducible refine gate_callee (f := 31) rfl ?_); refine goesL_ (some 27) rfl rfl Tryd.func31 (by kernel_rfl) rfl #[.string a0, .string a1, .int .i64 a2, .int .i64 a3] rfl (by (try simp only [List.map_toArray, List.map_cons, List.map_nil]); first | done | rfl | (simp only [List.length_drop, List.length_take]; rfl)) ?_; (with_reducible refine (spec_tdEnd.calls k a0 a1 a2 a3 t161 _ A7.out).mono ?_); rintro e w12 ⟨rfl, hb⟩; refine ⟨_, rfl, ?_⟩; have n0_ := Aside0.mk (below_step (by repeat (first | (with_reducible first | exact HB.out | apply below_alloc | apply pw_below_drewN | apply below_drew1) | exact HB.out)) hb); clear HB; have HB := n0_; clear n0_; (try clear hb); (try clear hb2); (try clear hk); (try clear hi)) | ((with_reducible refine gate_callee (f := 35) rfl ?_); refine goesL_ (some 35) rfl rfl Tryd.func35 (by kernel_rfl) rfl #[.string a0, .string a1, .int .i64 a2, .int .i64 a3, .int .i64 t161] rfl (by (try simp only [List.map_toArray, List.map_cons, List.map_nil]); first | done | rfl | (simp only [List.length_drop, List.length_take]; rfl)) ?_; (with_reducible refine (spec_tdBack.calls k a0 a1 a2 a3 t161 t162 _ A10.out).mono ?_); rintro e w13 ⟨v163, rfl, ho0, hb⟩; refine ⟨_, rfl, ?_⟩; have n0_ := Aside0.mk (Kd.N_lower (Kd.N_mono (ok' := fun k_ => True) ho0 (fun k_ hk_ => trivial)) (below_size (by repeat (first | (with_reducible first | exact HB.out | apply below_alloc | apply pw_below_drewN | apply below_drew1) | exact HB.out)))); have n1_ := Aside0.mk (below_step (by repeat (first | (with_reducible first | exact HB.out | apply below_alloc | apply pw_below_drewN | apply below_drew1) | exact HB.out)) hb); clear HB; have HO164 := n0_; have HB := n1_; clear n0_ n1_; (try clear hb); (try clear hb2); (try clear hk); (try clear hi); (try clear ho0)) | ((with_reducible refine gate_dst (N := 36) rfl ?_); refine Kd.R_lit (Kd.int .i64) _ 3 ?hg (N := 36) ?hd (xs := ([0] : List Int)) (inner := [.int .i64 0]) (ok := fun _ => True) (okp := fun _ => True) ?hr ?hp (fun _ hk => hk) trivial (Below.refl _ _) (Nat.le_refl _) (by simp) ?_; (case hd => rfl); (case hg => rfl); (case hr => first | (go_simp; done) | (go_simp; rfl)); (case hp => exact (Reps.one (show Kd.M (Kd.int .i64) _ _ _ 0 [.int .i64 0] from rfl) (Reps.none _ _))); intro v166 w14 ho15 hb hg_ hnew_; clear hg_ hnew_; (first | rw [← Ny165.out] at ho15 | (simp only [Int.reduceToNat] at ho15; rw [← Ny165.out] at ho15)); have n0_ := Aside0.mk (Kd.N_elder' (by (with_reducible repeat (first | apply Kd.N_alloc | apply Kd.N_drewN | apply Kd.N_drew)); exact HO164.out) (Kd.R_base ho15) hb); have n1_ := Aside0.mk (Kd.R_lower ho15 (below_size (by repeat (first | (with_reducible first | exact HB.out | apply below_alloc | apply pw_below_drewN | apply below_drew1) | exact HB.out)))); have n2_ := Aside0.mk (below_step (by repeat (first | (with_reducible first | exact HB.out | apply below_alloc | apply pw_below_drewN | apply below_drew1) | exact HB.out)) hb); clear HO164; clear HB; have HO164 := n0_; have HO167 := n1_; have HB := n2_; clear n0_ n1_ n2_; clear hb ho15; obtain ⟨Ao17, co17, eo17⟩ := Kd.N_slice HO164.out; subst eo17; have q16 : (1 : Int) ≤ ((t162.length : Int) : Int) := of_decide_eq_true (by first | (with_reducible assumption) | assumption); obtain ⟨i016, hi016, _, hsz16, _⟩ := info_parts info45; have hroom16 : t162.length ≤ co17 := (Kd.N_reads' HO164.out).2.1; have hC16 : Kd.F (Kd.slice 4 Kd.bool) _ _ Ao17 t162.length t162 := (Kd.V_at (base := w.heap.size) (Kd.N_V HO164.out)).2.2; have hcut16 := cut_from (P := Tryd.prog) 43 45 .i64 Tryd.underlying43 hi016 1 hsz16 Ao17 t162.length co17 1 (by omega) q16; have hr16 := Kd.F_cut (m := (1 : Int).toNat) (c := co17) hC16 (by omega) hroom16; obtain ⟨A16, hA16⟩ : ∃ A1, A1 = (if co17 = (1 : Int).toNat then Ao17 else (Ao17 : Option Addr).map (·.add ((1 : Int).toNat * 1))) := ⟨_, rfl⟩; obtain ⟨c16, hc16⟩ : ∃ c1, c1 = co17 - (1 : Int).toNat := ⟨_, rfl⟩; have hy16 : y168.length = t162.length - (1 : Int).toNat := (by rw [Ny168.out, List.length_drop] <;> omega); rw [show (t162).drop (1 : Int).toNat = y168 from Ny168.out.symm] at hr16; replace hr16 : Kd.F (Kd.slice 4 Kd.bool) _ _ A16 y168.length y168 := (by rw [hA16]; exact hr16); rw [← hy16, ← hA16, ← hc16] at hcut16; have HO172 := Aside0.mk (show Kd.V (Kd.slice 4 Kd.bool) 45 _ w.heap.size _ (.slice A16 y168.length c16) y168 from Kd.V_mk (by rw [hy16, hc16]; exact Nat.sub_le_sub_right hroom16 _) hr16); have HC172 := Aside0.mk (show y168.length ≤ c16 from by rw [hy16, hc16]; exact Nat.sub_le_sub_right hroom16 _); clear hr16 hC16 hroom16 hi016 hsz16 hc16; have KY16 := Aside0.mk hy16; have KA16 := Aside0.mk hA16; clear hy16 hA16; replace q16 := eq_true q16))
        go_loopg [12, 13, 40] k (fun kq v12 v13 v40 w' => ∃ (x12_1 : List Int) (x13_1 : Int) (x40_1 : Int), v13 = .int .i64 x13_1 ∧ v40 = .int .i64 x40_1 ∧ Aside0 (spec_EarliestWay.l0 kq a2 x12_1 x13_1 y168 (y168.length : Int) x40_1 = some (r1, r2)) ∧ Aside0 (kq ≤ k) ∧ Aside0 (Kd.R (Kd.int .i64) 3 w' w.heap.size (fun _ => True) v12 x12_1) ∧ Aside0 (Kd.V (Kd.slice 4 Kd.bool) 45 w' w.heap.size (fun k_ => some k_ ≠ (v12 : Value).ownBlock) (.slice A16 y168.length c16) y168) ∧ Aside0 (Below w.heap.size w w'))
        case atStart => exact ⟨(y165), (0), (0), (by first | rfl | (simp; done) | (simp [*]; done)), (by first | rfl | (simp; done) | (simp [*]; done)), H', ⟨Nat.le_refl _⟩, ⟨by (with_reducible repeat (first | apply Kd.R_alloc | apply Kd.R_drewN | apply Kd.R_drew)); exact HO167.out⟩, ⟨by (with_reducible repeat (first | apply Kd.V_alloc | apply Kd.V_drewN | apply Kd.V_drew)); exact Kd.V_mono HO172.out (fun _ hk => hk.2)⟩, ⟨by repeat (first | (with_reducible first | exact HB.out | apply below_alloc | apply pw_below_drewN | apply below_drew1) | exact HB.out)⟩⟩
        case round =>
          clear H'
          try clear c1
          try clear q1
          try clear p2
          try clear c3
          try clear c6
          try clear c8
          try clear c8b0
          try clear c11
          try clear c11b0
          try clear c11b1
          try clear c13
          try clear c16
          try clear q16
          try clear q16
          obtain ⟨x12_1, x13_1, x40_1, rfl, rfl, HA, HK1, HO_12, HO_38, HB⟩ := hrel
          cases gk with
          | zero => exact absurd HA.out (by simp [spec_EarliestWay.l0])
          | succ k1 =>
            have H := HA.out
            clear HA
            simp only [spec_EarliestWay.l0] at H
            by_cases c18 : x40_1 < (y168.length : Int)
            · rw [if_pos c18] at H
              have c18b0 : decide (x40_1 < (y168.length : Int)) = true := decide_eq_true c18
              clear c18
              by_cases c19 : 0 ≤ x40_1
              · rw [if_pos c19] at H
                have c19b0 : decide (0 ≤ x40_1) = true := decide_eq_true c19
                clear c19
                by_cases c20 : x40_1 < (y168.length : Int)
                · rw [if_pos c20] at H
                  have c20b0 : decide (x40_1 < (y168.length : Int)) = true := decide_eq_true c20
                  clear c20
                  replace H := Option.bind_eq_some_iff.mp H
                  obtain ⟨t174, A210, H⟩ := H
                  replace H : (spec_EarliestWay.l1 k1 a2 x12_1 (rd_L2 y168 x40_1) t174 y168 (y168.length : Int) x40_1) = some (r1, r2) := H
                  have A21 := Aside0.mk A210
                  clear A210
                  have H' := Aside0.mk H
                  clear H
                  have p173 : 0 ≤ (x40_1 : Int) := of_decide_eq_true (by first | (with_reducible assumption) | assumption)
                  have q173 : x40_1 < (y168.length : Int) := of_decide_eq_true (by first | (with_reducible assumption) | assumption)
                  obtain ⟨ad173, A173_0, c173_0, e173, hx173_0, hl173_0, hi173_0⟩ := at_L2 (Kd.V_reads' HO_38.out).2.2 x40_1 p173 q173
                  cases e173
                  obtain ⟨ce173, hce173, hMe173, hcc173⟩ := Kd.V_get HO_38.out [] x40_1 p173 (by first | exact q173 | exact of_decide_eq_true (by first | (with_reducible assumption) | assumption) | (have e_ := (Kd.V_reads' HO_38.out).1; omega))
                  obtain ⟨ua173_0, uc173_0, rfl, ul173_0, ge173_0⟩ := Kd.FK_slice_open hMe173
                  have hv173_0 := hcc173 0 _ rfl
                  rw [Nat.add_zero, show ((Kd.slice 4 Kd.bool)).sz = 1 from rfl, Nat.mul_one] at hv173_0
                  replace hv173_0 := Option.some.inj (hv173_0.symm.trans hx173_0)
                  injection hv173_0 with hva_ hvn_ hvc_
                  rw [hva_] at ge173_0
                  rw [hvc_] at ul173_0
                  have HL173_0 := Aside0.mk (show Kd.V Kd.bool 4 _ w.heap.size _ _ (rd_L2 y168 x40_1) from Kd.V_mk ul173_0 ge173_0)
                  clear hva_ hvn_ hvc_ ge173_0 ul173_0
                  clear hcc173 hce173
                  have HR173_0 := Aside0.mk hi173_0
                  have HC173_0 := Aside0.mk hl173_0
                  clear hi173_0 hl173_0
                  replace p173 := eq_true p173
                  replace q173 := eq_true q173
                  go_wp2_with (first | ((with_reducible refine gate_callee (f := 36) rfl ?_); refine goesL_ (some 47) rfl rfl Tryd.func36 (by kernel_rfl) rfl #[.int .i64 0, .int .i64 (wrap64 (x13_1 - a2))] rfl (by (try simp only [List.map_toArray, List.map_cons, List.map_nil]); first | done | rfl | (simp only [List.length_drop, List.length_take]; rfl)) ?_; (with_reducible refine (spec_l1Most.calls 0 (wrap64 (x13_1 - a2)) t174 _ A21.out).mono ?_); rintro e w' ⟨rfl, ⟨nd, rfl⟩⟩; refine ⟨_, rfl, ?_⟩))
                  go_loopg [16] k1 (fun kq v16 w' => ∃ (x16_2 : Int), v16 = .int .i64 x16_2 ∧ Aside0 (spec_EarliestWay.l1 kq a2 x12_1 (rd_L2 y168 x40_1) x16_2 y168 (y168.length : Int) x40_1 = some (r1, r2)) ∧ Aside0 (kq ≤ k1) ∧ Aside0 (Kd.R (Kd.int .i64) 3 w' w.heap.size (fun _ => True) u12 x12_1) ∧ Aside0 (Kd.V (Kd.slice 4 Kd.bool) 45 w' w.heap.size (fun k_ => some k_ ≠ (u12 : Value).ownBlock) (.slice (some ad173) y168.length c16) y168) ∧ Aside0 (Kd.C Kd.bool w' A173_0 (rd_L2 y168 x40_1).length (rd_L2 y168 x40_1)) ∧ Aside0 (Below w.heap.size w w'))
                  case atStart => exact ⟨(t174), (by first | rfl | (simp; done) | (simp [*]; done)), H', ⟨Nat.le_refl _⟩, ⟨by (with_reducible repeat (first | apply Kd.R_alloc | apply Kd.R_drewN | apply Kd.R_drew)); exact HO_12.out⟩, ⟨by (with_reducible repeat (first | apply Kd.V_alloc | apply Kd.V_drewN | apply Kd.V_drew)); exact HO_38.out⟩, ⟨by repeat (first | (with_reducible exact HR173_0.out) | (with_reducible refine Kd.C_alloc ?_ _) | (with_reducible refine Kd.C_drewN ?_ _) | (with_reducible refine Kd.C_drew ?_) | exact HR173_0.out)⟩, ⟨by repeat (first | (with_reducible first | exact HB.out | apply below_alloc | apply pw_below_drewN | apply below_drew1) | exact HB.out)⟩⟩
                  case round =>
                    clear H'
                    try clear c1
                    try clear p1
                    try clear q1
                    try clear hx1
                    try clear c2
                    try clear p2
                    try clear c3
                    try clear c6
                    try clear p6
                    try clear c8
                    try clear c8b0
                    try clear c11
                    try clear c11b0
                    try clear c11b1
                    try clear c13
                    try clear c16
                    try clear q16
                    try clear c17
                    try clear p17
                    try clear q17
                    try clear hx17
                    try clear c18
                    try clear c18b0
                    try clear c19
                    try clear c19b0
                    try clear c20
                    try clear c20b0
                    try clear hx173_0
                    try clear p173
                    try clear p2
                    try clear q1
                    try clear q16
                    try clear q173
                    obtain ⟨x16_2, rfl, HA, HK2, HO_12, HO_38, HR173_0, HB⟩ := hrel
                    cases gk with
                    | zero => exact absurd HA.out (by simp [spec_EarliestWay.l1])
                    | succ k2 =>
                      have H := HA.out
                      clear HA
                      simp only [spec_EarliestWay.l1] at H
                      by_cases c22 : 0 ≤ x16_2
                      · rw [if_pos c22] at H
                        have c22b0 : decide (0 ≤ x16_2) = true := decide_eq_true c22
                        clear c22
                        by_cases c23 : x16_2 < ((rd_L2 y168 x40_1).length : Int)
                        · rw [if_pos c23] at H
                          have c23b0 : decide (x16_2 < ((rd_L2 y168 x40_1).length : Int)) = true := decide_eq_true c23
                          clear c23
                          obtain ⟨bq24, hbq24⟩ : ∃ b_ : Bool, b_ = (rdOf false (rd_L2 y168 x40_1) x16_2) := ⟨_, rfl⟩
                          replace H : (if bq24 = true then (if x12_1.length < 17592186044416 then (spec_EarliestWay.l0 k2 a2 (x12_1 ++ [x16_2]) x16_2 y168 (y168.length : Int) (wrap64 (x40_1 + 1))) else (none)) else (spec_EarliestWay.l1 k2 a2 x12_1 (rd_L2 y168 x40_1) (wrap64 (x16_2 + 1)) y168 (y168.length : Int) x40_1)) = some (r1, r2) := by rw [← hbq24] at H; exact H
                          have Nbq24 := Aside0.mk hbq24
                          clear hbq24
                          by_cases c25 : bq24 = true
                          · subst c25
                            have H1 : (if x12_1.length < 17592186044416 then (spec_EarliestWay.l0 k2 a2 (x12_1 ++ [x16_2]) x16_2 y168 (y168.length : Int) (wrap64 (x40_1 + 1))) else (none)) = some (r1, r2) := by rw [if_pos rfl] at H; exact H
                            clear H
                            have H := H1
                            clear H1
                            by_cases c26 : x12_1.length < 17592186044416
                            · rw [if_pos c26] at H
                              have LMc26 := Aside0.mk c26
                              clear c26
                              obtain ⟨y176, hy176⟩ : ∃ y_ : List Int, y_ = (x12_1 ++ [x16_2]) := ⟨_, rfl⟩
                              replace H : (spec_EarliestWay.l0 k2 a2 y176 x16_2 y168 (y168.length : Int) (wrap64 (x40_1 + 1))) = some (r1, r2) := by first | (rw [hy176]; with_reducible exact H) | (have H2_ := (Option.bind_some _ _).symm.trans H; rw [hy176]; with_reducible exact H2_) | (have H2_ := (Option.bind_some _ _).symm.trans H; with_reducible exact H2_) | with_reducible exact H | (rw [hy176]; exact H) | exact H
                              have Ny176 := Aside0.mk hy176
                              clear hy176
                              have H' := Aside0.mk H
                              clear H
                              have p175 : 0 ≤ (x16_2 : Int) := of_decide_eq_true (by first | (with_reducible assumption) | assumption)
                              have q175 : x16_2 < ((rd_L2 y168 x40_1).length : Int) := of_decide_eq_true (by first | (with_reducible assumption) | assumption)
                              obtain ⟨ad175, e175, hx175_0⟩ := Kd.at_bool HR173_0.out x16_2 p175 q175
                              (try rw [← Nbq24.out] at hx175_0)
                              cases e175
                              (first | replace hx175_0 := (HB.out.cell (World.block_lt_of_cell? w _ hx175_0)).trans hx175_0 | skip)
                              replace p175 := eq_true p175
                              replace q175 := eq_true q175
                              go_wp2_with (first | ((with_reducible refine gate_builtin (b := .append) (xs := #[.tmp 56, .tmp 58]) rfl ?_); at_builtin; refine Kd.R_append (Kd.int .i64) (w0 := w) w.heap.size rfl (.tmp 56) (.tmp 58) 25 3 (.int .i64 0) 8 rfl Tryd.underlying25 info3 rfl (by decide) (by omega) u12 x12_1 x16_2 [.int .i64 x16_2] (fun _ => True) (fun _ => False) rfl rfl ?aP (fun _ hk => hk.elim) ?aF ?aO ?aB ?aS ?aL ?_; (case aP => exact rfl); (case aB => exact (by repeat (first | (with_reducible first | exact HB.out | apply below_alloc | apply pw_below_drewN | apply below_drew1) | exact HB.out))); (case aF => exact (fun _ _ => trivial)); (case aO => exact (by (with_reducible repeat (first | apply Kd.R_alloc | apply Kd.R_drewN | apply Kd.R_drew)); exact HO_12.out)); (case aS => exact (below_size (by repeat (first | (with_reducible first | exact HB.out | apply below_alloc | apply pw_below_drewN | apply below_drew1) | exact HB.out)))); (case aL => have := LMc26.out; omega); intro v177 w27 ho hb hg hat; rw [← Ny176.out] at ho; have n0_ := Aside0.mk (Kd.V_afterv (ok := (fun _ => True)) (by (with_reducible repeat (first | apply Kd.V_alloc | apply Kd.V_drewN | apply Kd.V_drew)); exact Kd.V_mono HO_38.out (fun _ hk => ⟨trivial, hk⟩)) hg hat); have n1_ := Aside0.mk (hb); have n2_ := Aside0.mk (ho); clear HO_38; clear HB; clear HO_12; have HO_38 := n0_; have HB := n1_; have HO178 := n2_; clear n0_ n1_ n2_; clear ho hb hg hat))
                              go_roundg k2
                              case measure => have := HK1.out; have := HK2.out; omega
                              case rel => exact ⟨(y176), (x16_2), (wrap64 (x40_1 + 1)), (by first | rfl | (simp; done) | (simp [*]; done)), (by first | rfl | (simp; done) | (simp [*]; done)), H', ⟨by have := HK1.out; have := HK2.out; omega⟩, ⟨by (with_reducible repeat (first | apply Kd.R_alloc | apply Kd.R_drewN | apply Kd.R_drew)); exact HO178.out⟩, ⟨by (with_reducible repeat (first | apply Kd.V_alloc | apply Kd.V_drewN | apply Kd.V_drew)); exact Kd.V_mono HO_38.out (fun _ hk => hk.2)⟩, ⟨by repeat (first | (with_reducible first | exact HB.out | apply below_alloc | apply pw_below_drewN | apply below_drew1) | exact HB.out)⟩⟩
                            · rw [if_neg c26] at H
                              exact absurd H (by simp)
                          · replace c25 := Bool.eq_false_iff.mpr c25
                            subst c25
                            have H1 : (spec_EarliestWay.l1 k2 a2 x12_1 (rd_L2 y168 x40_1) (wrap64 (x16_2 + 1)) y168 (y168.length : Int) x40_1) = some (r1, r2) := by rw [if_neg (show ¬ (false = true) by decide)] at H; exact H
                            clear H
                            have H := H1
                            clear H1
                            have H' := Aside0.mk H
                            clear H
                            have p175 : 0 ≤ (x16_2 : Int) := of_decide_eq_true (by first | (with_reducible assumption) | assumption)
                            have q175 : x16_2 < ((rd_L2 y168 x40_1).length : Int) := of_decide_eq_true (by first | (with_reducible assumption) | assumption)
                            obtain ⟨ad175, e175, hx175_0⟩ := Kd.at_bool HR173_0.out x16_2 p175 q175
                            (try rw [← Nbq24.out] at hx175_0)
                            cases e175
                            (first | replace hx175_0 := (HB.out.cell (World.block_lt_of_cell? w _ hx175_0)).trans hx175_0 | skip)
                            replace p175 := eq_true p175
                            replace q175 := eq_true q175
                            go_wp2
                            go_roundg k2
                            case measure => have := HK1.out; have := HK2.out; omega
                            case rel => exact ⟨(wrap64 (x16_2 + 1)), (by first | rfl | (simp; done) | (simp [*]; done)), H', ⟨by have := HK1.out; have := HK2.out; omega⟩, ⟨by (with_reducible repeat (first | apply Kd.R_alloc | apply Kd.R_drewN | apply Kd.R_drew)); exact HO_12.out⟩, ⟨by (with_reducible repeat (first | apply Kd.V_alloc | apply Kd.V_drewN | apply Kd.V_drew)); exact HO_38.out⟩, ⟨by repeat (first | (with_reducible exact HR173_0.out) | (with_reducible refine Kd.C_alloc ?_ _) | (with_reducible refine Kd.C_drewN ?_ _) | (with_reducible refine Kd.C_drew ?_) | exact HR173_0.out)⟩, ⟨by repeat (first | (with_reducible first | exact HB.out | apply below_alloc | apply pw_below_drewN | apply below_drew1) | exact HB.out)⟩⟩
                        · rw [if_neg c23] at H
                          exact absurd H (by simp)
                      · rw [if_neg c22] at H
                        exact absurd H (by simp)
                · rw [if_neg c20] at H
                  exact absurd H (by simp)
              · rw [if_neg c19] at H
                exact absurd H (by simp)
            · rw [if_neg c18] at H
              have c18b0 : decide (x40_1 < (y168.length : Int)) = false := decide_eq_false c18
              clear c18
              simp only [Option.some.injEq, Prod.mk.injEq] at H
              obtain ⟨rfl, rfl⟩ := H
              go_wp2
              go_ret2
              exact ⟨_, by first | rfl | (simp [errW_none, errW_some] <;> rfl) | (simp [*, errW_none, errW_some] <;> rfl), by (with_reducible repeat (first | apply Kd.R_alloc | apply Kd.R_drewN | apply Kd.R_drew)); exact HO_12.out, by repeat (first | (with_reducible first | exact HB.out | apply below_alloc | apply pw_below_drewN | apply below_drew1) | exact HB.out)⟩
      · rw [if_neg c11] at H
        exact absurd H (by simp)
  · replace c6 := Bool.eq_false_iff.mpr c6
    subst c6
    have H1 : (some (([] : List Int), false)) = some (r1, r2) := by rw [if_neg (show ¬ (false = true) by decide)] at H; exact H
    clear H
    have H := H1
    clear H1
    simp only [Option.some.injEq, Prod.mk.injEq] at H
    obtain ⟨rfl, rfl⟩ := H
    go_enter Tryd.func13, Tryd.ntmps13
    go_wp2_with (first | ((with_reducible refine gate_callee (f := 30) rfl ?_); refine goesL_ (some 21) rfl rfl Tryd.func30 (by kernel_rfl) rfl #[.string a0, .string a1, .int .i64 a2, .int .i64 a3] rfl (by (try simp only [List.map_toArray, List.map_cons, List.map_nil]); first | done | rfl | (simp only [List.length_drop, List.length_take]; rfl)) ?_; (with_reducible refine (spec_tdAsked.calls k a0 a1 a2 a3 false _ A5.out).mono ?_); rintro e w' ⟨rfl, ⟨nd, rfl⟩⟩; refine ⟨_, rfl, ?_⟩))
    go_ret2
    exact ⟨_, by first | rfl | (simp [errW_none, errW_some] <;> rfl) | (simp [*, errW_none, errW_some] <;> rfl), by first | exact Kd.R_nil _ _ _ _ _ | exact Kd.N_nil _ _ _ _ _ | exact Kd.V_nil _ _ _ _ _ | exact Kd.Q_nil _ _ _ _ _ | exact Kd.S_nil _ _ _ _ _, by repeat (first | (with_reducible first | exact HB.out | apply below_alloc | apply pw_below_drewN | apply below_drew1) | exact HB.out)⟩

/-! ### impl_within: function 42 -/
def impl_within.f (a0 : Int) (a1 : Int) (a2 : Int) : Option (Bool) := if a1 ≤ a0 then (some (decide (a0 ≤ a2))) else (some false)
set_option maxHeartbeats 8000000 in
set_option maxRecDepth 100000 in
theorem impl_within.calls (a0 : Int) (a1 : Int) (a2 : Int) (r : Bool) (w : World) (h : impl_within.f a0 a1 a2 = some r) :
    Calls Tryd.prog 42 #[.int .i64 a0, .int .i64 a1, .int .i64 a2] w fun e w' => e = .returned (.bool r) ∧ Drawn0 w w' := by
  have H : (if a1 ≤ a0 then (some (decide (a0 ≤ a2))) else (some false)) = some r := h
  clear h
  by_cases c4 : a1 ≤ a0
  · rw [if_pos c4] at H
    have c4b0 : decide (a1 ≤ a0) = true := decide_eq_true c4
    clear c4
    obtain rfl := Option.some.inj H
    go_enter Tryd.func42, Tryd.ntmps42
    go_wp2
    go_ret
    exact ⟨by first | rfl | (simp; done) | (simp [*]; done), by repeat (first | exact Drawn0.refl _ | apply Drawn0.step)⟩
  · rw [if_neg c4] at H
    have c4b0 : decide (a1 ≤ a0) = false := decide_eq_false c4
    clear c4
    obtain rfl := Option.some.inj H
    go_enter Tryd.func42, Tryd.ntmps42
    go_wp2
    go_ret
    exact ⟨by first | rfl | (simp; done) | (simp [*]; done), by repeat (first | exact Drawn0.refl _ | apply Drawn0.step)⟩

end Go.Proofs.YteijbohbdhemoaaDoor.PFnExactEarliestWay
