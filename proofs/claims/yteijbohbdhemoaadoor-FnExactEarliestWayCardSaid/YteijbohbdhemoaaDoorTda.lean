/- spec.tdArrive and tdEnd at this program: for each place the first hour, the far bank's alone; nothing that lay before is turned. Conditions: a right crossing, a start of at most 2000. -/
import Derived.Test.YteijbohbdhemoaaDoorArr
import Derived.Test.YteijbohbdhemoaaDoorStp
namespace Go.Proofs.YteijbohbdhemoaaDoor.Tda
set_option linter.unusedVariables false
set_option linter.unusedSimpArgs false
open Go.RowKit Go.Proofs.YteijbohbdhemoaaDoorW.PrintWords Go.Proofs.YteijbohbdhemoaaDoorW.PrintLast Go.Proofs.YteijbohbdhemoaaDoorW.PrintMore Sh Cr Sm Tb Pl Arr

/-- What stands: at, out. -/
def Sd (w0 W : World) (gN cN : Nat) (fN : Nat → Bool) (gO cO : Nat) (fO : Nat → Int) (P : Nat) : Prop :=
  Below w0.heap.size w0 W ∧ w0.heap.size ≤ gO ∧ Tb Value.bool 4 W gN cN P fN ∧ Tb (Value.int .i64) 3 W gO cO P fO
theorem Sd.ne {w0 W : World} {gN cN gO cO : Nat} {fN : Nat → Bool} {fO : Nat → Int} {P : Nat} (h : Sd w0 W gN cN fN gO cO fO P) : gN ≠ gO := by
  obtain ⟨h1, h2, ⟨X, hX, _⟩, ⟨Y, hY, _⟩⟩ := h
  exact blk_ne hX hY (by decide)
theorem Sd.told {w0 W : World} {gN cN gO cO : Nat} {fN : Nat → Bool} {fO : Nat → Int} {P : Nat} (h : Sd w0 W gN cN fN gO cO fO P) (i : Nat) (x : Int) : Sd w0 (W.setCell ⟨gO, i, none⟩ (.int .i64 x)) gN cN fN gO cO (fun k => if k = i then x else fO k) P :=
  ⟨below_set h.1 h.2.1, h.2.1, h.2.2.1.far h.ne _, h.2.2.2.set i x⟩
theorem Sd.congr {w0 W : World} {gN cN gO cO : Nat} {fN fN' : Nat → Bool} {fO fO' : Nat → Int} {P : Nat} (h : Sd w0 W gN cN fN gO cO fO P) (e1 : ∀ i, i < P → fN i = fN' i) (e2 : ∀ i, i < P → fO i = fO' i) : Sd w0 W gN cN fN' gO cO fO' P :=
  ⟨h.1, h.2.1, h.2.2.1.congr e1, h.2.2.2.congr e2⟩
set_option maxHeartbeats 8000000 in
set_option maxRecDepth 100000 in
theorem tdArrive (s t : ByteArray) (L st : Nat) (w : World) (hs : 1 ≤ s.size ∧ s.size ≤ 14) (ht : 1 ≤ t.size ∧ t.size ≤ 12) (hL : 1 ≤ L ∧ L ≤ 15) (hst : st ≤ 2000) :
    Calls Tryd.prog 39 #[.string s, .string t, .int .i64 (L : Int), .int .i64 (st : Int)] w fun e w' => ∃ v, e = .returned v ∧ Kd.R (Kd.int .i64) 3 w' w.heap.size (fun _ => True) v (arrs s t L st) ∧ Below w.heap.size w w' := by
  obtain ⟨P, hP⟩ : ∃ P : Nat, P = s.size + 2 := ⟨_, rfl⟩
  have HP := Aside0.mk hP
  have HZ := Aside0.mk (And.intro hs (And.intro ht (And.intro hL hst)))
  have PB := Aside0.mk (show 3 ≤ P ∧ P ≤ 16 by omega)
  have hw0 : wrap64 ((s.size : Int) + 2) = (P : Int) := w_id (x := (s.size : Int) + 2) (by omega) (by omega) |>.trans (by omega)
  have hs2 : s.size ≤ 9223372036854775807 := by omega
  have ht2 : t.size ≤ 9223372036854775807 := by omega
  clear hs ht hL hst hP
  go_enter Tryd.func39, Tryd.ntmps39
  go_upto_region 2 with (fail)
  rw [hw0]
  clear hw0
  go_upto_region 3 with (at_make; refine Kd.R_make (Kd.int .i64) _ 3 rfl (N := 20) rfl 25 _ _ rfl (P : Int) rfl rfl Tryd.underlying25 (.int .i64 0) 8 info3 rfl (by decide) (by omega) 0 (ok := fun _ => True) (okp := fun _ => True) rfl (fun _ hk => hk) trivial (by omega) (by have := PB.out; omega) (Below.refl _ _) (Nat.le_refl _) ?_; intro v1 w1 ho hb hg_ hnew_; clear hg_ hnew_; simp only [Int.toNat_natCast] at ho; obtain ⟨gO, cO, rfl, hgO, hO⟩ := Tb.of_R (h1 := fun _ => rfl) ho (by have := PB.out; omega); have T1 := Aside0.mk (And.intro hb (And.intro hgO (hO.congr (f' := fun i => if i < 0 then (-1 : Int) else 0) (fun i _ => by rw [if_neg (by omega)])))); clear ho hb hgO hO)
  go_wp2_with fail
  go_loopw [23] (fun v23 wr => ∃ p : Nat, v23 = .int .i64 (p : Int) ∧ Aside0 (p ≤ P) ∧ Aside0 (Below w.heap.size w wr ∧ w.heap.size ≤ gO ∧ Tb (Value.int .i64) 3 wr gO cO P (fun i => if i < p then (-1 : Int) else 0))) (fun v23 _ => P - (intOf v23).toNat)
  case atStart => exact ⟨0, rfl, ⟨Nat.zero_le _⟩, T1⟩
  case round =>
    clear T1
    obtain ⟨p, rfl, HPP, HS⟩ := hrel
    by_cases hp : p < P
    · have hp1 := decide_eq_true hp
      have hw : wrap64 ((p : Int) + 1) = ((p + 1 : Nat) : Int) := w_id (by omega) (by have := PB.out; omega)
      have hc := HS.out.2.2.cell p hp
      have hf := HS.out.2.2.frozen p
      go_wp2_with fail
      go_roundw
      case rel => exact ⟨p + 1, by rw [hw], ⟨by omega⟩, ⟨below_set HS.out.1 HS.out.2.1, HS.out.2.1, (HS.out.2.2.set p (-1)).congr (fun i hi => by
        by_cases c : i = p
        · rw [if_pos c, if_pos (by omega)]
        · rw [if_neg c]
          by_cases d : i < p
          · rw [if_pos d, if_pos (by omega)]
          · rw [if_neg d, if_neg (by omega)])⟩⟩
      case measure => (try rw [hw]); simp [intOf]; omega
    · have hp1 := decide_eq_false hp
      obtain rfl : p = P := by have := HPP.out; omega
      have T2 := Aside0.mk (And.intro HS.out.1 (And.intro HS.out.2.1 (HS.out.2.2.congr (f' := fun _ => (-1 : Int)) (fun i hi => by rw [if_pos hi]))))
      have hc := T2.out.2.2.cell 0 (by have := PB.out; omega)
      have hf := T2.out.2.2.frozen 0
      have hp0 : 0 < p := by have := PB.out; omega
      clear HS hp
      go_upto_region 10 with (at_make; refine Kd.R_make Kd.bool _ 4 rfl (N := 34) rfl 45 _ _ rfl (p : Int) rfl rfl Tryd.underlying45 (.bool false) 1 info4 rfl (by decide) (by omega) false (ok := fun _ => True) (okp := fun _ => True) rfl (fun _ hk => hk) trivial (by omega) (by have := PB.out; omega) (Below.refl _ _) (Nat.le_refl _) ?_; intro v1 w2 ho hb hg_ hnew_; clear hg_ hnew_; simp only [Int.toNat_natCast] at ho; obtain ⟨gN, cN, rfl, hgN, hN⟩ := Tb.of_R (h1 := fun _ => rfl) ho (by have := PB.out; omega); have T3 := Aside0.mk (show Sd w w2 gN cN (fun _ => false) gO cO _ p from ⟨below_step (below_set T2.out.1 T2.out.2.1) hb, T2.out.2.1, hN, (T2.out.2.2.set 0 (st : Int)).below hb⟩); have GN := Aside0.mk (show w.heap.size ≤ gN from Nat.le_trans (below_set (v := .int .i64 (st : Int)) (j := 0) T2.out.1 T2.out.2.1).size hgN); clear ho hb hgN hN)
      have hcN : w2.cell? ⟨gN, 0, none⟩ = some (.bool false) := T3.out.2.2.1.cell 0 (by have := PB.out; omega)
      have hfN := T3.out.2.2.1.frozen 0
      have T4 := Aside0.mk (show Sd w (w2.setCell ⟨gN, 0, none⟩ (.bool true)) gN cN (rch s t L st 0) gO cO (fst s t L st 0) p from
        ⟨below_set T3.out.1 GN.out, T3.out.2.1, (T3.out.2.2.1.set 0 true).congr (fun i _ => by simp only [rch, Tide.reach]; by_cases c : i = 0 <;> simp [c]), (T3.out.2.2.2.far (fun e => T3.out.ne e.symm) _).congr (fun i _ => by simp only [fst, Tide.first])⟩)
      obtain ⟨n, hn⟩ : ∃ n : Nat, n = t.size * (p + 1) := ⟨_, rfl⟩
      have hn2 : n ≤ 204 := by rw [hn]; exact Nat.le_trans (Nat.mul_le_mul HZ.out.2.1.2 (show p + 1 ≤ 17 by have := PB.out; omega)) (by omega)
      have HN := Aside0.mk (And.intro hn hn2)
      have hE : wrap64 ((st : Int) + wrap64 ((t.size : Int) * wrap64 ((p : Int) + 1))) = ((st + n : Nat) : Int) := by
        rw [show wrap64 ((p : Int) + 1) = ((p + 1 : Nat) : Int) from w_id (by omega) (by have := PB.out; omega), ← Int.natCast_mul, ← hn, show wrap64 (n : Int) = (n : Int) from w_id (by omega) (by omega)]
        exact w_id (by omega) (by have := HZ.out; omega)
      have HE := Aside0.mk hE
      clear hn hn2 hE hc hf T3
      go_wp2_with fail
      clear hcN hfN hp0
      go_loopw [12, 13] (fun v12 v13 wr => ∃ (j gN cN : Nat) (H : Int), v12 = .slice (some ⟨gN, 0, none⟩) p cN ∧ v13 = .int .i64 H ∧ Aside0 (H = ((st + j : Nat) : Int) ∧ j ≤ n) ∧ Aside0 (Sd w wr gN cN (rch s t L st j) gO cO (fst s t L st j) p)) (fun _ v13 _ => st + n - (intOf v13).toNat)
      case atStart => exact ⟨0, gN, cN, _, rfl, rfl, ⟨rfl, Nat.zero_le _⟩, T4⟩
      case round =>
        clear T4
        obtain ⟨j, gN, cN, H, rfl, rfl, HH, HS⟩ := hrel
        by_cases hlt : H < ((st + n : Nat) : Int)
        · have hc : decide (H < wrap64 ((st : Int) + wrap64 ((t.size : Int) * wrap64 ((p : Int) + 1)))) = true := by rw [HE.out]; exact decide_eq_true hlt
          have HLT := Aside0.mk hlt
          clear hlt
          have cs := Stp.step s t L st j HZ.out.1 HZ.out.2.1 HZ.out.2.2.1 (by have := HN.out; have := HH.out; have := HZ.out; omega) gN cN wr (by rw [← HP.out]; exact HS.out.2.2.1)
          rw [← HP.out, ← HH.out.1] at cs
          have CS := Aside0.mk cs
          clear cs
          go_wp2_with fail
          refine CS.out.mono ?_
          rintro e w5 ⟨v, rfl, hr, hb⟩
          obtain ⟨gB, cB, rfl, hgB, hB⟩ := Stp.of_tab (h1 := fun _ => rfl) hr (by have := PB.out; omega)
          have T6 := Aside0.mk (show Sd w w5 gB cB (rch s t L st (j + 1)) gO cO (op s t L st j 0) p from ⟨below_step HS.out.1 hb, HS.out.2.1, hB, (HS.out.2.2.2.below hb).congr (fun i _ => by unfold op; rw [if_neg (by omega)])⟩)
          clear hb hr hgB hB CS hc
          go_wp2_with fail
          go_loopw [57] (fun v57 wr => ∃ q : Nat, v57 = .int .i64 (q : Int) ∧ Aside0 (q ≤ p) ∧ Aside0 (Sd w wr gB cB (rch s t L st (j + 1)) gO cO (op s t L st j q) p)) (fun v57 _ => p - (intOf v57).toNat)
          case atStart => exact ⟨0, rfl, ⟨Nat.zero_le _⟩, T6⟩
          case round =>
            clear T6
            obtain ⟨q, rfl, HQ, HI⟩ := hrel
            by_cases hq : q < p
            · have hq1 := decide_eq_true hq
              have HQQ := Aside0.mk hq
              obtain ⟨b, hb⟩ : ∃ b, rch s t L st (j + 1) q = b := ⟨_, rfl⟩
              obtain ⟨x, hx⟩ : ∃ x, fst s t L st j q = x := ⟨_, rfl⟩
              have RB := Aside0.mk hb
              have RX := Aside0.mk hx
              have hcB : wr.cell? ⟨gB, q, none⟩ = some (.bool b) := (HI.out.2.2.1.cell q hq).trans (by rw [hb])
              have hcO : wr.cell? ⟨gO, q, none⟩ = some (.int .i64 x) := (HI.out.2.2.2.cell q hq).trans (by unfold op; rw [if_neg (by omega), hx])
              have hfO := HI.out.2.2.2.frozen q
              have hw : wrap64 ((q : Int) + 1) = ((q + 1 : Nat) : Int) := w_id (by omega) (by have := PB.out; omega)
              have HW := Aside0.mk (show wrap64 (H + 1) = ((st + j + 1 : Nat) : Int) from (w_id (by have := HH.out; omega) (by have := HH.out; have := HN.out; have := HZ.out; omega)).trans (by have := HH.out; omega))
              clear hb hx
              cases b with
              | false =>
                go_wp2_with fail
                go_roundw
                case rel => exact ⟨q + 1, by rw [hw], ⟨by have := HQQ.out; omega⟩, ⟨HI.out.congr (fun _ _ => rfl) (op_skip s t L st j q p (fun h => by rw [RB.out] at h; cases h.1))⟩⟩
                case measure => (try rw [hw]); have := HQQ.out; simp [intOf]; omega
              | true =>
                by_cases hx0 : x < 0
                · have hx1 := decide_eq_true hx0
                  have HX0 := Aside0.mk hx0
                  clear hx0
                  go_wp2_with fail
                  go_roundw
                  case rel => exact ⟨q + 1, by rw [hw], ⟨by have := HQQ.out; omega⟩, ⟨(HI.out.told q (wrap64 (H + 1))).congr (fun _ _ => rfl) (op_put s t L st j q p RB.out (by rw [RX.out]; exact HX0.out) _ HW.out)⟩⟩
                  case measure => (try rw [hw]); have := HQQ.out; simp [intOf]; omega
                · have hx1 := decide_eq_false hx0
                  have HX0 := Aside0.mk hx0
                  clear hx0
                  go_wp2_with fail
                  go_roundw
                  case rel => exact ⟨q + 1, by rw [hw], ⟨by have := HQQ.out; omega⟩, ⟨HI.out.congr (fun _ _ => rfl) (op_skip s t L st j q p (fun h => HX0.out (by rw [← RX.out]; exact h.2)))⟩⟩
                  case measure => (try rw [hw]); have := HQQ.out; simp [intOf]; omega
            · have hq1 := decide_eq_false hq
              obtain rfl : q = p := by have := HQ.out; omega
              clear hq
              have hw : wrap64 (H + 1) = H + 1 := w_id (by have := HH.out; omega) (by have := HH.out; have := HN.out; have := HZ.out; omega)
              have HSt := Aside0.mk (show Sd w wr gB cB (rch s t L st (j + 1)) gO cO (fst s t L st (j + 1)) q from HI.out.congr (fun _ _ => rfl) (fun i hi => by unfold op; rw [if_pos hi]))
              go_wp2_with fail
              go_roundw
              case rel => exact ⟨j + 1, gB, cB, H + 1, rfl, by rw [hw], ⟨by have := HH.out; have := HLT.out; omega⟩, HSt⟩
              case measure => (try rw [hw]); have := HLT.out; have := HH.out; simp [intOf]; omega
        · have hc : decide (H < wrap64 ((st : Int) + wrap64 ((t.size : Int) * wrap64 ((p : Int) + 1)))) = false := by rw [HE.out]; exact decide_eq_false hlt
          have HJ := Aside0.mk (show j = n by have := HH.out; omega)
          clear hlt
          go_wp2_with fail
          go_ret
          refine ⟨_, rfl, ?_, HS.out.1⟩
          have hr := HS.out.2.2.2.to_R (h1 := fun _ => rfl) w.heap.size HS.out.2.1
          rw [HJ.out] at hr
          have e : tab p (fst s t L st n) = arrs s t L st := by
            unfold arrs
            rw [← HP.out]
            refine tab_congr fun i hi => ?_
            rw [HP.out] at hi
            rw [HN.out.1, HP.out]
            exact Tide.first_enough (T := t.size) (fun p h => dryN_tide s t p h HZ.out.2.1.1) (fun h => dryN_bank s t h) (by omega) (by have := HZ.out; omega) hi (by rw [Nat.mul_comm (s.size + 2)]; exact Nat.mul_le_mul_left _ (by omega))
          rw [← e]
          exact hr
end Go.Proofs.YteijbohbdhemoaaDoor.Tda
