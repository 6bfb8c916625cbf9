/- EarliestWay at this program, spec and impl alike. Condition: the texts lie within the reach. -/
import Derived.Test.YteijbohbdhemoaaDoorBk
import Derived.Test.YteijbohbdhemoaaDoorWy
import Derived.Test.YteijbohbdhemoaaDoorEa
namespace Go.Proofs.YteijbohbdhemoaaDoor.Ew
set_option linter.unusedVariables false
set_option linter.unusedSimpArgs false
open Go.RowKit Go.Proofs.YteijbohbdhemoaaDoorW.PrintWords Go.Proofs.YteijbohbdhemoaaDoorW.PrintLast Go.Proofs.YteijbohbdhemoaaDoorW.PrintMore Sh Cr Sm Tb Pl Aq Nd Rs Cw Bk Wy
/-- What the hours' way tells. -/
def val (s t : ByteArray) (l h : Int) : List Int × Bool := if okAsked s t l h = true then (if endOf s t l.toNat h.toNat < 0 then ([], false) else (tab ((endOf s t l.toNat h.toNat - h).toNat + 1) (way s t l.toNat h.toNat (endOf s t l.toNat h.toNat - h).toNat), true)) else ([], false)
theorem end_is (s t : ByteArray) (L st : Nat) (h : ¬ endOf s t L st < 0) : ∃ H, H ≤ (s.size + 2) * t.size ∧ endOf s t L st = ((st + H : Nat) : Int) ∧ rch s t L st H (s.size + 1) = true ∧ ∀ k, k < H → rch s t L st k (s.size + 1) = false :=
  (end_cases s t L st).resolve_left (fun x => by omega)
theorem val_len (s t : ByteArray) (l h : Int) : (val s t l h).1.length ≤ 200 := by
  unfold val
  split
  · rename_i hk
    obtain ⟨_, _, L, st, rfl, rfl, z1, z2, z3, z4⟩ := asked_is hk
    split
    · simp
    · rename_i hx
      obtain ⟨H, h1, h2, _⟩ := end_is s t _ _ hx
      have := pt_le z1.2 z2.2
      simp only [tab_len]
      rw [h2]
      simp
      omega
  · simp
/-- The way so far, and the rows of the spec. -/
def WB (w0 W : World) (gQ cQ m : Nat) (f : Nat → Int) (gO cO : Nat) (G C : Nat → Nat) (n P : Nat) (F : Nat → Nat → Bool) : Prop :=
  Below w0.heap.size w0 W ∧ w0.heap.size ≤ gQ ∧ Tb (Value.int .i64) 3 W gQ cQ m f ∧ Tb Subtype.val 45 W gO cO n (fun i => rowO (G i) P (C i)) ∧ (∀ i, i < n → Tb Value.bool 4 W (G i) (C i) P (F i))
theorem WB.below {w0 W W' : World} {gQ cQ m gO cO n P : Nat} {f : Nat → Int} {G C : Nat → Nat} {F : Nat → Nat → Bool} (h : WB w0 W gQ cQ m f gO cO G C n P F) (hb : Below W.heap.size W W') : WB w0 W' gQ cQ m f gO cO G C n P F :=
  ⟨below_step h.1 hb, h.2.1, h.2.2.1.below hb, h.2.2.2.1.below hb, fun i hi => (h.2.2.2.2 i hi).below hb⟩
theorem WB.app {w0 W W1 : World} {gQ cQ m gO cO n P : Nat} {f : Nat → Int} {G C : Nat → Nat} {F : Nat → Nat → Bool} (h : WB w0 W gQ cQ m f gO cO G C n P F) {v1 : Value} {x : Int} (hx : f m = x)
    (hb : Below w0.heap.size w0 W1) (hg : W.grownBy W1 (some gQ)) (hr : Kd.R (Kd.int .i64) 3 W1 w0.heap.size (fun _ => True) v1 (tab m f ++ [x])) :
    ∃ g c, v1 = .slice (some ⟨g, 0, none⟩) (m + 1) c ∧ WB w0 W1 g c (m + 1) f gO cO G C n P F := by
  rw [← hx, tab_snoc] at hr
  obtain ⟨g, c, rfl, hbo, hT⟩ := Stp.of_tab (h1 := fun _ => rfl) hr (by omega)
  obtain ⟨h1, h2, h3, h4, h5⟩ := h
  refine ⟨g, c, rfl, hb, hbo, hT, Bk.Tb.grown h4 hg (fun k hk => ?_), fun i hi => Bk.Tb.grown (h5 i hi) hg (fun k hk => ?_)⟩
  · cases hk; exact Tb.ne h3 h4 (by decide)
  · cases hk; exact Tb.ne h3 (h5 i hi) (by decide)
theorem lit_one {W : World} {x : Int} {f : Nat → Int} (hx : f 0 = x) : Tb (Value.int .i64) 3 (W.alloc (.cells #[.int .i64 x] 3 (0, 0))) W.heap.size 1 1 f :=
  ⟨[.int .i64 x], blk_new W _, rfl, Nat.le_refl _, by decide, fun i hi => by
    obtain rfl : i = 0 := by omega
    rw [hx]; rfl⟩
set_option maxHeartbeats 16000000 in
set_option maxRecDepth 100000 in
theorem spec (s t : ByteArray) (l h : Int) (w : World) (hs : s.size ≤ 140737488351232) (ht : t.size ≤ 140737488351232) :
    Calls Tryd.prog 13 #[.string s, .string t, .int .i64 l, .int .i64 h] w fun e w' => ∃ v, e = .returned (.tuple #[v, .bool (val s t l h).2]) ∧ Kd.R (Kd.int .i64) 3 w' w.heap.size (fun _ => True) v (val s t l h).1 ∧ Below w.heap.size w w' := by
  have ca := asked s t l h w hs ht
  unfold val
  cases hk : okAsked s t l h with
  | false =>
    rw [hk] at ca
    have CA := Aside0.mk ca
    rw [if_neg (by decide)]
    clear ca hk hs ht
    go_enter Tryd.func13, Tryd.ntmps13
    go_wp2_with fail
    refine CA.out.mono ?_
    rintro e w1 ⟨rfl, hb⟩
    have HB := Aside0.mk hb
    clear hb
    go_wp2_with fail
    go_ret2
    exact ⟨_, rfl, Kd.R_nil _ _ _ _ _, HB.out⟩
  | true =>
    rw [hk] at ca
    have CA := Aside0.mk ca
    rw [if_pos rfl]
    obtain ⟨_, _, L, st, rfl, rfl, z1, z2, z3, z4⟩ := asked_is hk
    rw [Int.toNat_natCast, Int.toNat_natCast]
    have CE := Aside0.mk (fun W => End.tdEnd s t L st W z1 z2 z3 (by omega))
    by_cases hx : endOf s t L st < 0
    · rw [if_pos hx]
      have hx1 := decide_eq_true hx
      clear ca hk hs ht z1 z2 z3 z4
      generalize endOf s t L st = x at CE hx1 ⊢
      clear hx
      go_enter Tryd.func13, Tryd.ntmps13
      go_wp2_with fail
      refine CA.out.mono ?_
      rintro e w1 ⟨rfl, hb⟩
      have HB := Aside0.mk hb
      clear hb
      go_wp2_with fail
      refine (CE.out _).mono ?_
      rintro e w2 ⟨rfl, hb⟩
      replace HB := Aside0.mk (below_step HB.out hb)
      clear hb
      go_wp2_with fail
      go_ret2
      exact ⟨_, rfl, Kd.R_nil _ _ _ _ _, HB.out⟩
    · rw [if_neg hx]
      obtain ⟨H, hH, hE, hr, hn⟩ := end_is s t L st hx
      rw [hE, show (((st + H : Nat) : Int) - (st : Int)).toNat = H by omega]
      rw [hE] at CE
      have hH2 : H ≤ 192 := Nat.le_trans hH (pt_le z1.2 z2.2)
      have H1 : Aside0 (1 ≤ H) := ⟨by
        rcases H with _ | H
        · simp [Tide.reach] at hr
        · omega⟩
      have ha := Wy.ahead s t L st z1 z2 z3 H hr hn
      have FO := Aside0.mk (fun j (hj : j < H) => found s t L st z1 z2 z3 H hn ha j hj)
      have IV := Aside0.mk (fun j (hj : j ≤ H) => (inv s t L st z1 z2 z3 H hn ha j hj).1)
      have CB := Aside0.mk (fun W => Bk.tdBack s t L st H W z1 z2 z3 (by omega))
      have HZ := Aside0.mk (And.intro z1 (And.intro z2 (And.intro z3 (And.intro z4 hH2))))
      obtain ⟨E, hEE⟩ : ∃ E : Int, ((st + H : Nat) : Int) = E := ⟨_, rfl⟩
      rw [hEE] at CE CB
      have hx1 := decide_eq_false (show ¬ E < 0 by omega)
      obtain ⟨P, hP⟩ : ∃ P : Nat, P = s.size + 2 := ⟨_, rfl⟩
      rw [← hP] at CB
      have HP := Aside0.mk (And.intro hP (show P ≤ 16 by omega))
      clear ca hk hs ht z1 z2 z3 z4 hx hH hE hr hn ha hH2 hEE hP
      go_enter Tryd.func13, Tryd.ntmps13
      go_wp2_with fail
      refine CA.out.mono ?_
      rintro e w1 ⟨rfl, hb⟩
      have HB := Aside0.mk hb
      clear hb
      go_wp2_with fail
      refine (CE.out _).mono ?_
      rintro e w2 ⟨rfl, hb⟩
      replace HB := Aside0.mk (below_step HB.out hb)
      clear hb
      go_wp2_with fail
      refine (CB.out _).mono ?_
      rintro e w3 ⟨gO, cO, G, C, rfl, hR⟩
      have HR := Aside0.mk hR
      have HB3 := Aside0.mk (below_step HB.out hR.1)
      have S0 : Aside0 (WB w (w3.alloc (.cells #[.int .i64 0] 3 (0, 0))) w3.heap.size 1 1 (way s t L st H) gO cO G C (H + 1) P (fun i => sb s t L (st + H) (H - i))) := ⟨below_alloc HB3.out _, HB3.out.size, lit_one rfl, hR.2.2.1.below (below_alloc (Below.refl _ _) _), fun i hi => (hR.2.2.2 i hi).2.below (below_alloc (Below.refl _ _) _)⟩
      have hco : H + 1 ≤ cO := hR.2.2.1.cap_le.1
      have hc1 : ¬ cO = 1 := by have := H1.out; omega
      have hc2 : ¬ cO - 1 = 0 := by have := H1.out; omega
      clear hR
      go_wp2_with fail
      clear hc1 hc2 hco
      go_loopw [12, 13, 40] (fun v12 v13 v40 wr => ∃ (j a gQ cQ : Nat), v12 = .slice (some ⟨gQ, 0, none⟩) (j + 1) cQ ∧ v13 = .int .i64 (a : Int) ∧ v40 = .int .i64 (j : Int) ∧ Aside0 (j ≤ H ∧ a = pl s t L st H j) ∧ Aside0 (WB w wr gQ cQ (j + 1) (way s t L st H) gO cO G C (H + 1) P (fun i => sb s t L (st + H) (H - i)))) (fun _ _ v40 _ => H - (intOf v40).toNat)
      case atStart => exact ⟨0, 0, _, _, by first | rfl | simp, rfl, rfl, ⟨Nat.zero_le _, rfl⟩, S0⟩
      case round =>
        clear S0 HB HB3 HR
        obtain ⟨j, a, gQ, cQ, rfl, rfl, rfl, HJ, HS⟩ := hrel
        by_cases hj : j < H
        · have hj1 := decide_eq_true hj
          have HJJ := Aside0.mk hj
          obtain ⟨f1, f2, f3, f4, f5⟩ := FO.out j hj
          have hq0 := IV.out (j + 1) hj
          rw [← HJ.out.2] at f4 f5
          obtain ⟨q0, hq⟩ : ∃ q0, pl s t L st H (j + 1) = q0 := ⟨_, rfl⟩
          rw [hq] at f3 f4 f5 hq0
          have HQ0 := Aside0.mk (And.intro hq (And.intro f3 (And.intro f4 (And.intro f5 hq0))))
          have haP : Aside0 (a < P) := ⟨by have := IV.out j HJ.out.1; rw [HJ.out.2, HP.out.1]; exact this⟩
          have WJ : Aside0 (wrap64 ((j : Int) + 1) = ((j + 1 : Nat) : Int)) := ⟨w_id (by omega) (by have := HZ.out; omega)⟩
          have WL : Aside0 (wrap64 ((a : Int) - (L : Int)) = (a : Int) - (L : Int)) := ⟨w_id (by have := HZ.out; omega) (by have := haP.out; have := HP.out; omega)⟩
          have hcr : wr.cell? ⟨gO, 1 + j, none⟩ = some (.slice (some ⟨G (j + 1), 0, none⟩) P (C (j + 1))) := by
            rw [Nat.add_comm]
            exact HS.out.2.2.2.1.cell (j + 1) (by omega)
          clear f1 f2 f3 f4 f5 hq0 hq
          have hwl := WL.out
          go_wp2_with fail
          refine (mostS a L _).mono ?_
          rintro e w6 ⟨rfl, ⟨nd, rfl⟩⟩
          clear hwl hcr
          replace HS := Aside0.mk (HS.out.below (pw_below_drewN (Below.refl _ _) nd))
          generalize wr.drewN nd = w7 at HS ⊢
          go_wp2_with fail
          go_loop [16] (fun v16 => ∃ q : Nat, v16 = .int .i64 (q : Int) ∧ Aside0 (a - L ≤ q ∧ q ≤ q0)) (fun v16 => P - (intOf v16).toNat)
          case atStart => exact ⟨a - L, rfl, ⟨Nat.le_refl _, HQ0.out.2.2.1⟩⟩
          case round =>
            obtain ⟨q, rfl, HQ⟩ := hrel
            have hqP : q < P := by have := HQ.out; have := HQ0.out.2.2.2.2; have := HP.out; omega
            by_cases c : q = q0
            · subst c
              have hcq : w7.cell? ⟨G (j + 1), q, none⟩ = some (.bool true) := ((HS.out.2.2.2.2 (j + 1) (by have := HJJ.out; omega)).cell q hqP).trans (by dsimp only; rw [HQ0.out.2.1])
              have HW : Aside0 (way s t L st H (j + 1) = ((q : Nat) : Int)) := ⟨by unfold way; rw [HQ0.out.1]⟩
              have hwj := WJ.out
              clear hqP
              have hqP : q < P := by have := HQ0.out.2.2.2.2; have := HP.out; omega
              go_wp2_with ((with_reducible refine gate_builtin (b := .append) (xs := #[.tmp 56, .tmp 58]) rfl ?_); at_builtin; refine Kd.R_append (Kd.int .i64) (w0 := w) w.heap.size rfl (.tmp 56) (.tmp 58) 25 3 (.int .i64 0) 8 rfl Tryd.underlying25 info3 rfl (by decide) (by omega) (.slice (some ⟨gQ, 0, none⟩) (j + 1) cQ) (tab (j + 1) (way s t L st H)) ((q : Nat) : Int) [.int .i64 ((q : Nat) : Int)] (fun _ => True) (fun _ => False) rfl rfl ?aP (fun _ hk => hk.elim) ?aF ?aO ?aB ?aS ?aL ?_; (case aP => exact rfl); (case aB => exact HS.out.1); (case aF => exact (fun _ _ => trivial)); (case aO => exact HS.out.2.2.1.to_R (h1 := fun _ => rfl) w.heap.size HS.out.2.1); (case aS => exact HS.out.1.size); (case aL => have := HZ.out; have := HJJ.out; rw [tab_len]; omega); intro v_n w_n ho hb hg hat; obtain ⟨gX, cX, rfl, hX⟩ := HS.out.app HW.out hb hg ho; have HX := Aside0.mk hX; clear ho hb hg hat hX)
              go_roundw
              case rel => exact ⟨j + 1, q, gX, cX, rfl, rfl, by first | rfl | rw [hwj], ⟨HJJ.out, HQ0.out.1.symm⟩, HX⟩
              case measure => (try rw [hwj]); have := HJJ.out; simp [intOf]; omega
            · have hcq : w7.cell? ⟨G (j + 1), q, none⟩ = some (.bool false) := ((HS.out.2.2.2.2 (j + 1) (by have := HJJ.out; omega)).cell q hqP).trans (by dsimp only; rw [HQ0.out.2.2.2.1 q HQ.out.1 (by have := HQ.out; omega)])
              have WQ : Aside0 (wrap64 ((q : Int) + 1) = ((q + 1 : Nat) : Int)) := ⟨w_id (by omega) (by have := HP.out; omega)⟩
              have HQ2 : Aside0 (a - L ≤ q + 1 ∧ q + 1 ≤ q0) := ⟨by have := HQ.out; omega⟩
              have HQP := Aside0.mk hqP
              clear c
              have hwq := WQ.out
              go_wp2_with fail
              go_round
              case rel => exact ⟨q + 1, by first | rfl | rw [hwq], HQ2⟩
              case measure => (try rw [hwq]); have := HQP.out; simp [intOf]; omega
        · have hj1 := decide_eq_false hj
          have hje : j = H := by have := HJ.out; omega
          subst hje
          clear hj
          go_wp2_with fail
          go_ret2
          exact ⟨_, rfl, HS.out.2.2.1.to_R (h1 := fun _ => rfl) w.heap.size HS.out.2.1, HS.out.1⟩
/-- The way so far, the crossing's block, and the rows of the counts. -/
def WS (w0 W : World) (s t : ByteArray) (L : Int) (gC gQ cQ m : Nat) (f : Nat → Int) (gX cX : Nat) (G C : Nat → Nat) (n P : Nat) (F : Nat → Nat → Int) : Prop :=
  Below w0.heap.size w0 W ∧ w0.heap.size ≤ gQ ∧ Tb (Value.int .i64) 3 W gQ cQ m f ∧ W.heap[gC]? = some (box s t L) ∧ Tb Subtype.val 25 W gX cX n (fun i => rowO (G i) P (C i)) ∧ (∀ i, i < n → Tb (Value.int .i64) 3 W (G i) (C i) P (F i)) ∧ (∀ i, i < n → gQ ≠ G i)
theorem WS.below {w0 W W' : World} {s t : ByteArray} {L : Int} {gC gQ cQ m gX cX n P : Nat} {f : Nat → Int} {G C : Nat → Nat} {F : Nat → Nat → Int} (h : WS w0 W s t L gC gQ cQ m f gX cX G C n P F) (hb : Below W.heap.size W W') : WS w0 W' s t L gC gQ cQ m f gX cX G C n P F :=
  ⟨below_step h.1 hb, h.2.1, h.2.2.1.below hb, blk_below h.2.2.2.1 hb, h.2.2.2.2.1.below hb, fun i hi => (h.2.2.2.2.2.1 i hi).below hb, h.2.2.2.2.2.2⟩
theorem WS.app {w0 W W1 : World} {s t : ByteArray} {L : Int} {gC gQ cQ m gX cX n P : Nat} {f : Nat → Int} {G C : Nat → Nat} {F : Nat → Nat → Int} (h : WS w0 W s t L gC gQ cQ m f gX cX G C n P F) {v1 : Value} {x : Int} (hx : f m = x)
    (hb : Below w0.heap.size w0 W1) (hg : W.grownBy W1 (some gQ)) (hr : Kd.R (Kd.int .i64) 3 W1 w0.heap.size (fun _ => True) v1 (tab m f ++ [x])) (hat : v1.ownBlock = some gQ ∨ ∃ b, v1.ownBlock = some b ∧ W.heap.size ≤ b) :
    ∃ g c, v1 = .slice (some ⟨g, 0, none⟩) (m + 1) c ∧ WS w0 W1 s t L gC g c (m + 1) f gX cX G C n P F := by
  rw [← hx, tab_snoc] at hr
  obtain ⟨g, c, rfl, hbo, hT⟩ := Stp.of_tab (h1 := fun _ => rfl) hr (by omega)
  obtain ⟨h1, h2, h3, h4, h5, h6, h7⟩ := h
  refine ⟨g, c, rfl, hb, hbo, hT, blk_grown h4 hg (fun e => ?_), Bk.Tb.grown h5 hg (fun k hk => ?_), fun i hi => Bk.Tb.grown (h6 i hi) hg (fun k hk => ?_), fun i hi e => ?_⟩
  · cases e
    obtain ⟨X, hX, _⟩ := h3
    rw [hX] at h4; cases h4
  · cases hk; exact Tb.ne h3 h5 (by decide)
  · cases hk; exact h7 i hi
  · rcases hat with q | ⟨b, q1, q2⟩
    · have e2 : g = gQ := by simpa [Value.ownBlock] using q
      exact h7 i hi (e2.symm.trans e)
    · have e2 : g = b := by simpa [Value.ownBlock] using q1
      have := (h6 i hi).lt
      omega
theorem WS.held {w0 W : World} {s t : ByteArray} {L : Int} {gC gQ cQ m gX cX n P : Nat} {f : Nat → Int} {G C : Nat → Nat} {F : Nat → Nat → Int} (h : WS w0 W s t L gC gQ cQ m f gX cX G C n P F) (k q : Nat) (hk : k < n) (hq : q < P) {x : Int} (hx : F k q = x) :
    W.cell? ⟨gX, k, none⟩ = some (.slice (some ⟨G k, 0, none⟩) P (C k)) ∧ W.cell? ⟨G k, q, none⟩ = some (.int .i64 x) ∧ Aside0 (WS w0 W s t L gC gQ cQ m f gX cX G C n P F) :=
  ⟨h.2.2.2.2.1.cell k hk, ((h.2.2.2.2.2.1 k hk).cell q hq).trans (by rw [hx]), ⟨h⟩⟩
theorem WS.held2 {w0 W : World} {s t : ByteArray} {L : Int} {gC gQ cQ m gX cX n P : Nat} {f : Nat → Int} {G C : Nat → Nat} {F : Nat → Nat → Int} (h : WS w0 W s t L gC gQ cQ m f gX cX G C n P F) (k q j : Nat) (hk : k < n) (hq : q < P) (hj : j < m) {x y : Int} (hx : F k q = x) (hy : f j = y) :
    W.cell? ⟨gX, k, none⟩ = some (.slice (some ⟨G k, 0, none⟩) P (C k)) ∧ W.cell? ⟨G k, q, none⟩ = some (.int .i64 x) ∧ W.cell? ⟨gQ, j, none⟩ = some (.int .i64 y) ∧ W.cell? ⟨gC, 0, none⟩ = some (.string s) ∧ W.cell? ⟨gC, 1, none⟩ = some (.string t) ∧ W.cell? ⟨gC, 2, none⟩ = some (.int .i64 L) ∧ Aside0 (WS w0 W s t L gC gQ cQ m f gX cX G C n P F) :=
  ⟨(h.held k q hk hq hx).1, (h.held k q hk hq hx).2.1, (h.2.2.1.cell j hj).trans (by rw [hy]), (blk_cell h.2.2.2.1 0).trans rfl, (blk_cell h.2.2.2.1 1).trans rfl, (blk_cell h.2.2.2.1 2).trans rfl, ⟨h⟩⟩
theorem boxAt {W : World} {g : Nat} {s t : ByteArray} {L : Int} (h : W.heap[g]? = some (box s t L)) : W.cell? ⟨g, 0, none⟩ = some (.string s) ∧ W.cell? ⟨g, 1, none⟩ = some (.string t) ∧ W.cell? ⟨g, 2, none⟩ = some (.int .i64 L) :=
  ⟨(blk_cell h 0).trans rfl, (blk_cell h 1).trans rfl, (blk_cell h 2).trans rfl⟩
set_option maxHeartbeats 16000000 in
set_option maxRecDepth 100000 in
theorem impl (s t : ByteArray) (l h : Int) (w : World) (hs : s.size ≤ 140737488351232) (ht : t.size ≤ 140737488351232) :
    Calls Tryd.prog 14 #[.string s, .string t, .int .i64 l, .int .i64 h] w fun e w' => ∃ v, e = .returned (.tuple #[v, .bool (val s t l h).2]) ∧ Kd.R (Kd.int .i64) 3 w' w.heap.size (fun _ => True) v (val s t l h).1 ∧ Below w.heap.size w w' := by
  have hu39 := Tryd.underlying39
  have ca := Ea.impl s t l h w hs ht
  unfold val
  unfold Ea.val at ca
  cases hk : okAsked s t l h with
  | false =>
    rw [hk, if_neg (by decide)] at ca
    have CA := Aside0.mk ca
    rw [if_neg (by decide)]
    clear ca hk hs ht
    go_enter Tryd.func14, Tryd.ntmps14
    go_wp2_with fail
    refine CA.out.mono ?_
    rintro e w1 ⟨rfl, hb⟩
    have HB := Aside0.mk hb
    clear hb
    go_wp2_with fail
    go_ret2
    exact ⟨_, rfl, Kd.R_nil _ _ _ _ _, HB.out⟩
  | true =>
    rw [hk, if_pos rfl] at ca
    rw [if_pos rfl]
    obtain ⟨_, _, L, st, rfl, rfl, z1, z2, z3, z4⟩ := asked_is hk
    rw [Int.toNat_natCast, Int.toNat_natCast] at ca ⊢
    by_cases hx : endOf s t L st < 0
    · rw [if_pos hx] at ca ⊢
      have CA := Aside0.mk ca
      clear ca hk hs ht z1 z2 z3 z4 hx
      go_enter Tryd.func14, Tryd.ntmps14
      go_wp2_with fail
      refine CA.out.mono ?_
      rintro e w1 ⟨rfl, hb⟩
      have HB := Aside0.mk hb
      clear hb
      go_wp2_with fail
      go_ret2
      exact ⟨_, rfl, Kd.R_nil _ _ _ _ _, HB.out⟩
    · rw [if_neg hx] at ca ⊢
      obtain ⟨H, hH, hE, hr, hn⟩ := end_is s t L st hx
      rw [hE] at ca ⊢
      rw [show (((st + H : Nat) : Int) - (st : Int)).toNat = H by omega]
      have hH2 : H ≤ 192 := Nat.le_trans hH (pt_le z1.2 z2.2)
      have ha := Wy.ahead s t L st z1 z2 z3 H hr hn
      have FO := Aside0.mk (fun j (hj : j < H) => found s t L st z1 z2 z3 H hn ha j hj)
      have IV := Aside0.mk (fun j (hj : j ≤ H) => (inv s t L st z1 z2 z3 H hn ha j hj).1)
      have CN := Aside0.mk (fun W => Ct.counts s t L st H W z1 z2 z3 (by omega))
      have HZ := Aside0.mk (And.intro z1 (And.intro z2 (And.intro z3 (And.intro z4 hH2))))
      obtain ⟨E, hEE⟩ : ∃ E : Int, ((st + H : Nat) : Int) = E := ⟨_, rfl⟩
      rw [hEE] at ca CN
      obtain ⟨P, hP⟩ : ∃ P : Nat, P = s.size + 2 := ⟨_, rfl⟩
      rw [← hP] at CN
      have HP := Aside0.mk (And.intro hP (show P ≤ 16 by omega))
      have CA := Aside0.mk ca
      clear ca hk hs ht z1 z2 z3 z4 hx hH hE hr hn ha hH2 hEE hP
      go_enter Tryd.func14, Tryd.ntmps14
      go_wp2_with fail
      refine CA.out.mono ?_
      rintro e w1 ⟨rfl, hb⟩
      have HB := Aside0.mk hb
      clear hb
      have hn0 : (w1.alloc (box s t (L : Int))).heap[w1.heap.size]? = some (box s t (L : Int)) := blk_new w1 _
      have HN0 := Aside0.mk hn0
      clear hn0
      go_wp2_with fail
      refine (CN.out _).mono ?_
      rintro e w3 ⟨gX, cX, G, C, rfl, hR⟩
      have hB3 := boxed_from hR.1
      have S0 : Aside0 (WS w w3 s t (L : Int) w1.heap.size (w1.heap.size + 1) 1 1 (way s t L st H) gX cX G C (H + 1) P (Ct.res s t L st H)) := ⟨by
        have h1 : w1.heap.size + 1 = (w1.alloc (box s t (L : Int))).heap.size := by simp
        refine ⟨below_step (below_alloc (below_alloc HB.out _) _) hB3, Nat.le_trans HB.out.size (by omega), ?_, blk_below (blk_alloc (blk_new w1 _) _) hB3, hR.2.2.1.congr (fun i hi => by rw [if_pos hi]), fun i hi => (hR.2.2.2.1 i hi).2, fun i hi e => ?_⟩
        · rw [h1]
          exact (lit_one rfl).below hB3
        · have := (hR.2.2.2.1 i hi).1
          simp at this
          omega⟩
      clear hR hB3 HN0
      obtain ⟨n, hn⟩ : ∃ n, H + 1 = n := ⟨_, rfl⟩
      rw [hn] at S0 ⊢
      have HN := Aside0.mk hn
      clear hn
      go_wp2_with fail
      go_loopw [13, 15] (fun v13 v15 wr => ∃ j k gQ cQ : Nat, v13 = .slice (some ⟨gQ, 0, none⟩) (j + 1) cQ ∧ v15 = .int .i64 (k : Int) ∧ Aside0 (k = j + 1 ∧ j ≤ H) ∧ Aside0 (WS w wr s t (L : Int) w1.heap.size gQ cQ (j + 1) (way s t L st H) gX cX G C n P (Ct.res s t L st H))) (fun _ v15 _ => n - (intOf v15).toNat)
      case atStart => exact ⟨0, 1, _, _, by first | rfl | simp, rfl, ⟨rfl, Nat.zero_le _⟩, S0⟩
      case round =>
        clear S0 HB
        obtain ⟨j, k, gQ, cQ, rfl, rfl, HJ, HS⟩ := hrel
        by_cases hk : k < n
        · have hk1 := decide_eq_true hk
          have hj : j < H := by have := HJ.out; have := HN.out; omega
          have HKK := Aside0.mk (And.intro hk hj)
          obtain ⟨f1, f2, f3, f4, f5⟩ := FO.out j hj
          have hq0 := IV.out (j + 1) hj
          obtain ⟨q0, hq⟩ : ∃ q0, pl s t L st H (j + 1) = q0 := ⟨_, rfl⟩
          rw [hq] at f1 f2 hq0
          obtain ⟨a, ha⟩ : ∃ a, pl s t L st H j = a := ⟨_, rfl⟩
          rw [ha] at f1 f2
          have HQ0 := Aside0.mk (And.intro hq (And.intro f1 (And.intro f2 hq0)))
          have HA := Aside0.mk ha
          have haP : Aside0 (a < P) := ⟨by have := IV.out j HJ.out.2; rw [← ha, HP.out.1]; exact this⟩
          have WK : Aside0 (wrap64 ((k : Int) + 1) = ((k + 1 : Nat) : Int)) := ⟨w_id (by omega) (by have := HZ.out; have := HN.out; omega)⟩
          have WJ : Aside0 (wrap64 ((k : Int) - 1) = (j : Int)) := ⟨(w_id (by omega) (by have := HZ.out; have := HN.out; omega)).trans (by have := HJ.out; omega)⟩
          clear f1 f2 f3 f4 f5 hq0 hq ha hj
          go_wp2_with fail
          go_loopw [16] (fun v16 wq => ∃ q : Nat, v16 = .int .i64 (q : Int) ∧ Aside0 (q ≤ q0) ∧ Aside0 (WS w wq s t (L : Int) w1.heap.size gQ cQ (j + 1) (way s t L st H) gX cX G C n P (Ct.res s t L st H))) (fun v16 _ => P - (intOf v16).toNat)
          case atStart => exact ⟨0, rfl, ⟨Nat.zero_le _⟩, HS⟩
          case round =>
            clear HS
            obtain ⟨q, rfl, HQ, HS⟩ := hrel
            have hqP : q < P := by have := HQ.out; have := HQ0.out.2.2.2; have := HP.out; omega
            obtain ⟨B, hB⟩ : ∃ B : Int, ((bk s t L (st + H) (H - (j + 1)) q : Nat) : Int) = B := ⟨_, rfl⟩
            obtain ⟨b2, hb2⟩ : ∃ b, Tide.near L a q = b := ⟨_, rfl⟩
            have hfit : fits s t L st H j a q = (decide (0 < B) && b2) := by
              unfold fits
              rw [hb2, ← hB]
              exact congrArg (· && b2) (decide_eq_decide.mpr (by omega))
            have hB0 : 0 ≤ B := by omega
            have HF := Aside0.mk (And.intro hfit hB0)
            have HRES : Aside0 (Ct.res s t L st H k q = B) := ⟨by unfold Ct.res; rw [HJ.out.1]; exact hB⟩
            have cn := fun W => near s t (L : Int) (a : Int) (q : Int) W (by have := HZ.out; omega) (by have := haP.out; have := HP.out; omega) (by have := HP.out; omega)
            rw [Ct.near_tide, hb2] at cn
            have CN2 := Aside0.mk cn
            have WQ : Aside0 (wrap64 ((q : Int) + 1) = ((q + 1 : Nat) : Int)) := ⟨w_id (by omega) (by have := HP.out; omega)⟩
            have HQP := Aside0.mk hqP
            clear hfit hB hb2 cn
            by_cases c : B = 0
            · have hb0 : (B == 0) = true := beq_iff_eq.mpr c
              have HQ2 : Aside0 (q + 1 ≤ q0) := ⟨by
                have h1 : fits s t L st H j a q = false := by rw [HF.out.1, decide_eq_false (by omega)]; rfl
                have h2 : q ≠ q0 := fun e => by rw [e, HQ0.out.2.1] at h1; cases h1
                have := HQ.out; omega⟩
              clear c hB0
              go_wp2
              refine start_ (n := 19) (S := fun w' => w'.cell? ⟨gX, k, none⟩ = some (.slice (some ⟨G k, 0, none⟩) P (C k)) ∧ w'.cell? ⟨G k, q, none⟩ = some (.int .i64 B) ∧ Aside0 (WS w w' s t (L : Int) w1.heap.size gQ cQ (j + 1) (way s t L st H) gX cX G C n P (Ct.res s t L st H))) (ds := []) #[false, false, false, false, false, false, false, false, false, false, false, false, false, false, false, false, false, false, false] (by kernel_rfl) rfl rfl ((HS.out.below (below_drew (Below.refl _ _))).held k q HKK.out.1 HQP.out HRES.out) (fun hHeld => ?_)
              refine pure_ (i := 0) (N := some 42) (v := ?_) (a' := ?_) #[true, false, false, false, false, false, false, false, false, false, false, false, false, false, false, false, false, false, false] rfl rfl (by kernel_rfl) (fun _ _ _ h => h) (Or.inl ⟨by rfl, ?_⟩) ?_ ?_
              rotate_left
              · intro w'
                go_simp
                with_reducible rfl
              rotate_left
              · simp only [Act.put, List.setIfInBounds_toArray, List.set_cons_zero, List.set_cons_succ, i64_w, i32_w]
                rfl
              refine pure_ (i := 1) (N := some 43) (v := ?_) (a' := ?_) #[true, true, false, false, false, false, false, false, false, false, false, false, false, false, false, false, false, false, false] rfl rfl (by kernel_rfl) (fun _ _ _ h => h) (Or.inl ⟨by rfl, ?_⟩) ?_ ?_
              rotate_left
              · intro w'
                go_simp
                with_reducible rfl
              rotate_left
              · simp only [Act.put, List.setIfInBounds_toArray, List.set_cons_zero, List.set_cons_succ, i64_w, i32_w]
                rfl
              refine pure_ (i := 2) (N := some 44) (v := ?_) (a' := ?_) #[true, true, true, false, false, false, false, false, false, false, false, false, false, false, false, false, false, false, false] rfl rfl (by kernel_rfl) (fun _ _ _ h => h) (Or.inl ⟨by rfl, ?_⟩) ?_ ?_
              rotate_left
              · intro w'
                go_simp
                with_reducible rfl
              rotate_left
              · simp only [Act.put, List.setIfInBounds_toArray, List.set_cons_zero, List.set_cons_succ, i64_w, i32_w]
                rfl
              refine pure_ (i := 4) (N := some 46) (v := ?_) (a' := ?_) #[true, true, true, false, true, false, false, false, false, false, false, false, false, false, false, false, false, false, false] rfl rfl (by kernel_rfl) (fun _ _ _ h => h) (Or.inl ⟨by rfl, ?_⟩) ?_ ?_
              rotate_left
              · intro w'
                go_simp
                with_reducible rfl
              rotate_left
              · simp only [Act.put, List.setIfInBounds_toArray, List.set_cons_zero, List.set_cons_succ, i64_w, i32_w]
                rfl
              refine take_ (i := 3) (N := some 45) (v := ?_) (a' := ?_) #[true, true, true, true, true, false, false, false, false, false, false, false, false, false, false, false, false, false, false] rfl rfl (by kernel_rfl) (fun _ _ _ h => h) (Or.inl ⟨by rfl, ?_⟩) hHeld ?_ ?_
              rotate_left
              · rintro w' ⟨s0, s1, s2⟩
                go_simp
                with_reducible rfl
              rotate_left
              · simp only [Act.put, List.setIfInBounds_toArray, List.set_cons_zero, List.set_cons_succ, i64_w, i32_w]
                rfl
              refine pure_ (i := 5) (N := some 47) (v := ?_) (a' := ?_) #[true, true, true, true, true, true, false, false, false, false, false, false, false, false, false, false, false, false, false] rfl rfl (by kernel_rfl) (fun _ _ _ h => h) (Or.inl ⟨by rfl, ?_⟩) ?_ ?_
              rotate_left
              · intro w'
                go_simp
                with_reducible rfl
              rotate_left
              · simp only [Act.put, List.setIfInBounds_toArray, List.set_cons_zero, List.set_cons_succ, i64_w, i32_w]
                rfl
              refine take_ (i := 6) (N := some 48) (v := ?_) (a' := ?_) #[true, true, true, true, true, true, true, false, false, false, false, false, false, false, false, false, false, false, false] rfl rfl (by kernel_rfl) (fun _ _ _ h => h) (Or.inl ⟨by rfl, ?_⟩) hHeld ?_ ?_
              rotate_left
              · rintro w' ⟨s0, s1, s2⟩
                go_simp
                with_reducible rfl
              rotate_left
              · simp only [Act.put, List.setIfInBounds_toArray, List.set_cons_zero, List.set_cons_succ, i64_w, i32_w]
                rfl
              refine pure_ (i := 7) (N := some 49) (v := ?_) (a' := ?_) #[true, true, true, true, true, true, true, true, false, false, false, false, false, false, false, false, false, false, false] rfl rfl (by kernel_rfl) (fun _ _ _ h => h) (Or.inl ⟨by rfl, ?_⟩) ?_ ?_
              rotate_left
              · intro w'
                go_simp
                with_reducible rfl
              rotate_left
              · simp only [Act.put, List.setIfInBounds_toArray, List.set_cons_zero, List.set_cons_succ, i64_w, i32_w]
                rfl
              refine pure_ (i := 8) (N := some 50) (v := ?_) (a' := ?_) #[true, true, true, true, true, true, true, true, true, false, false, false, false, false, false, false, false, false, false] rfl rfl (by kernel_rfl) (fun _ _ _ h => h) (Or.inl ⟨by rfl, ?_⟩) ?_ ?_
              rotate_left
              · intro w'
                go_simp
                with_reducible rfl
              rotate_left
              · simp only [Act.put, List.setIfInBounds_toArray, List.set_cons_zero, List.set_cons_succ, i64_w, i32_w]
                rfl
              refine pure_ (i := 9) (N := some 51) (v := undef) (a' := ?_) #[true, true, true, true, true, true, true, true, true, true, false, false, false, false, false, false, false, false, false] rfl rfl (by kernel_rfl) (fun _ _ _ h => h) (Or.inr ⟨by rfl, rfl⟩) ?_ ?_
              rotate_left
              · simp only [Act.put, List.setIfInBounds_toArray, List.set_cons_zero, List.set_cons_succ, i64_w, i32_w]
                rfl
              refine pure_ (i := 10) (N := some 52) (v := undef) (a' := ?_) #[true, true, true, true, true, true, true, true, true, true, true, false, false, false, false, false, false, false, false] rfl rfl (by kernel_rfl) (fun _ _ _ h => h) (Or.inr ⟨by rfl, rfl⟩) ?_ ?_
              rotate_left
              · simp only [Act.put, List.setIfInBounds_toArray, List.set_cons_zero, List.set_cons_succ, i64_w, i32_w]
                rfl
              refine pure_ (i := 11) (N := some 53) (v := undef) (a' := ?_) #[true, true, true, true, true, true, true, true, true, true, true, true, false, false, false, false, false, false, false] rfl rfl (by kernel_rfl) (fun _ _ _ h => h) (Or.inr ⟨by rfl, rfl⟩) ?_ ?_
              rotate_left
              · simp only [Act.put, List.setIfInBounds_toArray, List.set_cons_zero, List.set_cons_succ, i64_w, i32_w]
                rfl
              refine pure_ (i := 12) (N := some 54) (v := undef) (a' := ?_) #[true, true, true, true, true, true, true, true, true, true, true, true, true, false, false, false, false, false, false] rfl rfl (by kernel_rfl) (fun _ _ _ h => h) (Or.inr ⟨by rfl, rfl⟩) ?_ ?_
              rotate_left
              · simp only [Act.put, List.setIfInBounds_toArray, List.set_cons_zero, List.set_cons_succ, i64_w, i32_w]
                rfl
              refine pure_ (i := 13) (N := some 55) (v := undef) (a' := ?_) #[true, true, true, true, true, true, true, true, true, true, true, true, true, true, false, false, false, false, false] rfl rfl (by kernel_rfl) (fun _ _ _ h => h) (Or.inr ⟨by rfl, rfl⟩) ?_ ?_
              rotate_left
              · simp only [Act.put, List.setIfInBounds_toArray, List.set_cons_zero, List.set_cons_succ, i64_w, i32_w]
                rfl
              refine pure_ (i := 14) (N := some 56) (v := undef) (a' := ?_) #[true, true, true, true, true, true, true, true, true, true, true, true, true, true, true, false, false, false, false] rfl rfl (by kernel_rfl) (fun _ _ _ h => h) (Or.inr ⟨by rfl, rfl⟩) ?_ ?_
              rotate_left
              · simp only [Act.put, List.setIfInBounds_toArray, List.set_cons_zero, List.set_cons_succ, i64_w, i32_w]
                rfl
              refine pure_ (i := 15) (N := some 57) (v := undef) (a' := ?_) #[true, true, true, true, true, true, true, true, true, true, true, true, true, true, true, true, false, false, false] rfl rfl (by kernel_rfl) (fun _ _ _ h => h) (Or.inr ⟨by rfl, rfl⟩) ?_ ?_
              rotate_left
              · simp only [Act.put, List.setIfInBounds_toArray, List.set_cons_zero, List.set_cons_succ, i64_w, i32_w]
                rfl
              refine pure_ (i := 16) (N := some 58) (v := undef) (a' := ?_) #[true, true, true, true, true, true, true, true, true, true, true, true, true, true, true, true, true, false, false] rfl rfl (by kernel_rfl) (fun _ _ _ h => h) (Or.inr ⟨by rfl, rfl⟩) ?_ ?_
              rotate_left
              · simp only [Act.put, List.setIfInBounds_toArray, List.set_cons_zero, List.set_cons_succ, i64_w, i32_w]
                rfl
              refine pure_ (i := 17) (N := some 59) (v := undef) (a' := ?_) #[true, true, true, true, true, true, true, true, true, true, true, true, true, true, true, true, true, true, false] rfl rfl (by kernel_rfl) (fun _ _ _ h => h) (Or.inr ⟨by rfl, rfl⟩) ?_ ?_
              rotate_left
              · simp only [Act.put, List.setIfInBounds_toArray, List.set_cons_zero, List.set_cons_succ, i64_w, i32_w]
                rfl
              refine pure_ (i := 18) (N := some 60) (v := ?_) (a' := ?_) #[true, true, true, true, true, true, true, true, true, true, true, true, true, true, true, true, true, true, true] rfl rfl (by kernel_rfl) (fun _ _ _ h => h) (Or.inl ⟨by rfl, ?_⟩) ?_ ?_
              rotate_left
              · intro w'
                go_simp
                with_reducible rfl
              rotate_left
              · simp only [Act.put, List.setIfInBounds_toArray, List.set_cons_zero, List.set_cons_succ, i64_w, i32_w]
                rfl
              refine done_ (by kernel_rfl) ?_
              obtain ⟨s0, s1, HS2⟩ := hHeld
              clear s0 s1
              have hwq := WQ.out
              go_wp2_with fail
              go_roundw
              case rel => exact ⟨q + 1, by first | rfl | rw [hwq], HQ2, HS2⟩
              case measure => (try rw [hwq]); have := HQP.out; simp [intOf]; omega
            · have hb0 : (B == 0) = false := beq_eq_false_iff_ne.mpr c
              have HBP : Aside0 (0 < B) := ⟨by omega⟩
              have hwj := WJ.out
              have hwjw : IntKind.i64.wrap ((k : Int) - 1) = (j : Int) := (i64_w _).trans hwj
              have hjj : (j : Int) < (j : Int) + 1 := by omega
              clear c hB0
              cases b2 with
              | false =>
                have HQ2 : Aside0 (q + 1 ≤ q0) := ⟨by
                  have h1 : fits s t L st H j a q = false := by rw [HF.out.1, Bool.and_false]
                  have h2 : q ≠ q0 := fun e => by rw [e, HQ0.out.2.1] at h1; cases h1
                  have := HQ.out; omega⟩
                go_wp2
                refine start_ (n := 19) (S := fun w' => w'.cell? ⟨gX, k, none⟩ = some (.slice (some ⟨G k, 0, none⟩) P (C k)) ∧ w'.cell? ⟨G k, q, none⟩ = some (.int .i64 B) ∧ w'.cell? ⟨gQ, j, none⟩ = some (.int .i64 (a : Int)) ∧ w'.cell? ⟨w1.heap.size, 0, none⟩ = some (.string s) ∧ w'.cell? ⟨w1.heap.size, 1, none⟩ = some (.string t) ∧ w'.cell? ⟨w1.heap.size, 2, none⟩ = some (.int .i64 (L : Int)) ∧ Aside0 (WS w w' s t (L : Int) w1.heap.size gQ cQ (j + 1) (way s t L st H) gX cX G C n P (Ct.res s t L st H))) (ds := []) #[false, false, false, false, false, false, false, false, false, false, false, false, false, false, false, false, false, false, false] (by kernel_rfl) rfl rfl ((HS.out.below (below_drew (Below.refl _ _))).held2 k q j HKK.out.1 HQP.out (Nat.lt_succ_self j) HRES.out (by unfold way; rw [HA.out])) (fun hHeld => ?_)
                refine pure_ (i := 0) (N := some 42) (v := ?_) (a' := ?_) #[true, false, false, false, false, false, false, false, false, false, false, false, false, false, false, false, false, false, false] rfl rfl (by kernel_rfl) (fun _ _ _ h => h) (Or.inl ⟨by rfl, ?_⟩) ?_ ?_
                rotate_left
                · intro w'
                  go_simp
                  with_reducible rfl
                rotate_left
                · simp only [Act.put, List.setIfInBounds_toArray, List.set_cons_zero, List.set_cons_succ, i64_w, i32_w]
                  rfl
                refine pure_ (i := 1) (N := some 43) (v := ?_) (a' := ?_) #[true, true, false, false, false, false, false, false, false, false, false, false, false, false, false, false, false, false, false] rfl rfl (by kernel_rfl) (fun _ _ _ h => h) (Or.inl ⟨by rfl, ?_⟩) ?_ ?_
                rotate_left
                · intro w'
                  go_simp
                  with_reducible rfl
                rotate_left
                · simp only [Act.put, List.setIfInBounds_toArray, List.set_cons_zero, List.set_cons_succ, i64_w, i32_w]
                  rfl
                refine pure_ (i := 2) (N := some 44) (v := ?_) (a' := ?_) #[true, true, true, false, false, false, false, false, false, false, false, false, false, false, false, false, false, false, false] rfl rfl (by kernel_rfl) (fun _ _ _ h => h) (Or.inl ⟨by rfl, ?_⟩) ?_ ?_
                rotate_left
                · intro w'
                  go_simp
                  with_reducible rfl
                rotate_left
                · simp only [Act.put, List.setIfInBounds_toArray, List.set_cons_zero, List.set_cons_succ, i64_w, i32_w]
                  rfl
                refine pure_ (i := 4) (N := some 46) (v := ?_) (a' := ?_) #[true, true, true, false, true, false, false, false, false, false, false, false, false, false, false, false, false, false, false] rfl rfl (by kernel_rfl) (fun _ _ _ h => h) (Or.inl ⟨by rfl, ?_⟩) ?_ ?_
                rotate_left
                · intro w'
                  go_simp
                  with_reducible rfl
                rotate_left
                · simp only [Act.put, List.setIfInBounds_toArray, List.set_cons_zero, List.set_cons_succ, i64_w, i32_w]
                  rfl
                refine take_ (i := 3) (N := some 45) (v := ?_) (a' := ?_) #[true, true, true, true, true, false, false, false, false, false, false, false, false, false, false, false, false, false, false] rfl rfl (by kernel_rfl) (fun _ _ _ h => h) (Or.inl ⟨by rfl, ?_⟩) hHeld ?_ ?_
                rotate_left
                · rintro w' ⟨s0, s1, s2, s3, s4, s5, s6⟩
                  go_simp
                  with_reducible rfl
                rotate_left
                · simp only [Act.put, List.setIfInBounds_toArray, List.set_cons_zero, List.set_cons_succ, i64_w, i32_w]
                  rfl
                refine pure_ (i := 5) (N := some 47) (v := ?_) (a' := ?_) #[true, true, true, true, true, true, false, false, false, false, false, false, false, false, false, false, false, false, false] rfl rfl (by kernel_rfl) (fun _ _ _ h => h) (Or.inl ⟨by rfl, ?_⟩) ?_ ?_
                rotate_left
                · intro w'
                  go_simp
                  with_reducible rfl
                rotate_left
                · simp only [Act.put, List.setIfInBounds_toArray, List.set_cons_zero, List.set_cons_succ, i64_w, i32_w]
                  rfl
                refine take_ (i := 6) (N := some 48) (v := ?_) (a' := ?_) #[true, true, true, true, true, true, true, false, false, false, false, false, false, false, false, false, false, false, false] rfl rfl (by kernel_rfl) (fun _ _ _ h => h) (Or.inl ⟨by rfl, ?_⟩) hHeld ?_ ?_
                rotate_left
                · rintro w' ⟨s0, s1, s2, s3, s4, s5, s6⟩
                  go_simp
                  with_reducible rfl
                rotate_left
                · simp only [Act.put, List.setIfInBounds_toArray, List.set_cons_zero, List.set_cons_succ, i64_w, i32_w]
                  rfl
                refine pure_ (i := 7) (N := some 49) (v := ?_) (a' := ?_) #[true, true, true, true, true, true, true, true, false, false, false, false, false, false, false, false, false, false, false] rfl rfl (by kernel_rfl) (fun _ _ _ h => h) (Or.inl ⟨by rfl, ?_⟩) ?_ ?_
                rotate_left
                · intro w'
                  go_simp
                  with_reducible rfl
                rotate_left
                · simp only [Act.put, List.setIfInBounds_toArray, List.set_cons_zero, List.set_cons_succ, i64_w, i32_w]
                  rfl
                refine pure_ (i := 8) (N := some 50) (v := ?_) (a' := ?_) #[true, true, true, true, true, true, true, true, true, false, false, false, false, false, false, false, false, false, false] rfl rfl (by kernel_rfl) (fun _ _ _ h => h) (Or.inl ⟨by rfl, ?_⟩) ?_ ?_
                rotate_left
                · intro w'
                  go_simp
                  with_reducible rfl
                rotate_left
                · simp only [Act.put, List.setIfInBounds_toArray, List.set_cons_zero, List.set_cons_succ, i64_w, i32_w]
                  rfl
                refine pure_ (i := 10) (N := some 52) (v := ?_) (a' := ?_) #[true, true, true, true, true, true, true, true, true, false, true, false, false, false, false, false, false, false, false] rfl rfl (by kernel_rfl) (fun _ _ _ h => h) (Or.inl ⟨by rfl, ?_⟩) ?_ ?_
                rotate_left
                · intro w'
                  go_simp
                  with_reducible rfl
                rotate_left
                · simp only [Act.put, List.setIfInBounds_toArray, List.set_cons_zero, List.set_cons_succ, i64_w, i32_w]
                  rfl
                refine pure_ (i := 11) (N := some 53) (v := ?_) (a' := ?_) #[true, true, true, true, true, true, true, true, true, false, true, true, false, false, false, false, false, false, false] rfl rfl (by kernel_rfl) (fun _ _ _ h => h) (Or.inl ⟨by rfl, ?_⟩) ?_ ?_
                rotate_left
                · intro w'
                  go_simp
                  with_reducible rfl
                rotate_left
                · simp only [Act.put, List.setIfInBounds_toArray, List.set_cons_zero, List.set_cons_succ, i64_w, i32_w]
                  rfl
                refine pure_ (i := 12) (N := some 54) (v := ?_) (a' := ?_) #[true, true, true, true, true, true, true, true, true, false, true, true, true, false, false, false, false, false, false] rfl rfl (by kernel_rfl) (fun _ _ _ h => h) (Or.inl ⟨by rfl, ?_⟩) ?_ ?_
                rotate_left
                · intro w'
                  go_simp
                  with_reducible rfl
                rotate_left
                · simp only [Act.put, List.setIfInBounds_toArray, List.set_cons_zero, List.set_cons_succ, i64_w, i32_w]
                  rfl
                refine pure_ (i := 13) (N := some 55) (v := ?_) (a' := ?_) #[true, true, true, true, true, true, true, true, true, false, true, true, true, true, false, false, false, false, false] rfl rfl (by kernel_rfl) (fun _ _ _ h => h) (Or.inl ⟨by rfl, ?_⟩) ?_ ?_
                rotate_left
                · intro w'
                  go_simp
                  with_reducible rfl
                rotate_left
                · simp only [Act.put, List.setIfInBounds_toArray, List.set_cons_zero, List.set_cons_succ, i64_w, i32_w]
                  rfl
                refine pure_ (i := 15) (N := some 57) (v := ?_) (a' := ?_) #[true, true, true, true, true, true, true, true, true, false, true, true, true, true, false, true, false, false, false] rfl rfl (by kernel_rfl) (fun _ _ _ h => h) (Or.inl ⟨by rfl, ?_⟩) ?_ ?_
                rotate_left
                · intro w'
                  go_simp
                  with_reducible rfl
                rotate_left
                · simp only [Act.put, List.setIfInBounds_toArray, List.set_cons_zero, List.set_cons_succ, i64_w, i32_w]
                  rfl
                refine take_ (i := 9) (N := some 51) (v := ?_) (a' := ?_) #[true, true, true, true, true, true, true, true, true, true, true, true, true, true, false, true, false, false, false] rfl rfl (by kernel_rfl) (fun _ _ _ h => h) (Or.inl ⟨by rfl, ?_⟩) hHeld ?_ ?_
                rotate_left
                · rintro w' ⟨s0, s1, s2, s3, s4, s5, s6⟩
                  go_simp
                  with_reducible rfl
                rotate_left
                · simp only [Act.put, List.setIfInBounds_toArray, List.set_cons_zero, List.set_cons_succ, i64_w, i32_w]
                  rfl
                refine take_ (i := 14) (N := some 56) (v := ?_) (a' := ?_) #[true, true, true, true, true, true, true, true, true, true, true, true, true, true, true, true, false, false, false] rfl rfl (by kernel_rfl) (fun _ _ _ h => h) (Or.inl ⟨by rfl, ?_⟩) hHeld ?_ ?_
                rotate_left
                · rintro w' ⟨s0, s1, s2, s3, s4, s5, s6⟩
                  go_simp
                  with_reducible rfl
                rotate_left
                · simp only [Act.put, List.setIfInBounds_toArray, List.set_cons_zero, List.set_cons_succ, i64_w, i32_w]
                  rfl
                refine one_ (i := 16) (N := some 58) #[true, true, true, true, true, true, true, true, true, true, true, true, true, true, true, true, true, false, false] rfl rfl (by kernel_rfl) (by decide) (fun K hK => ?_)
                refine goes_ Tryd.func38 (by kernel_rfl) rfl #[.agg #[.string s, .string t, .int .i64 (L : Int)], .int .i64 (a : Int), .int .i64 (q : Int)] (by rfl) rfl rfl (by (try simp only [List.map_toArray, List.map_cons, List.map_nil]); first | done | rfl) ?_
                refine (CN2.out _).mono ?_
                rintro e w9 ⟨rfl, hb⟩
                refine ⟨_, rfl, ?_⟩
                refine hK.out _ _ ((hHeld.2.2.2.2.2.2.out.below hb).held2 k q j HKK.out.1 HQP.out (Nat.lt_succ_self j) HRES.out (by unfold way; rw [HA.out])) (fun hHeld => ?_)
                clear hK K
                refine norm_ (a' := ?_) ?_ ?_
                rotate_left
                · show Act.put _ (some 58) _ = _
                  simp only [Act.put, List.setIfInBounds_toArray, List.set_cons_zero, List.set_cons_succ, i64_w, i32_w]
                  rfl
                refine pure_ (i := 17) (N := some 59) (v := ?_) (a' := ?_) #[true, true, true, true, true, true, true, true, true, true, true, true, true, true, true, true, true, true, false] rfl rfl (by kernel_rfl) (fun _ _ _ h => h) (Or.inl ⟨by rfl, ?_⟩) ?_ ?_
                rotate_left
                · intro w'
                  go_simp
                  with_reducible rfl
                rotate_left
                · simp only [Act.put, List.setIfInBounds_toArray, List.set_cons_zero, List.set_cons_succ, i64_w, i32_w]
                  rfl
                refine pure_ (i := 18) (N := some 60) (v := ?_) (a' := ?_) #[true, true, true, true, true, true, true, true, true, true, true, true, true, true, true, true, true, true, true] rfl rfl (by kernel_rfl) (fun _ _ _ h => h) (Or.inl ⟨by rfl, ?_⟩) ?_ ?_
                rotate_left
                · intro w'
                  go_simp
                  with_reducible rfl
                rotate_left
                · simp only [Act.put, List.setIfInBounds_toArray, List.set_cons_zero, List.set_cons_succ, i64_w, i32_w]
                  rfl
                refine done_ (by kernel_rfl) ?_
                obtain ⟨s0, s1, s2, s3, s4, s5, HS2⟩ := hHeld
                clear s0 s1 s2 s3 s4 s5
                have hwq := WQ.out
                go_wp2_with fail
                go_roundw
                case rel => exact ⟨q + 1, by first | rfl | rw [hwq], HQ2, HS2⟩
                case measure => (try rw [hwq]); have := HQP.out; simp [intOf]; omega
              | true =>
                have hqq : q = q0 := by
                  have h1 : fits s t L st H j a q = true := by rw [HF.out.1, decide_eq_true HBP.out]; rfl
                  by_cases e : q = q0
                  · exact e
                  · have h3 := HQ0.out.2.2.1 q (by have := HQ.out; omega)
                    rw [h1] at h3; cases h3
                have HW : Aside0 (way s t L st H (j + 1) = ((q : Nat) : Int)) := ⟨by unfold way; rw [HQ0.out.1, hqq]⟩
                clear hqq
                go_wp2
                refine start_ (n := 19) (S := fun w' => w'.cell? ⟨gX, k, none⟩ = some (.slice (some ⟨G k, 0, none⟩) P (C k)) ∧ w'.cell? ⟨G k, q, none⟩ = some (.int .i64 B) ∧ w'.cell? ⟨gQ, j, none⟩ = some (.int .i64 (a : Int)) ∧ w'.cell? ⟨w1.heap.size, 0, none⟩ = some (.string s) ∧ w'.cell? ⟨w1.heap.size, 1, none⟩ = some (.string t) ∧ w'.cell? ⟨w1.heap.size, 2, none⟩ = some (.int .i64 (L : Int)) ∧ Aside0 (WS w w' s t (L : Int) w1.heap.size gQ cQ (j + 1) (way s t L st H) gX cX G C n P (Ct.res s t L st H))) (ds := []) #[false, false, false, false, false, false, false, false, false, false, false, false, false, false, false, false, false, false, false] (by kernel_rfl) rfl rfl ((HS.out.below (below_drew (Below.refl _ _))).held2 k q j HKK.out.1 HQP.out (Nat.lt_succ_self j) HRES.out (by unfold way; rw [HA.out])) (fun hHeld => ?_)
                refine pure_ (i := 0) (N := some 42) (v := ?_) (a' := ?_) #[true, false, false, false, false, false, false, false, false, false, false, false, false, false, false, false, false, false, false] rfl rfl (by kernel_rfl) (fun _ _ _ h => h) (Or.inl ⟨by rfl, ?_⟩) ?_ ?_
                rotate_left
                · intro w'
                  go_simp
                  with_reducible rfl
                rotate_left
                · simp only [Act.put, List.setIfInBounds_toArray, List.set_cons_zero, List.set_cons_succ, i64_w, i32_w]
                  rfl
                refine pure_ (i := 1) (N := some 43) (v := ?_) (a' := ?_) #[true, true, false, false, false, false, false, false, false, false, false, false, false, false, false, false, false, false, false] rfl rfl (by kernel_rfl) (fun _ _ _ h => h) (Or.inl ⟨by rfl, ?_⟩) ?_ ?_
                rotate_left
                · intro w'
                  go_simp
                  with_reducible rfl
                rotate_left
                · simp only [Act.put, List.setIfInBounds_toArray, List.set_cons_zero, List.set_cons_succ, i64_w, i32_w]
                  rfl
                refine pure_ (i := 2) (N := some 44) (v := ?_) (a' := ?_) #[true, true, true, false, false, false, false, false, false, false, false, false, false, false, false, false, false, false, false] rfl rfl (by kernel_rfl) (fun _ _ _ h => h) (Or.inl ⟨by rfl, ?_⟩) ?_ ?_
                rotate_left
                · intro w'
                  go_simp
                  with_reducible rfl
                rotate_left
                · simp only [Act.put, List.setIfInBounds_toArray, List.set_cons_zero, List.set_cons_succ, i64_w, i32_w]
                  rfl
                refine pure_ (i := 4) (N := some 46) (v := ?_) (a' := ?_) #[true, true, true, false, true, false, false, false, false, false, false, false, false, false, false, false, false, false, false] rfl rfl (by kernel_rfl) (fun _ _ _ h => h) (Or.inl ⟨by rfl, ?_⟩) ?_ ?_
                rotate_left
                · intro w'
                  go_simp
                  with_reducible rfl
                rotate_left
                · simp only [Act.put, List.setIfInBounds_toArray, List.set_cons_zero, List.set_cons_succ, i64_w, i32_w]
                  rfl
                refine take_ (i := 3) (N := some 45) (v := ?_) (a' := ?_) #[true, true, true, true, true, false, false, false, false, false, false, false, false, false, false, false, false, false, false] rfl rfl (by kernel_rfl) (fun _ _ _ h => h) (Or.inl ⟨by rfl, ?_⟩) hHeld ?_ ?_
                rotate_left
                · rintro w' ⟨s0, s1, s2, s3, s4, s5, s6⟩
                  go_simp
                  with_reducible rfl
                rotate_left
                · simp only [Act.put, List.setIfInBounds_toArray, List.set_cons_zero, List.set_cons_succ, i64_w, i32_w]
                  rfl
                refine pure_ (i := 5) (N := some 47) (v := ?_) (a' := ?_) #[true, true, true, true, true, true, false, false, false, false, false, false, false, false, false, false, false, false, false] rfl rfl (by kernel_rfl) (fun _ _ _ h => h) (Or.inl ⟨by rfl, ?_⟩) ?_ ?_
                rotate_left
                · intro w'
                  go_simp
                  with_reducible rfl
                rotate_left
                · simp only [Act.put, List.setIfInBounds_toArray, List.set_cons_zero, List.set_cons_succ, i64_w, i32_w]
                  rfl
                refine take_ (i := 6) (N := some 48) (v := ?_) (a' := ?_) #[true, true, true, true, true, true, true, false, false, false, false, false, false, false, false, false, false, false, false] rfl rfl (by kernel_rfl) (fun _ _ _ h => h) (Or.inl ⟨by rfl, ?_⟩) hHeld ?_ ?_
                rotate_left
                · rintro w' ⟨s0, s1, s2, s3, s4, s5, s6⟩
                  go_simp
                  with_reducible rfl
                rotate_left
                · simp only [Act.put, List.setIfInBounds_toArray, List.set_cons_zero, List.set_cons_succ, i64_w, i32_w]
                  rfl
                refine pure_ (i := 7) (N := some 49) (v := ?_) (a' := ?_) #[true, true, true, true, true, true, true, true, false, false, false, false, false, false, false, false, false, false, false] rfl rfl (by kernel_rfl) (fun _ _ _ h => h) (Or.inl ⟨by rfl, ?_⟩) ?_ ?_
                rotate_left
                · intro w'
                  go_simp
                  with_reducible rfl
                rotate_left
                · simp only [Act.put, List.setIfInBounds_toArray, List.set_cons_zero, List.set_cons_succ, i64_w, i32_w]
                  rfl
                refine pure_ (i := 8) (N := some 50) (v := ?_) (a' := ?_) #[true, true, true, true, true, true, true, true, true, false, false, false, false, false, false, false, false, false, false] rfl rfl (by kernel_rfl) (fun _ _ _ h => h) (Or.inl ⟨by rfl, ?_⟩) ?_ ?_
                rotate_left
                · intro w'
                  go_simp
                  with_reducible rfl
                rotate_left
                · simp only [Act.put, List.setIfInBounds_toArray, List.set_cons_zero, List.set_cons_succ, i64_w, i32_w]
                  rfl
                refine pure_ (i := 10) (N := some 52) (v := ?_) (a' := ?_) #[true, true, true, true, true, true, true, true, true, false, true, false, false, false, false, false, false, false, false] rfl rfl (by kernel_rfl) (fun _ _ _ h => h) (Or.inl ⟨by rfl, ?_⟩) ?_ ?_
                rotate_left
                · intro w'
                  go_simp
                  with_reducible rfl
                rotate_left
                · simp only [Act.put, List.setIfInBounds_toArray, List.set_cons_zero, List.set_cons_succ, i64_w, i32_w]
                  rfl
                refine pure_ (i := 11) (N := some 53) (v := ?_) (a' := ?_) #[true, true, true, true, true, true, true, true, true, false, true, true, false, false, false, false, false, false, false] rfl rfl (by kernel_rfl) (fun _ _ _ h => h) (Or.inl ⟨by rfl, ?_⟩) ?_ ?_
                rotate_left
                · intro w'
                  go_simp
                  with_reducible rfl
                rotate_left
                · simp only [Act.put, List.setIfInBounds_toArray, List.set_cons_zero, List.set_cons_succ, i64_w, i32_w]
                  rfl
                refine pure_ (i := 12) (N := some 54) (v := ?_) (a' := ?_) #[true, true, true, true, true, true, true, true, true, false, true, true, true, false, false, false, false, false, false] rfl rfl (by kernel_rfl) (fun _ _ _ h => h) (Or.inl ⟨by rfl, ?_⟩) ?_ ?_
                rotate_left
                · intro w'
                  go_simp
                  with_reducible rfl
                rotate_left
                · simp only [Act.put, List.setIfInBounds_toArray, List.set_cons_zero, List.set_cons_succ, i64_w, i32_w]
                  rfl
                refine pure_ (i := 13) (N := some 55) (v := ?_) (a' := ?_) #[true, true, true, true, true, true, true, true, true, false, true, true, true, true, false, false, false, false, false] rfl rfl (by kernel_rfl) (fun _ _ _ h => h) (Or.inl ⟨by rfl, ?_⟩) ?_ ?_
                rotate_left
                · intro w'
                  go_simp
                  with_reducible rfl
                rotate_left
                · simp only [Act.put, List.setIfInBounds_toArray, List.set_cons_zero, List.set_cons_succ, i64_w, i32_w]
                  rfl
                refine pure_ (i := 15) (N := some 57) (v := ?_) (a' := ?_) #[true, true, true, true, true, true, true, true, true, false, true, true, true, true, false, true, false, false, false] rfl rfl (by kernel_rfl) (fun _ _ _ h => h) (Or.inl ⟨by rfl, ?_⟩) ?_ ?_
                rotate_left
                · intro w'
                  go_simp
                  with_reducible rfl
                rotate_left
                · simp only [Act.put, List.setIfInBounds_toArray, List.set_cons_zero, List.set_cons_succ, i64_w, i32_w]
                  rfl
                refine take_ (i := 9) (N := some 51) (v := ?_) (a' := ?_) #[true, true, true, true, true, true, true, true, true, true, true, true, true, true, false, true, false, false, false] rfl rfl (by kernel_rfl) (fun _ _ _ h => h) (Or.inl ⟨by rfl, ?_⟩) hHeld ?_ ?_
                rotate_left
                · rintro w' ⟨s0, s1, s2, s3, s4, s5, s6⟩
                  go_simp
                  with_reducible rfl
                rotate_left
                · simp only [Act.put, List.setIfInBounds_toArray, List.set_cons_zero, List.set_cons_succ, i64_w, i32_w]
                  rfl
                refine take_ (i := 14) (N := some 56) (v := ?_) (a' := ?_) #[true, true, true, true, true, true, true, true, true, true, true, true, true, true, true, true, false, false, false] rfl rfl (by kernel_rfl) (fun _ _ _ h => h) (Or.inl ⟨by rfl, ?_⟩) hHeld ?_ ?_
                rotate_left
                · rintro w' ⟨s0, s1, s2, s3, s4, s5, s6⟩
                  go_simp
                  with_reducible rfl
                rotate_left
                · simp only [Act.put, List.setIfInBounds_toArray, List.set_cons_zero, List.set_cons_succ, i64_w, i32_w]
                  rfl
                refine one_ (i := 16) (N := some 58) #[true, true, true, true, true, true, true, true, true, true, true, true, true, true, true, true, true, false, false] rfl rfl (by kernel_rfl) (by decide) (fun K hK => ?_)
                refine goes_ Tryd.func38 (by kernel_rfl) rfl #[.agg #[.string s, .string t, .int .i64 (L : Int)], .int .i64 (a : Int), .int .i64 (q : Int)] (by rfl) rfl rfl (by (try simp only [List.map_toArray, List.map_cons, List.map_nil]); first | done | rfl) ?_
                refine (CN2.out _).mono ?_
                rintro e w9 ⟨rfl, hb⟩
                refine ⟨_, rfl, ?_⟩
                refine hK.out _ _ ((hHeld.2.2.2.2.2.2.out.below hb).held2 k q j HKK.out.1 HQP.out (Nat.lt_succ_self j) HRES.out (by unfold way; rw [HA.out])) (fun hHeld => ?_)
                clear hK K
                refine norm_ (a' := ?_) ?_ ?_
                rotate_left
                · show Act.put _ (some 58) _ = _
                  simp only [Act.put, List.setIfInBounds_toArray, List.set_cons_zero, List.set_cons_succ, i64_w, i32_w]
                  rfl
                refine pure_ (i := 17) (N := some 59) (v := ?_) (a' := ?_) #[true, true, true, true, true, true, true, true, true, true, true, true, true, true, true, true, true, true, false] rfl rfl (by kernel_rfl) (fun _ _ _ h => h) (Or.inl ⟨by rfl, ?_⟩) ?_ ?_
                rotate_left
                · intro w'
                  go_simp
                  with_reducible rfl
                rotate_left
                · simp only [Act.put, List.setIfInBounds_toArray, List.set_cons_zero, List.set_cons_succ, i64_w, i32_w]
                  rfl
                refine pure_ (i := 18) (N := some 60) (v := ?_) (a' := ?_) #[true, true, true, true, true, true, true, true, true, true, true, true, true, true, true, true, true, true, true] rfl rfl (by kernel_rfl) (fun _ _ _ h => h) (Or.inl ⟨by rfl, ?_⟩) ?_ ?_
                rotate_left
                · intro w'
                  go_simp
                  with_reducible rfl
                rotate_left
                · simp only [Act.put, List.setIfInBounds_toArray, List.set_cons_zero, List.set_cons_succ, i64_w, i32_w]
                  rfl
                refine done_ (by kernel_rfl) ?_
                obtain ⟨s0, s1, s2, s3, s4, s5, HS2⟩ := hHeld
                clear s0 s1 s2 s3 s4 s5 HS
                have HS := HS2
                clear HS2
                have hwk := WK.out
                go_wp2_with ((with_reducible refine gate_builtin (b := .append) (xs := #[.tmp 63, .tmp 65]) rfl ?_); at_builtin; refine Kd.R_append (Kd.int .i64) (w0 := w) w.heap.size rfl (.tmp 63) (.tmp 65) 25 3 (.int .i64 0) 8 rfl Tryd.underlying25 info3 rfl (by decide) (by omega) (.slice (some ⟨gQ, 0, none⟩) (j + 1) cQ) (tab (j + 1) (way s t L st H)) ((q : Nat) : Int) [.int .i64 ((q : Nat) : Int)] (fun _ => True) (fun _ => False) rfl rfl ?aP (fun _ hk => hk.elim) ?aF ?aO ?aB ?aS ?aL ?_; (case aP => exact rfl); (case aB => exact HS.out.1); (case aF => exact (fun _ _ => trivial)); (case aO => exact HS.out.2.2.1.to_R (h1 := fun _ => rfl) w.heap.size HS.out.2.1); (case aS => exact HS.out.1.size); (case aL => have := HZ.out; have := HKK.out; rw [tab_len]; omega); intro v_n w_n ho hb hg hat; obtain ⟨gA, cA, rfl, hX⟩ := HS.out.app HW.out hb hg ho hat; have HX := Aside0.mk hX; clear ho hb hg hat hX)
                go_roundw
                case rel => exact ⟨j + 1, k + 1, gA, cA, rfl, by first | rfl | rw [hwk], ⟨by have := HJ.out; have := HKK.out; omega⟩, HX⟩
                case measure => (try rw [hwk]); have := HKK.out; simp [intOf]; omega
        · have hk1 := decide_eq_false hk
          have hje : j = H := by have := HJ.out; have := HN.out; omega
          subst hje
          clear hk
          go_wp2_with fail
          go_ret2
          exact ⟨_, rfl, HS.out.2.2.1.to_R (h1 := fun _ => rfl) w.heap.size HS.out.2.1, HS.out.1⟩
end Go.Proofs.YteijbohbdhemoaaDoor.Ew
