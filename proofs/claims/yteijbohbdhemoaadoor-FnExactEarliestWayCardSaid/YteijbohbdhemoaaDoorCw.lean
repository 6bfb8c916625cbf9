/- CountTideWays at this program, spec and impl alike. Condition: the texts lie within the reach. -/
import Derived.Test.YteijbohbdhemoaaDoorAsk
import Derived.Test.YteijbohbdhemoaaDoorCt
import Derived.Test.YteijbohbdhemoaaDoorStp
namespace Go.Proofs.YteijbohbdhemoaaDoor.Cw
set_option linter.unusedVariables false
set_option linter.unusedSimpArgs false
open Go.RowKit Go.Proofs.YteijbohbdhemoaaDoorW.PrintWords Go.Proofs.YteijbohbdhemoaaDoorW.PrintLast Go.Proofs.YteijbohbdhemoaaDoorW.PrintMore Sh Cr Sm Tb Pl Aq Nd Rs
attribute [local go_sem] max2_int min2_int max_two min_two
theorem mostS (p L : Nat) (w : World) : Calls Tryd.prog 36 #[.int .i64 0, .int .i64 ((p : Int) - (L : Int))] w fun e w' => e = .returned (.int .i64 ((p - L : Nat) : Int)) ∧ Drawn0 w w' := by
  refine PFnExactEarliestAt.spec_l1Most.calls 0 _ _ w ?_
  unfold PFnExactEarliestAt.spec_l1Most.f
  by_cases c : (0 : Int) > (p : Int) - (L : Int)
  · rw [if_pos c]; exact congrArg some (by omega)
  · rw [if_neg c]; exact congrArg some (by omega)
theorem dryS (s t : ByteArray) (p h : Int) (w : World) (hs : s.size ≤ 14) (ht : 1 ≤ t.size ∧ t.size ≤ 12) (hp : 0 ≤ p ∧ p ≤ (s.size : Int) + 1) (hh : 0 ≤ h) : Calls Tryd.prog 48 #[.string s, .string t, .int .i64 p, .int .i64 h] w fun e w' => e = .returned (.bool (dryB s t p h)) ∧ Drawn0 w w' :=
  PFnExactEarliestAt.spec_tdDry.calls s t p h _ w (Stp.dry_is s t p h hs ht hp hh)
theorem inS (a b c : Int) (w : World) : Calls Tryd.prog 47 #[.int .i64 a, .int .i64 b, .int .i64 c] w fun e w' => e = .returned (.bool (decide (b ≤ a ∧ a ≤ c))) ∧ Drawn0 w w' :=
  PFnExactEarliestAt.spec_l1In.calls a b c _ w (l1In_eq a b c)
/-- A row of the call's own. -/
def D1 (w0 W : World) (g c P : Nat) (f : Nat → Int) : Prop := Below w0.heap.size w0 W ∧ w0.heap.size ≤ g ∧ Tb (Value.int .i64) 3 W g c P f
theorem D1.below {w0 W W' : World} {g c P : Nat} {f : Nat → Int} (h : D1 w0 W g c P f) (hb : Below W.heap.size W W') : D1 w0 W' g c P f := ⟨below_step h.1 hb, h.2.1, h.2.2.below hb⟩
theorem D1.put {w0 W : World} {g c P : Nat} {f : Nat → Int} (h : D1 w0 W g c P f) (i : Nat) (x : Int) : D1 w0 (W.setCell ⟨g, i, none⟩ (.int .i64 x)) g c P (fun k => if k = i then x else f k) := ⟨below_set h.1 h.2.1, h.2.1, h.2.2.set i x⟩
theorem D1.congr {w0 W : World} {g c P : Nat} {f f' : Nat → Int} (h : D1 w0 W g c P f) (e : ∀ i, i < P → f i = f' i) : D1 w0 W g c P f' := ⟨h.1, h.2.1, h.2.2.congr e⟩
/-- Two of them. -/
def D2 (w0 W : World) (g c gB cB P : Nat) (f fB : Nat → Int) : Prop := D1 w0 W g c P f ∧ D1 w0 W gB cB P fB ∧ g ≠ gB
theorem D2.below {w0 W W' : World} {g c gB cB P : Nat} {f fB : Nat → Int} (h : D2 w0 W g c gB cB P f fB) (hb : Below W.heap.size W W') : D2 w0 W' g c gB cB P f fB := ⟨h.1.below hb, h.2.1.below hb, h.2.2⟩
theorem D2.put {w0 W : World} {g c gB cB P : Nat} {f fB : Nat → Int} (h : D2 w0 W g c gB cB P f fB) (i : Nat) (x : Int) : D2 w0 (W.setCell ⟨gB, i, none⟩ (.int .i64 x)) g c gB cB P f (fun k => if k = i then x else fB k) :=
  ⟨⟨below_set h.1.1 h.2.1.2.1, h.1.2.1, h.1.2.2.far h.2.2 _⟩, h.2.1.put i x, h.2.2⟩
theorem D2.congr {w0 W : World} {g c gB cB P : Nat} {f fB fB' : Nat → Int} (h : D2 w0 W g c gB cB P f fB) (e : ∀ i, i < P → fB i = fB' i) : D2 w0 W g c gB cB P f fB' := ⟨h.1, h.2.1.congr e, h.2.2⟩
theorem D2.held {w0 W : World} {g c gB cB P : Nat} {f fB : Nat → Int} (h : D2 w0 W g c gB cB P f fB) (i j : Nat) (hi : i < P) (hj : j < P) {a b : Int} (ha : fB i = a) (hb : f j = b) : W.cell? ⟨gB, i, none⟩ = some (.int .i64 a) ∧ W.cell? ⟨g, j, none⟩ = some (.int .i64 b) ∧ Aside0 (D2 w0 W g c gB cB P f fB) :=
  ⟨(h.2.1.2.2.cell i hi).trans (by rw [ha]), (h.1.2.2.cell j hj).trans (by rw [hb]), ⟨h⟩⟩
/-- What is still to be summed for the place p, from q on. -/
def rest (s t : ByteArray) (L st k p q : Nat) : Nat := if dryN s t p (st + k + 1) = true then sf (fun q => fw s t L st k q) q (min (s.size + 1) (p + L + 1) - q) else 0
theorem rest_all (s t : ByteArray) (L st k p : Nat) : rest s t L st k p (p - L) = fw s t L st (k + 1) p := rfl
theorem rest_out (s t : ByteArray) (L st k p q : Nat) (h : ¬ q < s.size + 1 ∨ ¬ q ≤ p + L) : rest s t L st k p q = 0 := by
  unfold rest
  rw [show min (s.size + 1) (p + L + 1) - q = 0 by omega]
  split <;> rfl
theorem rest_wet (s t : ByteArray) (L st k p q : Nat) (h : dryN s t p (st + k + 1) = false) : rest s t L st k p q = 0 := by
  unfold rest
  rw [if_neg (by rw [h]; decide)]
theorem rest_one (s t : ByteArray) (L st k p q : Nat) (h1 : q < s.size + 1) (h2 : q ≤ p + L) (hd : dryN s t p (st + k + 1) = true) : rest s t L st k p q = fw s t L st k q + rest s t L st k p (q + 1) := by
  unfold rest
  rw [if_pos hd, if_pos hd, show min (s.size + 1) (p + L + 1) - q = (min (s.size + 1) (p + L + 1) - (q + 1)) + 1 by omega]
  rfl
theorem fw_small (s t : ByteArray) (L st k p : Nat) (hs : s.size ≤ 14) (hk : k ≤ 10) : fw s t L st k p ≤ 1099511627776 := Nat.le_trans (fw_le s t L st hs k p) (pow_small hk)
def val (s t : ByteArray) (l h m : Int) : Int × Bool := if okAsked s t l h = true ∧ 0 ≤ m ∧ m ≤ 10 then (((bk s t l.toNat (h.toNat + m.toNat) m.toNat 0 : Nat) : Int), true) else (0, false)
set_option maxHeartbeats 16000000 in
set_option maxRecDepth 100000 in
theorem spec (s t : ByteArray) (l h m : Int) (w : World) (hs : s.size ≤ 140737488351232) (ht : t.size ≤ 140737488351232) :
    Calls Tryd.prog 28 #[.string s, .string t, .int .i64 l, .int .i64 h, .int .i64 m] w fun e w' => e = .returned (.tuple #[.int .i64 (val s t l h m).1, .bool (val s t l h m).2]) ∧ Below w.heap.size w w' := by
  have ca := asked s t l h w hs ht
  unfold val
  cases hk : okAsked s t l h with
  | false =>
    rw [hk] at ca
    have CA := Aside0.mk ca
    rw [if_neg (fun q => by cases q.1)]
    clear ca hk hs ht
    go_enter Tryd.func28, Tryd.ntmps28
    go_wp2_with fail
    refine CA.out.mono ?_
    rintro e w1 ⟨rfl, hb⟩
    have HB := Aside0.mk hb
    clear hb
    go_wp2_with fail
    go_ret2
    exact ⟨rfl, HB.out⟩
  | true =>
    rw [hk] at ca
    have CA := Aside0.mk ca
    have ci := fun W => inS m 0 10 W
    by_cases hm : 0 ≤ m ∧ m ≤ 10
    rotate_left
    · rw [if_neg (fun q => hm q.2)]
      rw [decide_eq_false hm] at ci
      have CI := Aside0.mk ci
      clear ca ci hk hs ht hm
      go_enter Tryd.func28, Tryd.ntmps28
      go_wp2_with fail
      refine CA.out.mono ?_
      rintro e w1 ⟨rfl, hb⟩
      have HB := Aside0.mk hb
      clear hb
      go_wp2_with fail
      refine (CI.out _).mono ?_
      rintro e w2 ⟨rfl, hd⟩
      replace HB := Aside0.mk (below_step HB.out hd.below)
      clear hd
      go_wp2_with fail
      go_ret2
      exact ⟨rfl, HB.out⟩
    · rw [if_pos ⟨rfl, hm⟩]
      rw [decide_eq_true hm] at ci
      have CI := Aside0.mk ci
      obtain ⟨_, _, L, st, rfl, rfl, z1, z2, z3, z4⟩ := asked_is hk
      obtain ⟨M, rfl⟩ : ∃ M : Nat, m = (M : Int) := ⟨m.toNat, by omega⟩
      rw [Int.toNat_natCast, Int.toNat_natCast, Int.toNat_natCast]
      have hM : M ≤ 10 := by omega
      rw [← meet s t L st M z1.2 z3.1 hM]
      have HZ := Aside0.mk (And.intro z1 (And.intro z2 (And.intro z3 (And.intro z4 hM))))
      obtain ⟨Q, hQ⟩ : ∃ Q : Nat, Q = s.size + 1 := ⟨_, rfl⟩
      obtain ⟨P, hP⟩ : ∃ P : Nat, P = Q + 1 := ⟨_, rfl⟩
      rw [← hQ]
      have QP := Aside0.mk (And.intro hQ (And.intro hP (show Q ≤ 15 by omega)))
      have hs2 : s.size ≤ 9223372036854775807 := by omega
      have e1 : wrap64 ((s.size : Int) + 1) = (Q : Int) := (w_id (by omega) (by omega)).trans (by omega)
      have e2 : wrap64 ((Q : Int) + 1) = (P : Int) := (w_id (by omega) (by omega)).trans (by omega)
      have E1 := Aside0.mk e1
      have E2 := Aside0.mk e2
      have E3 : Aside0 (wrap64 ((st : Int) + (M : Int)) = ((st + M : Nat) : Int)) := ⟨w_id (by omega) (by omega)⟩
      clear ca ci hk hs ht hm z1 z2 z3 z4 hM hQ hP
      go_enter Tryd.func28, Tryd.ntmps28
      go_wp2_with fail
      refine CA.out.mono ?_
      rintro e w1 ⟨rfl, hb⟩
      have HB := Aside0.mk hb
      clear hb
      go_wp2_with fail
      refine (CI.out _).mono ?_
      rintro e w2 ⟨rfl, hd⟩
      replace HB := Aside0.mk (below_step HB.out hd.below)
      clear hd
      go_upto_region 5 with (at_make; refine Kd.R_make (Kd.int .i64) _ 3 rfl (N := 34) rfl 25 _ _ rfl (wrap64 ((Q : Int) + 1)) rfl rfl Tryd.underlying25 (.int .i64 0) 8 info3 rfl (by decide) (by omega) 0 (ok := fun _ => True) (okp := fun _ => True) rfl (fun _ hk => hk) trivial (by rw [e2]; omega) (by rw [e2]; have := QP.out; omega) (Below.refl _ _) (Nat.le_refl _) ?_; intro v1 w5 ho hb hg_ hnew_; clear hg_ hnew_; simp only [e2, Int.toNat_natCast] at ho; obtain ⟨gN, cN, rfl, hgN, hN⟩ := Tb.of_R (h1 := fun _ => rfl) ho (by have := QP.out; omega); have D5 : Aside0 (D1 w w5 gN cN P (fun _ => 0)) := ⟨⟨below_step HB.out hb, Nat.le_trans HB.out.size hgN, hN⟩⟩; clear ho hb hgN hN)
      have hcz : w5.cell? ⟨gN, 0, none⟩ = some (.int .i64 0) := D5.out.2.2.cell 0 (by have := QP.out; omega)
      have hfz := D5.out.2.2.frozen 0
      have hp0 : 0 < P := by have := QP.out; omega
      have D0 : Aside0 (D1 w (w5.setCell ⟨gN, 0, none⟩ (.int .i64 1)) gN cN P (fun i => ((fw s t L st 0 i : Nat) : Int))) := ⟨(D5.out.put 0 1).congr (fun i _ => by
        simp only [fw]
        by_cases c : i = 0
        · rw [if_pos c, if_pos c]; rfl
        · rw [if_neg c, if_neg c]; rfl)⟩
      go_wp2_with fail
      clear hcz hfz hp0 D5 HB e1 e2
      go_loopw [13, 14] (fun v13 v14 wr => ∃ (k gN cN : Nat) (K : Int), v13 = .slice (some ⟨gN, 0, none⟩) P cN ∧ v14 = .int .i64 K ∧ Aside0 (K = ((st + k : Nat) : Int) ∧ k ≤ M) ∧ Aside0 (D1 w wr gN cN P (fun i => ((fw s t L st k i : Nat) : Int)))) (fun _ v14 _ => st + M - (intOf v14).toNat)
      case atStart => exact ⟨0, gN, cN, _, rfl, rfl, ⟨rfl, Nat.zero_le _⟩, D0⟩
      case round =>
        clear D0
        obtain ⟨k, gN, cN, K, rfl, rfl, HK, HD⟩ := hrel
        obtain ⟨E, hE⟩ : ∃ E : Int, ((st + M : Nat) : Int) = E := ⟨_, rfl⟩
        have EE : Aside0 (wrap64 ((st : Int) + (M : Int)) = E) := ⟨E3.out.trans hE⟩
        have HE := Aside0.mk hE
        clear hE
        by_cases hlt : K < E
        · have hc := decide_eq_true hlt
          have HKM : Aside0 (k < M) := ⟨by have := HK.out; have := HE.out; omega⟩
          clear hlt
          have e1 := E1.out
          have e2 := E2.out
          have e3 := EE.out
          go_upto_region 10 with (at_make; refine Kd.R_make (Kd.int .i64) _ 3 rfl (N := 47) rfl 25 _ _ rfl (wrap64 ((Q : Int) + 1)) rfl rfl Tryd.underlying25 (.int .i64 0) 8 info3 rfl (by decide) (by omega) 0 (ok := fun _ => True) (okp := fun _ => True) rfl (fun _ hk => hk) trivial (by rw [e2]; omega) (by rw [e2]; have := QP.out; omega) (Below.refl _ _) (Nat.le_refl _) ?_; intro v1 w5 ho hb hg_ hnew_; clear hg_ hnew_; simp only [e2, Int.toNat_natCast] at ho; obtain ⟨gB, cB, rfl, hgB, hB⟩ := Tb.of_R (h1 := fun _ => rfl) ho (by have := QP.out; omega); have D5 : Aside0 (D2 w w5 gN cN gB cB P (fun i => ((fw s t L st k i : Nat) : Int)) (fun _ => 0)) := ⟨⟨HD.out.below hb, ⟨(HD.out.below hb).1, Nat.le_trans HD.out.1.size hgB, hB⟩, Nat.ne_of_lt (Nat.lt_of_lt_of_le HD.out.2.2.lt hgB)⟩⟩; clear ho hb hgB hB)
          clear e1 e2 e3 hc HD
          go_wp2_with fail
          have D6 : Aside0 (D2 w w5 gN cN gB cB P (fun i => ((fw s t L st k i : Nat) : Int)) (fun i => if i < 0 then ((fw s t L st (k + 1) i : Nat) : Int) else 0)) := ⟨D5.out.congr (fun i _ => by rw [if_neg (by omega)])⟩
          clear D5
          go_loopw [50] (fun v50 wm => ∃ p : Nat, v50 = .int .i64 (p : Int) ∧ Aside0 (p ≤ P) ∧ Aside0 (D2 w wm gN cN gB cB P (fun i => ((fw s t L st k i : Nat) : Int)) (fun i => if i < p then ((fw s t L st (k + 1) i : Nat) : Int) else 0))) (fun v50 _ => P - (intOf v50).toNat)
          case atStart => exact ⟨0, rfl, ⟨Nat.zero_le _⟩, D6⟩
          case round =>
            clear D6
            obtain ⟨p, rfl, HPP, HD⟩ := hrel
            by_cases hp : p < P
            · have hp1 := decide_eq_true hp
              have HP := Aside0.mk hp
              have WP : Aside0 (wrap64 ((p : Int) + 1) = ((p + 1 : Nat) : Int)) := ⟨w_id (by omega) (by have := QP.out; omega)⟩
              have WL : Aside0 (wrap64 ((p : Int) - (L : Int)) = (p : Int) - (L : Int)) := ⟨w_id (by have := HZ.out; omega) (by have := QP.out; omega)⟩
              have WA : Aside0 (wrap64 ((p : Int) + (L : Int)) = ((p + L : Nat) : Int)) := ⟨w_id (by omega) (by have := QP.out; have := HZ.out; omega)⟩
              have WK : Aside0 (wrap64 (K + 1) = K + 1) := ⟨w_id (by have := HK.out; omega) (by have := HK.out; have := HZ.out; omega)⟩
              have hwl := WL.out
              go_wp2_with fail
              refine (mostS p L _).mono ?_
              rintro e w6 ⟨rfl, ⟨nd, rfl⟩⟩
              clear hwl
              replace HD := Aside0.mk (HD.out.below (pw_below_drewN (Below.refl _ _) nd))
              generalize wr.drewN nd = w7 at HD ⊢
              have D0 : Aside0 (D2 w w7 gN cN gB cB P (fun i => ((fw s t L st k i : Nat) : Int)) (fun i => if i = p then ((0 : Nat) : Int) else if i < p then ((fw s t L st (k + 1) i : Nat) : Int) else 0)) := ⟨HD.out.congr (fun i _ => by
                by_cases c : i = p
                · rw [if_pos c, if_neg (by omega)]; rfl
                · rw [if_neg c])⟩
              clear HD
              go_wp2_with fail
              go_loopw [17] (fun v17 wq => ∃ q a : Nat, v17 = .int .i64 (q : Int) ∧ Aside0 (p - L ≤ q) ∧ Aside0 (a + rest s t L st k p q = fw s t L st (k + 1) p) ∧ Aside0 (D2 w wq gN cN gB cB P (fun i => ((fw s t L st k i : Nat) : Int)) (fun i => if i = p then ((a : Nat) : Int) else if i < p then ((fw s t L st (k + 1) i : Nat) : Int) else 0))) (fun v17 _ => Q - (intOf v17).toNat)
              case atStart => exact ⟨p - L, 0, rfl, ⟨Nat.le_refl _⟩, ⟨by rw [rest_all, Nat.zero_add]⟩, D0⟩
              case round =>
                clear D0
                obtain ⟨q, a, rfl, HQ, HA, HD⟩ := hrel
                have DONE : rest s t L st k p q = 0 → D2 w wr gN cN gB cB P (fun i => ((fw s t L st k i : Nat) : Int)) (fun i => if i < p + 1 then ((fw s t L st (k + 1) i : Nat) : Int) else 0) := fun hr => HD.out.congr (fun i _ => by
                  by_cases c : i = p
                  · rw [if_pos c, if_pos (by omega), c, ← HA.out, hr, Nat.add_zero]
                  · rw [if_neg c]
                    by_cases d : i < p
                    · rw [if_pos d, if_pos (by omega)]
                    · rw [if_neg d, if_neg (by omega)])
                have DN := Aside0.mk DONE
                clear DONE
                by_cases c1 : q < Q
                · have hc1 := decide_eq_true c1
                  by_cases c2 : q ≤ p + L
                  · have hc2 := decide_eq_true (show (q : Int) ≤ (p : Int) + (L : Int) by omega)
                    obtain ⟨b3, hb3⟩ : ∃ b, dryN s t p (st + k + 1) = b := ⟨_, rfl⟩
                    have cd := fun W => dryS s t (p : Int) (K + 1) W HZ.out.1.2 HZ.out.2.1 (by have := QP.out; omega) (by have := HK.out; omega)
                    rw [show dryB s t (p : Int) (K + 1) = b3 by rw [← hb3]; unfold dryN; rw [HK.out.1]; rfl] at cd
                    have CD := Aside0.mk cd
                    have HB3 := Aside0.mk hb3
                    have CC := Aside0.mk (And.intro c1 c2)
                    clear hb3 cd c1 c2
                    have e1 := E1.out
                    have hwa := WA.out
                    have hwk := WK.out
                    go_wp2_with fail
                    refine (CD.out _).mono ?_
                    rintro e w8 ⟨rfl, ⟨nd, rfl⟩⟩
                    clear e1 hwa hwk
                    replace HD := Aside0.mk (HD.out.below (pw_below_drewN (Below.refl _ _) nd))
                    replace DN := Aside0.mk (fun hr => (DN.out hr).below (pw_below_drewN (Below.refl _ _) nd))
                    cases b3 with
                    | false =>
                      have DD := Aside0.mk (DN.out (rest_wet s t L st k p q HB3.out))
                      have hwp := WP.out
                      go_wp2_with fail
                      go_roundw
                      case rel => exact ⟨p + 1, by first | rfl | rw [hwp], ⟨by have := HP.out; omega⟩, DD⟩
                      case measure => (try rw [hwp]); have := HP.out; simp [intOf]; omega
                    | true =>
                      have hr := rest_one s t L st k p q (by have := CC.out; have := QP.out; omega) CC.out.2 HB3.out
                      obtain ⟨b, hb⟩ : ∃ b, fw s t L st k q = b := ⟨_, rfl⟩
                      have hbs : b ≤ 1099511627776 := by rw [← hb]; exact fw_small s t L st k q HZ.out.1.2 (by have := HKM.out; have := HZ.out; omega)
                      have has : a ≤ 1099511627776 := Nat.le_trans (show a ≤ fw s t L st (k + 1) p by rw [← HA.out]; omega) (fw_small s t L st (k + 1) p HZ.out.1.2 (by have := HKM.out; have := HZ.out; omega))
                      have WS : Aside0 (wrap64 ((a : Int) + (b : Int)) = ((a + b : Nat) : Int)) := ⟨w_id (by omega) (by omega)⟩
                      have WQ : Aside0 (wrap64 ((q : Int) + 1) = ((q + 1 : Nat) : Int)) := ⟨w_id (by omega) (by have := QP.out; have := CC.out; omega)⟩
                      have HA2 : Aside0 (a + b + rest s t L st k p (q + 1) = fw s t L st (k + 1) p) := ⟨by rw [← HA.out, hr, hb, Nat.add_assoc]⟩
                      have HBB := Aside0.mk hb
                      have hpP : p < P := HP.out
                      have hqP : q < P := by have := CC.out; have := QP.out; omega
                      clear hr hb hbs has DN
                      go_wp2
                      generalize wr.drewN nd = w9 at HD ⊢
                      refine start_ (n := 11) (S := fun w' => w'.cell? ⟨gB, p, none⟩ = some (.int .i64 (a : Int)) ∧ w'.cell? ⟨gN, q, none⟩ = some (.int .i64 (b : Int)) ∧ Aside0 (D2 w w' gN cN gB cB P (fun i => ((fw s t L st k i : Nat) : Int)) (fun i => if i = p then ((a : Nat) : Int) else if i < p then ((fw s t L st (k + 1) i : Nat) : Int) else 0))) (ds := [10]) #[false, false, false, false, false, false, false, false, false, false, false] (by kernel_rfl) rfl rfl ((HD.out.below (below_drew (Below.refl _ _))).held p q hpP hqP (if_pos rfl) (by rw [HBB.out])) (fun hHeld => ?_)
                      refine pure_ (i := 0) (N := some 77) (v := ?_) (a' := ?_) #[true, false, false, false, false, false, false, false, false, false, false] rfl rfl (by kernel_rfl) (fun _ _ _ h => h) (Or.inl ⟨by rfl, ?_⟩) ?_ ?_
                      rotate_left
                      · intro w'
                        go_simp
                        with_reducible rfl
                      rotate_left
                      · simp only [Act.put, List.setIfInBounds_toArray, List.set_cons_zero, List.set_cons_succ, i64_w, i32_w]
                        rfl
                      refine pure_ (i := 1) (N := some 78) (v := ?_) (a' := ?_) #[true, true, false, false, false, false, false, false, false, false, false] rfl rfl (by kernel_rfl) (fun _ _ _ h => h) (Or.inl ⟨by rfl, ?_⟩) ?_ ?_
                      rotate_left
                      · intro w'
                        go_simp
                        with_reducible rfl
                      rotate_left
                      · simp only [Act.put, List.setIfInBounds_toArray, List.set_cons_zero, List.set_cons_succ, i64_w, i32_w]
                        rfl
                      refine pure_ (i := 2) (N := some 79) (v := ?_) (a' := ?_) #[true, true, true, false, false, false, false, false, false, false, false] rfl rfl (by kernel_rfl) (fun _ _ _ h => h) (Or.inl ⟨by rfl, ?_⟩) ?_ ?_
                      rotate_left
                      · intro w'
                        go_simp
                        with_reducible rfl
                      rotate_left
                      · simp only [Act.put, List.setIfInBounds_toArray, List.set_cons_zero, List.set_cons_succ, i64_w, i32_w]
                        rfl
                      refine pure_ (i := 4) (N := some 81) (v := ?_) (a' := ?_) #[true, true, true, false, true, false, false, false, false, false, false] rfl rfl (by kernel_rfl) (fun _ _ _ h => h) (Or.inl ⟨by rfl, ?_⟩) ?_ ?_
                      rotate_left
                      · intro w'
                        go_simp
                        with_reducible rfl
                      rotate_left
                      · simp only [Act.put, List.setIfInBounds_toArray, List.set_cons_zero, List.set_cons_succ, i64_w, i32_w]
                        rfl
                      refine pure_ (i := 5) (N := some 82) (v := ?_) (a' := ?_) #[true, true, true, false, true, true, false, false, false, false, false] rfl rfl (by kernel_rfl) (fun _ _ _ h => h) (Or.inl ⟨by rfl, ?_⟩) ?_ ?_
                      rotate_left
                      · intro w'
                        go_simp
                        with_reducible rfl
                      rotate_left
                      · simp only [Act.put, List.setIfInBounds_toArray, List.set_cons_zero, List.set_cons_succ, i64_w, i32_w]
                        rfl
                      refine pure_ (i := 6) (N := some 83) (v := ?_) (a' := ?_) #[true, true, true, false, true, true, true, false, false, false, false] rfl rfl (by kernel_rfl) (fun _ _ _ h => h) (Or.inl ⟨by rfl, ?_⟩) ?_ ?_
                      rotate_left
                      · intro w'
                        go_simp
                        with_reducible rfl
                      rotate_left
                      · simp only [Act.put, List.setIfInBounds_toArray, List.set_cons_zero, List.set_cons_succ, i64_w, i32_w]
                        rfl
                      refine take_ (i := 3) (N := some 80) (v := ?_) (a' := ?_) #[true, true, true, true, true, true, true, false, false, false, false] rfl rfl (by kernel_rfl) (fun _ _ _ h => h) (Or.inl ⟨by rfl, ?_⟩) hHeld ?_ ?_
                      rotate_left
                      · rintro w' ⟨s0, s1, s2⟩
                        go_simp
                        with_reducible rfl
                      rotate_left
                      · simp only [Act.put, List.setIfInBounds_toArray, List.set_cons_zero, List.set_cons_succ, i64_w, i32_w]
                        rfl
                      refine take_ (i := 7) (N := some 84) (v := ?_) (a' := ?_) #[true, true, true, true, true, true, true, true, false, false, false] rfl rfl (by kernel_rfl) (fun _ _ _ h => h) (Or.inl ⟨by rfl, ?_⟩) hHeld ?_ ?_
                      rotate_left
                      · rintro w' ⟨s0, s1, s2⟩
                        go_simp
                        with_reducible rfl
                      rotate_left
                      · simp only [Act.put, List.setIfInBounds_toArray, List.set_cons_zero, List.set_cons_succ, i64_w, i32_w]
                        rfl
                      refine pure_ (i := 8) (N := some 85) (v := ?_) (a' := ?_) #[true, true, true, true, true, true, true, true, true, false, false] rfl rfl (by kernel_rfl) (fun _ _ _ h => h) (Or.inl ⟨by rfl, ?_⟩) ?_ ?_
                      rotate_left
                      · intro w'
                        go_simp
                        with_reducible rfl
                      rotate_left
                      · simp only [Act.put, List.setIfInBounds_toArray, List.set_cons_zero, List.set_cons_succ, i64_w, i32_w]
                        rfl
                      refine pure_ (i := 9) (N := some 86) (v := ?_) (a' := ?_) #[true, true, true, true, true, true, true, true, true, true, false] rfl rfl (by kernel_rfl) (fun _ _ _ h => h) (Or.inl ⟨by rfl, ?_⟩) ?_ ?_
                      rotate_left
                      · intro w'
                        go_simp
                        with_reducible rfl
                      rotate_left
                      · simp only [Act.put, List.setIfInBounds_toArray, List.set_cons_zero, List.set_cons_succ, i64_w, i32_w]
                        rfl
                      obtain ⟨s0, s1, s2⟩ := hHeld
                      have hfz := s2.out.2.1.2.2.frozen p
                      refine last_ (i := 10) (N := none) #[true, true, true, true, true, true, true, true, true, true, true] rfl rfl (by kernel_rfl) (by decide) (fun K hK => ?_)
                      refine skip_ (w1 := ?_) (by rfl) rfl ?_ ?_
                      rotate_left
                      · go_simp
                        rfl
                      refine hK.out _ _ ?_
                      clear hK K
                      refine done_ (by kernel_rfl) ?_
                      have S9 := Aside0.mk (s2.out.put p (wrap64 ((a : Int) + (b : Int))))
                      clear s0 s1 s2 hfz HD
                      have hwq := WQ.out
                      go_wp2_with fail
                      go_roundw
                      case rel => exact ⟨q + 1, a + b, by first | rfl | rw [hwq], ⟨by have := HQ.out; omega⟩, HA2, ⟨S9.out.congr (fun i _ => by
                        by_cases c : i = p
                        · rw [if_pos c, if_pos c, WS.out]
                        · rw [if_neg c, if_neg c, if_neg c])⟩⟩
                      case measure => (try rw [hwq]); have := CC.out; simp [intOf]; omega
                  · have hc2 := decide_eq_false (show ¬ (q : Int) ≤ (p : Int) + (L : Int) by omega)
                    have DD := Aside0.mk (DN.out (rest_out s t L st k p q (.inr c2)))
                    clear c1 c2
                    have e1 := E1.out
                    have hwa := WA.out
                    have hwp := WP.out
                    go_wp2_with fail
                    go_roundw
                    case rel => exact ⟨p + 1, by first | rfl | rw [hwp], ⟨by have := HP.out; omega⟩, DD⟩
                    case measure => (try rw [hwp]); have := HP.out; simp [intOf]; omega
                · have hc1 := decide_eq_false c1
                  have DD := Aside0.mk (DN.out (rest_out s t L st k p q (.inl (by have := QP.out; omega))))
                  clear c1
                  have e1 := E1.out
                  have hwp := WP.out
                  go_wp2_with fail
                  go_roundw
                  case rel => exact ⟨p + 1, by first | rfl | rw [hwp], ⟨by have := HP.out; omega⟩, DD⟩
                  case measure => (try rw [hwp]); have := HP.out; simp [intOf]; omega
            · have hp1 := decide_eq_false hp
              obtain rfl : p = P := by have := HPP.out; omega
              have WK : Aside0 (wrap64 (K + 1) = K + 1) := ⟨w_id (by have := HK.out; omega) (by have := HK.out; have := HZ.out; omega)⟩
              have D7 : Aside0 (D1 w wr gB cB p (fun i => ((fw s t L st (k + 1) i : Nat) : Int))) := ⟨HD.out.2.1.congr (fun i hi => by rw [if_pos hi])⟩
              have hwk := WK.out
              go_wp2_with fail
              go_roundw
              case rel => exact ⟨k + 1, gB, cB, K + 1, rfl, by first | rfl | rw [hwk], ⟨by have := HK.out; have := HKM.out; omega⟩, D7⟩
              case measure => (try rw [hwk]); have := HK.out; have := HKM.out; simp [intOf]; omega
        · have hc := decide_eq_false hlt
          have hkM : k = M := by have := HK.out; have := HE.out; omega
          subst hkM
          have hcz : wr.cell? ⟨gN, Q, none⟩ = some (.int .i64 ((fw s t L st k Q : Nat) : Int)) := HD.out.2.2.cell Q (by have := QP.out; omega)
          have hQP : Q < P := by have := QP.out; omega
          clear hlt
          have e1 := E1.out
          have e3 := EE.out
          go_wp2_with fail
          go_ret2
          exact ⟨rfl, HD.out.1⟩
set_option maxHeartbeats 4000000 in
set_option maxRecDepth 100000 in
theorem impl (s t : ByteArray) (l h m : Int) (w : World) (hs : s.size ≤ 140737488351232) (ht : t.size ≤ 140737488351232) :
    Calls Tryd.prog 29 #[.string s, .string t, .int .i64 l, .int .i64 h, .int .i64 m] w fun e w' => e = .returned (.tuple #[.int .i64 (val s t l h m).1, .bool (val s t l h m).2]) ∧ Below w.heap.size w w' := by
  have hu39 := Tryd.underlying39
  have ci := fun W => isRight s t l W hs ht
  have ch := fun W => isHour h W
  unfold val
  have hA : okAsked s t l h = (okRight s t l && okHour h) := rfl
  cases hr : okRight s t l with
  | false =>
    rw [hr] at ci hA
    rw [hA, if_neg (fun q => by cases q.1)]
    have CI := Aside0.mk ci
    clear ci ch hA hr hs ht
    go_enter Tryd.func29, Tryd.ntmps29
    go_wp2_with fail
    refine (CI.out _).mono ?_
    rintro e w1 ⟨rfl, hb⟩
    have HB := Aside0.mk (show Below (w.heap.size + 1) (w.alloc (box s t l)) w1 from by have z := hb.mono (show w.heap.size + 1 ≤ (w.alloc (box s t l)).heap.size by simp); exact z)
    obtain ⟨hc0, hc1, hc2⟩ := boxed HB.out
    clear hb
    go_wp2_with fail
    go_ret2
    exact ⟨rfl, boxed_from HB.out⟩
  | true =>
    rw [hr] at ci hA
    have CI := Aside0.mk ci
    cases hh : okHour h with
    | false =>
      rw [hh] at ch hA
      rw [hA, if_neg (fun q => by cases q.1)]
      have CH := Aside0.mk ch
      clear ci ch hA hr hs ht hh
      go_enter Tryd.func29, Tryd.ntmps29
      go_wp2_with fail
      refine (CI.out _).mono ?_
      rintro e w1 ⟨rfl, hb⟩
      have HB := Aside0.mk (show Below (w.heap.size + 1) (w.alloc (box s t l)) w1 from by have z := hb.mono (show w.heap.size + 1 ≤ (w.alloc (box s t l)).heap.size by simp); exact z)
      obtain ⟨hc0, hc1, hc2⟩ := boxed HB.out
      clear hb
      go_wp2_with fail
      refine (CH.out _).mono ?_
      rintro e w' ⟨rfl, rfl⟩
      go_wp2_with fail
      go_ret2
      exact ⟨rfl, boxed_from HB.out⟩
    | true =>
      rw [hh] at ch hA
      have hk : okAsked s t l h = true := hA
      rw [hk]
      have CH := Aside0.mk ch
      by_cases hm : 0 ≤ m ∧ m ≤ 10
      · rw [if_pos ⟨rfl, hm⟩]
        obtain ⟨_, _, L, st, rfl, rfl, z1, z2, z3, z4⟩ := asked_is hk
        obtain ⟨M, rfl⟩ : ∃ M : Nat, m = (M : Int) := ⟨m.toNat, by omega⟩
        have E1 := Aside0.mk (decide_eq_true hm)
        rw [Int.toNat_natCast, Int.toNat_natCast, Int.toNat_natCast]
        have hM : M ≤ 10 := by omega
        have CE := Aside0.mk (fun (W : World) => Ct.counts s t L st M W z1 z2 z3 (by omega))
        have WS : Aside0 (wrap64 ((st : Int) + (M : Int)) = ((st + M : Nat) : Int)) := ⟨w_id (by omega) (by omega)⟩
        clear ci ch hA hr hs ht hh hk z1 z2 z3 z4 hm hM
        go_enter Tryd.func29, Tryd.ntmps29
        go_wp2_with fail
        refine (CI.out _).mono ?_
        rintro e w1 ⟨rfl, hb⟩
        have HB := Aside0.mk (show Below (w.heap.size + 1) (w.alloc (box s t (L : Int))) w1 from by have z := hb.mono (show w.heap.size + 1 ≤ (w.alloc (box s t (L : Int))).heap.size by simp); exact z)
        obtain ⟨hc0, hc1, hc2⟩ := boxed HB.out
        clear hb
        go_wp2_with fail
        refine (CH.out _).mono ?_
        rintro e w' ⟨rfl, rfl⟩
        go_wp2_with fail
        refine (within_any _ _ _ _).mono ?_
        rw [E1.out]
        rintro e w' ⟨rfl, rfl⟩
        have hws := WS.out
        go_wp2_with fail
        refine (CE.out _).mono ?_
        rintro e w3 ⟨gX, cX, G, C, rfl, hR⟩
        have HR := Aside0.mk hR
        have hr0 := hR.row 0 (by omega) (by omega)
        have hr1 := hR.cell 0 0 (by omega) (by omega)
        have HB3 : Aside0 (Below (w.heap.size + 1) (w.alloc (box s t (L : Int))) w3) := ⟨below_then HB.out (boxed_size HB.out) (boxed_from hR.1)⟩
        clear hR hc0 hc1 hc2 hws
        go_wp2_with fail
        go_ret2
        exact ⟨rfl, boxed_from HB3.out⟩
      · rw [if_neg (fun q => hm q.2)]
        have E1 := Aside0.mk (decide_eq_false hm)
        clear ci ch hA hr hs ht hh hk hm
        go_enter Tryd.func29, Tryd.ntmps29
        go_wp2_with fail
        refine (CI.out _).mono ?_
        rintro e w1 ⟨rfl, hb⟩
        have HB := Aside0.mk (show Below (w.heap.size + 1) (w.alloc (box s t l)) w1 from by have z := hb.mono (show w.heap.size + 1 ≤ (w.alloc (box s t l)).heap.size by simp); exact z)
        obtain ⟨hc0, hc1, hc2⟩ := boxed HB.out
        clear hb
        go_wp2_with fail
        refine (CH.out _).mono ?_
        rintro e w' ⟨rfl, rfl⟩
        go_wp2_with fail
        refine (within_any _ _ _ _).mono ?_
        rw [E1.out]
        rintro e w' ⟨rfl, rfl⟩
        go_wp2_with fail
        go_ret2
        exact ⟨rfl, boxed_from HB.out⟩
end Go.Proofs.YteijbohbdhemoaaDoor.Cw
