/- spec.tdBack at this program: for each hour from which places one is at the far bank by the end. Conditions: a right crossing, an end of at most 5000. -/
import Derived.Test.YteijbohbdhemoaaDoorCw
namespace Go.Proofs.YteijbohbdhemoaaDoor.Bk
set_option linter.unusedVariables false
set_option linter.unusedSimpArgs false
open Go.RowKit Go.Proofs.YteijbohbdhemoaaDoorW.PrintWords Go.Proofs.YteijbohbdhemoaaDoorW.PrintLast Go.Proofs.YteijbohbdhemoaaDoorW.PrintMore Sh Cr Sm Tb Pl Rs Cw
theorem info45 : (Tryd.prog.info? 45).map (fun i => (i.zero, i.size, i.bytes)) = some (some (.slice none 0 0), 1, 24) := by kernel_rfl
/-- Rows of truth values, each a block of the call's own, held by the block gO. -/
def BS (w0 W : World) (gO cO : Nat) (G C : Nat → Nat) (n P : Nat) (F : Nat → Nat → Bool) : Prop :=
  Below w0.heap.size w0 W ∧ w0.heap.size ≤ gO ∧ Tb Subtype.val 45 W gO cO n (fun i => rowO (G i) P (C i)) ∧ (∀ i, i < n → w0.heap.size ≤ G i ∧ Tb Value.bool 4 W (G i) (C i) P (F i))
theorem BS.below {w0 W W' : World} {gO cO n P : Nat} {G C : Nat → Nat} {F : Nat → Nat → Bool} (h : BS w0 W gO cO G C n P F) (hb : Below W.heap.size W W') : BS w0 W' gO cO G C n P F :=
  ⟨below_step h.1 hb, h.2.1, h.2.2.1.below hb, fun i hi => ⟨(h.2.2.2 i hi).1, (h.2.2.2 i hi).2.below hb⟩⟩
theorem BS.congr {w0 W : World} {gO cO n P : Nat} {G C : Nat → Nat} {F F' : Nat → Nat → Bool} (h : BS w0 W gO cO G C n P F) (e : ∀ i, i < n → ∀ p, p < P → F i p = F' i p) : BS w0 W gO cO G C n P F' :=
  ⟨h.1, h.2.1, h.2.2.1, fun i hi => ⟨(h.2.2.2 i hi).1, (h.2.2.2 i hi).2.congr (e i hi)⟩⟩
theorem BS.row {w0 W : World} {gO cO n P : Nat} {G C : Nat → Nat} {F : Nat → Nat → Bool} (h : BS w0 W gO cO G C n P F) (i : Nat) (hi : i < n) : W.cell? ⟨gO, i, none⟩ = some (.slice (some ⟨G i, 0, none⟩) P (C i)) := h.2.2.1.cell i hi
theorem BS.cell {w0 W : World} {gO cO n P : Nat} {G C : Nat → Nat} {F : Nat → Nat → Bool} (h : BS w0 W gO cO G C n P F) (i p : Nat) (hi : i < n) (hp : p < P) {b : Bool} (hb : F i p = b) : W.cell? ⟨G i, p, none⟩ = some (.bool b) := ((h.2.2.2 i hi).2.cell p hp).trans (by rw [hb])
/-- .. and one more row, that is being filled. -/
def BS2 (w0 W : World) (gO cO : Nat) (G C : Nat → Nat) (n P : Nat) (F : Nat → Nat → Bool) (gB cB : Nat) (fB : Nat → Bool) : Prop :=
  BS w0 W gO cO G C n P F ∧ w0.heap.size ≤ gB ∧ (∀ i, i < n → G i ≠ gB) ∧ Tb Value.bool 4 W gB cB P fB
theorem BS2.below {w0 W W' : World} {gO cO n P gB cB : Nat} {G C : Nat → Nat} {F : Nat → Nat → Bool} {fB : Nat → Bool} (h : BS2 w0 W gO cO G C n P F gB cB fB) (hb : Below W.heap.size W W') : BS2 w0 W' gO cO G C n P F gB cB fB :=
  ⟨h.1.below hb, h.2.1, h.2.2.1, h.2.2.2.below hb⟩
theorem BS2.congr {w0 W : World} {gO cO n P gB cB : Nat} {G C : Nat → Nat} {F : Nat → Nat → Bool} {fB fB' : Nat → Bool} (h : BS2 w0 W gO cO G C n P F gB cB fB) (e : ∀ p, p < P → fB p = fB' p) : BS2 w0 W gO cO G C n P F gB cB fB' :=
  ⟨h.1, h.2.1, h.2.2.1, h.2.2.2.congr e⟩
theorem BS2.put {w0 W : World} {gO cO n P gB cB : Nat} {G C : Nat → Nat} {F : Nat → Nat → Bool} {fB : Nat → Bool} (h : BS2 w0 W gO cO G C n P F gB cB fB) (p : Nat) (b : Bool) :
    BS2 w0 (W.setCell ⟨gB, p, none⟩ (.bool b)) gO cO G C n P F gB cB (fun i => if i = p then b else fB i) := by
  obtain ⟨⟨h1, h2, h3, h4⟩, h5, h6, h7⟩ := h
  exact ⟨⟨below_set h1 h5, h2, h3.far (Tb.ne h3 h7 (by decide)) _, fun i hi => ⟨(h4 i hi).1, (h4 i hi).2.far (h6 i hi) _⟩⟩, h5, h6, h7.set p b⟩
theorem Tb.grown {α : Type} {enc : α → Value} {ty : TypeId} {W W' : World} {g cap P : Nat} {f : Nat → α} (h : Tb enc ty W g cap P f) {row : Option Nat} (hg : W.grownBy W' row) (hn : ∀ k, row = some k → k ≠ g) : Tb enc ty W' g cap P f := by
  have hl := h.lt
  obtain ⟨X, h1, h2⟩ := h
  obtain ⟨g1, g2, g3, g4, g5⟩ := hg
  exact ⟨X, (g5 g hl (fun e => hn g e.symm rfl)).trans h1, h2⟩
theorem tab_cons {α : Type} {f : Nat → α} (n : Nat) : [f 0] ++ tab n (fun i => f (i + 1)) = tab (n + 1) f := by
  unfold tab; rw [List.range_succ_eq_map]; simp
/-- A literal of one row. -/
theorem lit_R (W : World) (g P c base : Nat) (hb : base ≤ W.heap.size) : Kd.R KO 45 (W.alloc (.cells #[.slice (some ⟨g, 0, none⟩) P c] 45 (0, 0))) base (fun _ => True) (.slice (some ⟨W.heap.size, 0, none⟩) 1 1) [rowO g P c] := by
  have ht : Tb Subtype.val 45 (W.alloc (.cells #[.slice (some ⟨g, 0, none⟩) P c] 45 (0, 0))) W.heap.size 1 1 (fun _ => rowO g P c) := ⟨[.slice (some ⟨g, 0, none⟩) P c], blk_new W _, rfl, Nat.le_refl _, by decide, fun i hi => (by
    obtain rfl : i = 0 := by omega
    rfl)⟩
  exact ht.to_R (h1 := fun x : One => x.2) base hb
theorem lit_BS {w0 W : World} {g c P : Nat} {f : Nat → Bool} (hb : Below w0.heap.size w0 W) (hg : w0.heap.size ≤ g) (h : Tb Value.bool 4 W g c P f) :
    BS w0 (W.alloc (.cells #[.slice (some ⟨g, 0, none⟩) P c] 45 (0, 0))) W.heap.size 1 (fun _ => g) (fun _ => c) 1 P (fun _ => f) := by
  refine ⟨below_alloc hb _, hb.size, ⟨[.slice (some ⟨g, 0, none⟩) P c], blk_new W _, rfl, Nat.le_refl _, by decide, fun i hi => ?_⟩, fun i hi => ⟨hg, h.below (below_alloc (Below.refl _ _) _)⟩⟩
  obtain rfl : i = 0 := by omega
  rfl
theorem joined {w0 W W1 : World} {gO cO n P gB cB : Nat} {G C : Nat → Nat} {F : Nat → Nat → Bool} {fB : Nat → Bool} (h : BS2 w0 W gO cO G C n P F gB cB fB) {v1 : Value}
    (hb : Below w0.heap.size w0 W1) (hg : (W.alloc (.cells #[.slice (some ⟨gB, 0, none⟩) P cB] 45 (0, 0))).grownBy W1 (some W.heap.size)) (hr : Kd.R KO 45 W1 w0.heap.size (fun _ => True) v1 ([rowO gB P cB] ++ tab n (fun i => rowO (G i) P (C i)))) :
    ∃ gO' cO', v1 = .slice (some ⟨gO', 0, none⟩) (n + 1) cO' ∧ BS w0 W1 gO' cO' (fun i => if i = 0 then gB else G (i - 1)) (fun i => if i = 0 then cB else C (i - 1)) (n + 1) P (fun i => if i = 0 then fB else F (i - 1)) := by
  have e : [rowO gB P cB] ++ tab n (fun i => rowO (G i) P (C i)) = tab (n + 1) (fun i => rowO (if i = 0 then gB else G (i - 1)) P (if i = 0 then cB else C (i - 1))) := by
    rw [← tab_cons]; rfl
  rw [e] at hr
  obtain ⟨gO', cO', rfl, hbo, hT⟩ := Stp.of_tab (h1 := fun x : One => x.2) hr (by omega)
  refine ⟨gO', cO', rfl, hb, hbo, hT, fun i hi => ?_⟩
  obtain ⟨⟨h1, h2, h3, h4⟩, h5, h6, h7⟩ := h
  by_cases c : i = 0
  · simp only [if_pos c]
    exact ⟨h5, Tb.grown (h7.below (below_alloc (Below.refl _ _) _)) hg (fun k hk => by cases hk; exact Nat.ne_of_gt h7.lt)⟩
  · simp only [if_neg c]
    have := h4 (i - 1) (by omega)
    exact ⟨this.1, Tb.grown (this.2.below (below_alloc (Below.refl _ _) _)) hg (fun k hk => by cases hk; exact Nat.ne_of_gt this.2.lt)⟩
/-- What is still to be asked for the place p, from q on. -/
def restB (s t : ByteArray) (L e d p q : Nat) : Bool := dryN s t p (e - (d + 1)) && anyFrom (fun q => sb s t L e d q) q (min (s.size + 2) (p + L + 1) - q)
theorem restB_all (s t : ByteArray) (L e d p : Nat) : restB s t L e d p (p - L) = sb s t L e (d + 1) p := rfl
theorem restB_out (s t : ByteArray) (L e d p q : Nat) (h : ¬ q < s.size + 2 ∨ ¬ q ≤ p + L) : restB s t L e d p q = false := by
  unfold restB
  rw [show min (s.size + 2) (p + L + 1) - q = 0 by omega]
  simp [anyFrom]
theorem restB_wet (s t : ByteArray) (L e d p q : Nat) (h : dryN s t p (e - (d + 1)) = false) : restB s t L e d p q = false := by
  unfold restB
  rw [h]; rfl
theorem restB_one (s t : ByteArray) (L e d p q : Nat) (h1 : q < s.size + 2) (h2 : q ≤ p + L) (hd : dryN s t p (e - (d + 1)) = true) : restB s t L e d p q = (sb s t L e d q || restB s t L e d p (q + 1)) := by
  unfold restB
  rw [hd, show min (s.size + 2) (p + L + 1) - q = (min (s.size + 2) (p + L + 1) - (q + 1)) + 1 by omega]
  rfl
set_option maxHeartbeats 16000000 in
set_option maxRecDepth 100000 in
theorem tdBack (s t : ByteArray) (L st H : Nat) (w : World) (hs : 1 ≤ s.size ∧ s.size ≤ 14) (ht : 1 ≤ t.size ∧ t.size ≤ 12) (hL : 1 ≤ L ∧ L ≤ 15) (hb : st + H ≤ 5000) :
    Calls Tryd.prog 35 #[.string s, .string t, .int .i64 (L : Int), .int .i64 (st : Int), .int .i64 ((st + H : Nat) : Int)] w fun e w' => ∃ gO cO G C, e = .returned (.slice (some ⟨gO, 0, none⟩) (H + 1) cO) ∧ BS w w' gO cO G C (H + 1) (s.size + 2) (fun i => sb s t L (st + H) (H - i)) := by
  have HZ := Aside0.mk (And.intro hs (And.intro ht (And.intro hL hb)))
  obtain ⟨P, hP⟩ : ∃ P : Nat, P = s.size + 2 := ⟨_, rfl⟩
  obtain ⟨Q, hQ⟩ : ∃ Q : Nat, Q = P - 1 := ⟨_, rfl⟩
  obtain ⟨E, hE⟩ : ∃ E : Int, ((st + H : Nat) : Int) = E := ⟨_, rfl⟩
  rw [hE, ← hP]
  have QP := Aside0.mk (And.intro hP (And.intro hQ (show P ≤ 16 ∧ 3 ≤ P by omega)))
  have HE := Aside0.mk hE
  have hs2 : s.size ≤ 9223372036854775807 := by omega
  have e1 : wrap64 ((s.size : Int) + 2) = (P : Int) := (w_id (by omega) (by omega)).trans (by omega)
  have e2 : wrap64 ((P : Int) - 1) = (Q : Int) := (w_id (by omega) (by omega)).trans (by omega)
  have hQP : Q < P := by omega
  have E1 := Aside0.mk e1
  have E2 := Aside0.mk e2
  clear hs ht hL hb hP hQ hE e2
  go_enter Tryd.func35, Tryd.ntmps35
  go_upto_region 3 with (at_make; refine Kd.R_make Kd.bool _ 4 rfl (N := 22) rfl 45 _ _ rfl (wrap64 ((s.size : Int) + 2)) rfl rfl Tryd.underlying45 (.bool false) 1 info4 rfl (by decide) (by omega) false (ok := fun _ => True) (okp := fun _ => True) rfl (fun _ hk => hk) trivial (by rw [e1]; omega) (by rw [e1]; have := QP.out; omega) (Below.refl _ _) (Nat.le_refl _) ?_; intro v1 w5 ho hb hg_ hnew_; clear hg_ hnew_; simp only [e1, Int.toNat_natCast] at ho; obtain ⟨gN, cN, rfl, hgN, hN⟩ := Tb.of_R (h1 := fun _ => rfl) ho (by have := QP.out; omega); have TN := Aside0.mk (And.intro hb (And.intro hgN hN)); clear ho hb hgN hN)
  obtain ⟨hb5, hg5, hT5⟩ := TN.out
  have hcz : w5.cell? ⟨gN, Q, none⟩ = some (.bool false) := hT5.cell Q hQP
  have hfz := hT5.frozen Q
  have e2 := E2.out
  have B1 : Aside0 (Below w.heap.size w (w5.setCell ⟨gN, Q, none⟩ (.bool true))) := ⟨below_set hb5 hg5⟩
  have T1 : Aside0 (Tb Value.bool 4 (w5.setCell ⟨gN, Q, none⟩ (.bool true)) gN cN P (sb s t L (st + H) 0)) := ⟨(hT5.set Q true).congr (fun i hi => by
    simp only [sb]
    by_cases c : i = Q
    · rw [if_pos c, decide_eq_true (by have := QP.out; omega)]
    · rw [if_neg c, decide_eq_false (by have := QP.out; omega)])⟩
  have S1 := Aside0.mk (lit_BS B1.out hg5 T1.out)
  clear hb5 hg5 hT5
  go_wp2_with fail
  clear hcz hfz e1 e2
  go_loopw [13, 14] (fun v13 v14 wr => ∃ (D gO cO : Nat) (G C : Nat → Nat) (K : Int), v13 = .slice (some ⟨gO, 0, none⟩) (D + 1) cO ∧ v14 = .int .i64 K ∧ Aside0 (K = E - (D : Int) ∧ D ≤ H) ∧ Aside0 (BS w wr gO cO G C (D + 1) P (fun i => sb s t L (st + H) (D - i)))) (fun _ v14 _ => (intOf v14 - (st : Int)).toNat)
  case atStart => exact ⟨0, _, _, _, _, E, by first | rfl | simp, rfl, ⟨by omega⟩, ⟨S1.out.congr (fun i hi p hp => by rw [Nat.zero_sub])⟩⟩
  case round =>
    clear S1 B1 T1 TN
    obtain ⟨D, gO, cO, G, C, K, rfl, rfl, HK, HS⟩ := hrel
    by_cases hlt : (st : Int) < K
    · have hc := decide_eq_true hlt
      have HDH : Aside0 (D < H) := ⟨by have := HK.out; have := HE.out; omega⟩
      clear hlt
      have e1 := E1.out
      go_upto_region 9 with (at_make; refine Kd.R_make Kd.bool _ 4 rfl (N := 36) rfl 45 _ _ rfl ((P : Int)) rfl rfl Tryd.underlying45 (.bool false) 1 info4 rfl (by decide) (by omega) false (ok := fun _ => True) (okp := fun _ => True) rfl (fun _ hk => hk) trivial (by omega) (by have := QP.out; omega) (Below.refl _ _) (Nat.le_refl _) ?_; intro v1 w6 ho hb hg_ hnew_; clear hg_ hnew_; simp only [Int.toNat_natCast] at ho; obtain ⟨gB, cB, rfl, hgB, hB⟩ := Tb.of_R (h1 := fun _ => rfl) ho (by have := QP.out; omega); have S6 : Aside0 (BS2 w w6 gO cO G C (D + 1) P (fun i => sb s t L (st + H) (D - i)) gB cB (fun _ => false)) := ⟨⟨HS.out.below hb, Nat.le_trans HS.out.1.size hgB, fun i hi => Nat.ne_of_lt (Nat.lt_of_lt_of_le (HS.out.2.2.2 i hi).2.lt hgB), hB⟩⟩; clear ho hb hgB hB)
      clear e1 hc HS
      go_wp2_with fail
      have S7 : Aside0 (BS2 w w6 gO cO G C (D + 1) P (fun i => sb s t L (st + H) (D - i)) gB cB (fun i => if i < 0 then sb s t L (st + H) (D + 1) i else false)) := ⟨S6.out.congr (fun i _ => by rw [if_neg (by omega)])⟩
      clear S6
      go_loopw [39] (fun v39 wm => ∃ p : Nat, v39 = .int .i64 (p : Int) ∧ Aside0 (p ≤ P) ∧ Aside0 (BS2 w wm gO cO G C (D + 1) P (fun i => sb s t L (st + H) (D - i)) gB cB (fun i => if i < p then sb s t L (st + H) (D + 1) i else false))) (fun v39 _ => P - (intOf v39).toNat)
      case atStart => exact ⟨0, rfl, ⟨Nat.zero_le _⟩, S7⟩
      case round =>
        clear S7
        obtain ⟨p, rfl, HPP, HS⟩ := hrel
        by_cases hp : p < P
        · have hp1 := decide_eq_true hp
          have HP := Aside0.mk hp
          have WP : Aside0 (wrap64 ((p : Int) + 1) = ((p + 1 : Nat) : Int)) := ⟨w_id (by omega) (by have := QP.out; omega)⟩
          have WL : Aside0 (wrap64 ((p : Int) - (L : Int)) = (p : Int) - (L : Int)) := ⟨w_id (by have := HZ.out; omega) (by have := QP.out; omega)⟩
          have WA : Aside0 (wrap64 ((p : Int) + (L : Int)) = ((p + L : Nat) : Int)) := ⟨w_id (by omega) (by have := QP.out; have := HZ.out; omega)⟩
          have WK : Aside0 (wrap64 (K - 1) = K - 1) := ⟨w_id (by have := HK.out; have := HDH.out; have := HE.out; omega) (by have := HK.out; have := HZ.out; have := HE.out; omega)⟩
          have hwl := WL.out
          go_wp2_with fail
          refine (mostS p L _).mono ?_
          rintro e w8 ⟨rfl, ⟨nd, rfl⟩⟩
          clear hwl
          replace HS := Aside0.mk (HS.out.below (pw_below_drewN (Below.refl _ _) nd))
          generalize wr.drewN nd = w7 at HS ⊢
          have S0 : Aside0 (BS2 w w7 gO cO G C (D + 1) P (fun i => sb s t L (st + H) (D - i)) gB cB (fun i => if i = p then false else if i < p then sb s t L (st + H) (D + 1) i else false)) := ⟨HS.out.congr (fun i _ => by
            by_cases c : i = p
            · rw [if_pos c, if_neg (by omega)]
            · rw [if_neg c])⟩
          clear HS
          go_wp2_with fail
          go_loopw [17] (fun v17 wq => ∃ (q : Nat) (a : Bool), v17 = .int .i64 (q : Int) ∧ Aside0 (p - L ≤ q) ∧ Aside0 ((a || restB s t L (st + H) D p q) = sb s t L (st + H) (D + 1) p) ∧ Aside0 (BS2 w wq gO cO G C (D + 1) P (fun i => sb s t L (st + H) (D - i)) gB cB (fun i => if i = p then a else if i < p then sb s t L (st + H) (D + 1) i else false))) (fun v17 _ => P - (intOf v17).toNat)
          case atStart => exact ⟨p - L, false, rfl, ⟨Nat.le_refl _⟩, ⟨by rw [restB_all, Bool.false_or]⟩, S0⟩
          case round =>
            clear S0
            obtain ⟨q, a, rfl, HQ, HA, HS⟩ := hrel
            have DONE : restB s t L (st + H) D p q = false → BS2 w wr gO cO G C (D + 1) P (fun i => sb s t L (st + H) (D - i)) gB cB (fun i => if i < p + 1 then sb s t L (st + H) (D + 1) i else false) := fun hr => HS.out.congr (fun i _ => by
              by_cases c : i = p
              · rw [if_pos c, if_pos (by omega), c, ← HA.out, hr, Bool.or_false]
              · rw [if_neg c]
                by_cases d : i < p
                · rw [if_pos d, if_pos (by omega)]
                · rw [if_neg d, if_neg (by omega)])
            have DN := Aside0.mk DONE
            clear DONE
            by_cases c1 : q < P
            · have hc1 := decide_eq_true c1
              by_cases c2 : q ≤ p + L
              · have hc2 := decide_eq_true (show (q : Int) ≤ (p : Int) + (L : Int) by omega)
                obtain ⟨b3, hb3⟩ : ∃ b, dryN s t p (st + H - (D + 1)) = b := ⟨_, rfl⟩
                have cd := fun W => dryS s t (p : Int) (K - 1) W HZ.out.1.2 HZ.out.2.1 (by have := QP.out; omega) (by have := HK.out; have := HDH.out; have := HE.out; omega)
                rw [show dryB s t (p : Int) (K - 1) = b3 by rw [← hb3]; unfold dryN; rw [show K - 1 = ((st + H - (D + 1) : Nat) : Int) by have := HK.out; have := HDH.out; have := HE.out; omega]] at cd
                have CD := Aside0.mk cd
                have HB3 := Aside0.mk hb3
                have CC := Aside0.mk (And.intro c1 c2)
                clear hb3 cd c1 c2
                have e1 := E1.out
                have hwa := WA.out
                have hwk := WK.out
                go_wp2_with fail
                refine (CD.out _).mono ?_
                rintro e w8 ⟨rfl, ⟨nd, rfl⟩⟩
                clear e1 hwa hwk
                replace HS := Aside0.mk (HS.out.below (pw_below_drewN (Below.refl _ _) nd))
                replace DN := Aside0.mk (fun hr => (DN.out hr).below (pw_below_drewN (Below.refl _ _) nd))
                generalize wr.drewN nd = w9 at HS DN ⊢
                cases b3 with
                | false =>
                  have DD := Aside0.mk (DN.out (restB_wet s t L (st + H) D p q HB3.out))
                  have hwp := WP.out
                  go_wp2_with fail
                  go_roundw
                  case rel => exact ⟨p + 1, by first | rfl | rw [hwp], ⟨by have := HP.out; omega⟩, DD⟩
                  case measure => (try rw [hwp]); have := HP.out; simp [intOf]; omega
                | true =>
                  have hr := restB_one s t L (st + H) D p q (by have := CC.out; have := QP.out; omega) CC.out.2 HB3.out
                  have WQ : Aside0 (wrap64 ((q : Int) + 1) = ((q + 1 : Nat) : Int)) := ⟨w_id (by omega) (by have := QP.out; have := CC.out; omega)⟩
                  have hcB : w9.cell? ⟨gB, p, none⟩ = some (.bool a) := (HS.out.2.2.2.cell p HP.out).trans (by rw [if_pos rfl])
                  have hfB := HS.out.2.2.2.frozen p
                  have hpP := HP.out
                  clear DN
                  cases a with
                  | true =>
                    have HA2 : Aside0 ((true || restB s t L (st + H) D p (q + 1)) = sb s t L (st + H) (D + 1) p) := ⟨by rw [← HA.out, Bool.true_or, Bool.true_or]⟩
                    have S9 := Aside0.mk (HS.out.put p true)
                    clear hr HS
                    have hwq := WQ.out
                    go_wp2_with fail
                    go_roundw
                    case rel => exact ⟨q + 1, true, by first | rfl | rw [hwq], ⟨by have := HQ.out; omega⟩, HA2, ⟨S9.out.congr (fun i _ => by
                      by_cases c : i = p
                      · simp only [if_pos c]
                      · simp only [if_neg c])⟩⟩
                    case measure => (try rw [hwq]); have := CC.out; simp [intOf]; omega
                  | false =>
                    obtain ⟨b, hb⟩ : ∃ b, sb s t L (st + H) D q = b := ⟨_, rfl⟩
                    have HA2 : Aside0 ((b || restB s t L (st + H) D p (q + 1)) = sb s t L (st + H) (D + 1) p) := ⟨by rw [← HA.out, hr, hb, Bool.false_or]⟩
                    have hcO := HS.out.1.row 0 (by omega)
                    have hcq : w9.cell? ⟨G 0, q, none⟩ = some (.bool b) := HS.out.1.cell 0 q (by omega) CC.out.1 (by rw [Nat.sub_zero, hb])
                    have hqP : q < P := CC.out.1
                    have S9 := Aside0.mk (HS.out.put p b)
                    clear hr hb HS
                    have hwq := WQ.out
                    go_wp2_with fail
                    go_roundw
                    case rel => exact ⟨q + 1, b, by first | rfl | rw [hwq], ⟨by have := HQ.out; omega⟩, HA2, ⟨S9.out.congr (fun i _ => by
                      by_cases c : i = p
                      · simp only [if_pos c]
                      · simp only [if_neg c])⟩⟩
                    case measure => (try rw [hwq]); have := CC.out; simp [intOf]; omega
              · have hc2 := decide_eq_false (show ¬ (q : Int) ≤ (p : Int) + (L : Int) by omega)
                have DD := Aside0.mk (DN.out (restB_out s t L (st + H) D p q (.inr c2)))
                clear c1 c2
                have e1 := E1.out
                have hwa := WA.out
                have hwp := WP.out
                go_wp2_with fail
                go_roundw
                case rel => exact ⟨p + 1, by first | rfl | rw [hwp], ⟨by have := HP.out; omega⟩, DD⟩
                case measure => (try rw [hwp]); have := HP.out; simp [intOf]; omega
            · have hc1 := decide_eq_false c1
              have DD := Aside0.mk (DN.out (restB_out s t L (st + H) D p q (.inl (by have := QP.out; omega))))
              clear c1
              have e1 := E1.out
              have hwp := WP.out
              go_wp2_with fail
              go_roundw
              case rel => exact ⟨p + 1, by first | rfl | rw [hwp], ⟨by have := HP.out; omega⟩, DD⟩
              case measure => (try rw [hwp]); have := HP.out; simp [intOf]; omega
        · have hp1 := decide_eq_false hp
          obtain ⟨P', hP'⟩ : ∃ P', P' = P := ⟨_, rfl⟩
          have hpe : p = P := by have := HPP.out; omega
          have WK : Aside0 (wrap64 (K - 1) = K - 1) := ⟨w_id (by have := HK.out; have := HDH.out; have := HE.out; omega) (by have := HK.out; have := HZ.out; have := HE.out; omega)⟩
          have AR : Aside0 (Kd.C KO (wr.alloc (.cells #[.slice (some ⟨gB, 0, none⟩) P cB] 45 (0, 0))) (some ⟨gO, 0, none⟩) (D + 1) (tab (D + 1) (fun i => rowO (G i) P (C i)))) := ⟨by
            have hr := (HS.out.1.2.2.1.below (below_alloc (Below.refl _ _) (.cells #[.slice (some ⟨gB, 0, none⟩) P cB] 45 (0, 0)))).to_R (h1 := fun x : One => x.2) 0 (Nat.zero_le _)
            have hq := (Kd.R_reads' hr).2.2
            rw [tab_len] at hq
            exact hq⟩
          clear hp
          have hwk := WK.out
          go_wp2_with ((with_reducible refine gate_builtin (b := .append) (xs := #[.tmp 83, .tmp 84]) rfl ?_); at_builtin; refine Kd.R_append_rows KO (Rr := KO.K (wr.alloc (.cells #[.slice (some ⟨gB, 0, none⟩) P cB] 45 (0, 0)))) (w0 := w) w.heap.size rfl (.tmp 83) (.tmp 84) 43 45 (.slice none 0 0) 24 rfl Tryd.underlying43 info45 rfl (by decide) (by omega) (.slice (some ⟨wr.heap.size, 0, none⟩) 1 1) [rowO gB P cB] (tab (D + 1) (fun i => rowO (G i) P (C i))) (some ⟨gO, 0, none⟩) (D + 1) cO (fun _ => True) (fun _ => False) ?aH rfl ?aO ?aR (fun _ _ h => h) (fun _ hk => hk.elim) (fun _ _ => trivial) ?aB ?aS ?aL ?_; (case aH => (show Value.slice (some ⟨wr.heap.size, 0, none⟩) 1 1 = _; simp)); (case aO => exact lit_R wr gB P cB _ HS.out.1.1.size); (case aR => exact AR.out); (case aB => exact below_alloc HS.out.1.1 _); (case aS => exact Nat.le_trans HS.out.1.1.size (by simp)); (case aL => have := HK.out; have := HZ.out; simp; omega); intro v1 w9 ho hb hg hat; clear hat; obtain ⟨gX, cX, rfl, hX⟩ := joined HS.out hb hg ho; have HX := Aside0.mk hX; clear ho hb hg hX)
          go_roundw
          case rel => exact ⟨D + 1, gX, cX, _, _, K - 1, rfl, by first | rfl | rw [hwk], ⟨by have := HK.out; have := HDH.out; omega⟩, ⟨HX.out.congr (fun i hi p' hp' => by
            by_cases c : i = 0
            · rw [if_pos c, if_pos (by omega), c, Nat.sub_zero]
            · rw [if_neg c, show D - (i - 1) = D + 1 - i by omega])⟩⟩
          case measure => (try rw [hwk]); have := HK.out; have := HDH.out; have := HE.out; simp [intOf]; omega
    · have hc := decide_eq_false hlt
      have hDH : D = H := by have := HK.out; have := HE.out; omega
      subst hDH
      clear hlt
      go_wp2_with fail
      go_ret
      exact ⟨_, _, _, _, rfl, HS.out⟩
end Go.Proofs.YteijbohbdhemoaaDoor.Bk
