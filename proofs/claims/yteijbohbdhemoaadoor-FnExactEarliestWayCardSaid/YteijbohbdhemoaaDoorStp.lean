/- spec.tdStep at this program: who can be where an hour later. Conditions: a right crossing, small hours; the row stands. -/
import Derived.Test.YteijbohbdhemoaaDoorPl
import Derived.Test.YteijbohbdhemoaaDoorPFnExactEarliestAtx1
namespace Go.Proofs.YteijbohbdhemoaaDoor.Stp
set_option linter.unusedVariables false
set_option linter.unusedSimpArgs false
open Go.RowKit Go.Proofs.YteijbohbdhemoaaDoorW.PrintWords Go.Proofs.YteijbohbdhemoaaDoorW.PrintLast Go.Proofs.YteijbohbdhemoaaDoorW.PrintMore Sh Cr Sm Tb Pl PFnExactEarliestAt
section
variable {α : Type} {P : Nat} {f g : Nat → α}
theorem tab_get (d : α) {p : Nat} (h : p < P) : (tab P f).getD p d = f p := by
  rw [List.getD_eq_getElem?_getD, tab, List.getElem?_map, List.getElem?_range h]; rfl
theorem tab_set {p : Nat} {v : α} : (tab P f).set p v = tab P (fun i => if i = p then v else f i) := by
  apply List.ext_getElem
  · simp [tab]
  · intro i h1 h2
    rw [List.getElem_set]
    simp only [tab, List.getElem_map, List.getElem_range]
    by_cases e : p = i
    · rw [if_pos e, if_pos e.symm]
    · rw [if_neg e, if_neg (fun h => e h.symm)]
theorem tab_const (v : α) : List.replicate P v = tab P (fun _ => v) := by
  apply List.ext_getElem
  · simp [tab]
  · intro i h1 h2; simp [tab]
end
theorem rdOf_tab {α : Type} {P : Nat} {f : Nat → α} (d : α) {p : Nat} (h : p < P) : rdOf d (tab P f) (p : Int) = f p := by
  unfold rdOf; rw [show ((p : Int)).toNat = p by omega]; exact tab_get d h
theorem rd_tab {P : Nat} {f : Nat → Int} {p : Nat} (h : p < P) : rd (tab P f) (p : Int) = f p := by
  unfold rd; rw [show ((p : Int)).toNat = p by omega]; exact tab_get 0 h
theorem w_nat {n : Nat} (h : n ≤ 100000) : wrap64 ((n : Int) + 1) = ((n + 1 : Nat) : Int) := by unfold wrap64; omega
theorem w_id {n : Int} (h0 : -100000 ≤ n) (h1 : n ≤ 100000) : wrap64 n = n := by unfold wrap64; omega
theorem dry_is (s t : ByteArray) (p h : Int) (hs : s.size ≤ 14) (ht : 1 ≤ t.size ∧ t.size ≤ 12) (hp : 0 ≤ p ∧ p ≤ (s.size : Int) + 1) (hh : 0 ≤ h) : spec_tdDry.f s t p h = some (dryB s t p h) := by
  unfold spec_tdDry.f dryB
  have e1 : wrap64 ((s.size : Int) + 1) = (s.size : Int) + 1 := by unfold wrap64; omega
  have e2 : wrap64 (p - 1) = p - 1 := by unfold wrap64; omega
  have e3 : Int.tmod h (t.size : Int) = h % (t.size : Int) := Int.tmod_eq_emod_of_nonneg hh
  have e4 : 0 ≤ h % (t.size : Int) ∧ h % (t.size : Int) < (t.size : Int) := ⟨Int.emod_nonneg _ (by omega), Int.emod_lt_of_pos _ (by omega)⟩
  rw [e1, e2, e3]
  by_cases c0 : p = 0
  · rw [if_pos c0]; simp [c0]
  · rw [if_neg c0]
    by_cases c1 : p = (s.size : Int) + 1
    · rw [if_pos c1]; simp [c1]
    · rw [if_neg c1, if_pos (by omega), if_pos (by omega), if_neg (by omega), if_pos e4.1, if_pos e4.2]
      simp [c0, c1]
set_option linter.unusedSectionVars false
section
variable (s t : ByteArray) (L st : Nat) (hs : 1 ≤ s.size ∧ s.size ≤ 14) (ht : 1 ≤ t.size ∧ t.size ≤ 12) (hL : 1 ≤ L ∧ L ≤ 15)
include hs ht hL
theorem dry_nat (p h : Nat) (hp : p < s.size + 2) : spec_tdDry.f s t (p : Int) (h : Int) = some (dryN s t p h) := dry_is s t _ _ hs.2 ht (by omega) (by omega)
/-- One place of the reference's step. -/
theorem step_l1 (h p : Nat) (hh : h ≤ 5000) (hp : p < s.size + 2) (at_ : Nat → Bool) (r : List Bool) (e : Nat) (he : e = min (s.size + 2) (p + L + 1)) (d : Nat) : ∀ (q : Nat) (g : Nat → Bool), q + d = e →
    Ev (fun k => spec_tdStep.l0 k s t (L : Int) (h : Int) (tab (s.size + 2) at_) (tab (s.size + 2) (fun i => if i = p then g p || (dryN s t p (h + 1) && anyFrom at_ q d) else g i)) ((s.size + 2 : Nat) : Int) ((p + 1 : Nat) : Int)) r →
    Ev (fun k => spec_tdStep.l1 k s t (L : Int) (h : Int) (tab (s.size + 2) at_) (tab (s.size + 2) g) (p : Int) (q : Int) ((s.size + 2 : Nat) : Int) (p : Int)) r := by
  have ewp := Aside0.mk (show wrap64 ((p : Int) + 1) = ((p + 1 : Nat) : Int) from w_nat (by omega))
  have ewl := Aside0.mk (show wrap64 ((p : Int) + (L : Int)) = ((p + L : Nat) : Int) from by rw [w_id (by omega) (by omega)]; omega)
  have ewh := Aside0.mk (show wrap64 ((h : Int) + 1) = ((h + 1 : Nat) : Int) from w_nat (by omega))
  have hsame : ∀ (b : Bool) (g : Nat → Bool), b = false → tab (s.size + 2) (fun i => if i = p then g p || b else g i) = tab (s.size + 2) g := by
    intro b g hb
    refine tab_congr fun i _ => ?_
    by_cases c : i = p
    · rw [if_pos c, hb, c]; simp
    · rw [if_neg c]
  induction d with
  | zero =>
    intro q g hq hE
    rw [hsame _ g (by simp [anyFrom])] at hE
    refine Ev.step (fun k => ?_) hE
    simp only [spec_tdStep.l1, tab_len, ewp.out, ewl.out]
    by_cases c : q < s.size + 2
    · rw [if_pos (by omega), if_neg (by omega)]
    · rw [if_neg (by omega)]
  | succ d ih =>
    intro q g hq hE
    have c1 : (q : Int) < ((s.size + 2 : Nat) : Int) := by omega
    have c2 : (q : Int) ≤ ((p + L : Nat) : Int) := by omega
    have c3 : 0 ≤ (p : Int) := by omega
    have c4 : (p : Int) < ((s.size + 2 : Nat) : Int) := by omega
    have c5 : 0 ≤ (q : Int) := by omega
    have ewq := Aside0.mk (show wrap64 ((q : Int) + 1) = ((q + 1 : Nat) : Int) from w_nat (by omega))
    have hq2 : q < s.size + 2 := by omega
    cases hd : dryN s t p (h + 1) with
    | false =>
      rw [hsame _ g (by rw [hd]; simp)] at hE
      refine Ev.step (fun k => ?_) hE
      simp only [spec_tdStep.l1, tab_len, ewp.out, ewl.out, ewh.out]
      rw [if_pos c1, if_pos c2, dry_nat s t L hs ht hL p (h + 1) hp, hd]
      simp
    | true =>
      rw [hd] at hE
      have step : ∀ v : Bool, v = (g p || at_ q) → Ev (fun k => spec_tdStep.l1 k s t (L : Int) (h : Int) (tab (s.size + 2) at_) (tab (s.size + 2) (fun i => if i = p then v else g i)) (p : Int) ((q + 1 : Nat) : Int) ((s.size + 2 : Nat) : Int) (p : Int)) r := by
        intro v hv
        refine ih (q + 1) _ (by omega) ?_
        rw [hd]
        have e2 : tab (s.size + 2) (fun i => if i = p then (if p = p then v else g p) || (true && anyFrom at_ (q + 1) d) else if i = p then v else g i) = tab (s.size + 2) (fun i => if i = p then g p || (true && anyFrom at_ q (d + 1)) else g i) := by
          refine tab_congr fun i _ => ?_
          by_cases c : i = p
          · rw [if_pos c, if_pos c, if_pos rfl, hv]; simp only [anyFrom, Bool.true_and, Bool.or_assoc]
          · rw [if_neg c, if_neg c, if_neg c]
        rw [e2]; exact hE
      cases hg : g p with
      | true =>
        refine Ev.step (fun k => ?_) (step true (by rw [hg]; rfl))
        simp only [spec_tdStep.l1, tab_len, ewp.out, ewl.out, ewh.out, ewq.out]
        rw [if_pos c1, if_pos c2, dry_nat s t L hs ht hL p (h + 1) hp, hd]
        simp only [Option.bind_some, if_true]
        rw [if_pos c3, if_pos c4, rdOf_tab false hp, if_pos hg, show ((p : Int)).toNat = p by omega, tab_set]
      | false =>
        refine Ev.step (fun k => ?_) (step (at_ q) (by rw [hg]; rfl))
        simp only [spec_tdStep.l1, tab_len, ewp.out, ewl.out, ewh.out, ewq.out]
        rw [if_pos c1, if_pos c2, dry_nat s t L hs ht hL p (h + 1) hp, hd]
        simp only [Option.bind_some, if_true]
        rw [if_pos c3, if_pos c4, rdOf_tab false hp, if_neg (by rw [hg]; decide), if_pos c5, rdOf_tab false hq2, show ((p : Int)).toNat = p by omega, tab_set]
theorem reach_is (j p : Nat) (hp : p < s.size + 2) : rch s t L st (j + 1) p = (dryN s t p (st + j + 1) && anyFrom (rch s t L st j) (p - L) (min (s.size + 2) (p + L + 1) - (p - L))) := by
  rw [Bool.eq_iff_iff, Tide.reach_succ, Bool.and_eq_true, anyFrom_iff]
  constructor
  · rintro ⟨a, q, b, c, d⟩
    simp only [Tide.near, decide_eq_true_eq] at d
    exact ⟨a, q, by omega, by omega, c⟩
  · rintro ⟨a, q, b, c, d⟩
    exact ⟨a, q, by omega, d, by simp only [Tide.near, decide_eq_true_eq]; omega⟩
theorem step_l0 (j : Nat) (hj : st + j ≤ 5000) (d : Nat) : ∀ (p : Nat) (g : Nat → Bool), p + d = s.size + 2 → (∀ i, i < p → g i = rch s t L st (j + 1) i) → (∀ i, p ≤ i → g i = false) →
    Ev (fun k => spec_tdStep.l0 k s t (L : Int) ((st + j : Nat) : Int) (tab (s.size + 2) (rch s t L st j)) (tab (s.size + 2) g) ((s.size + 2 : Nat) : Int) (p : Int)) (tab (s.size + 2) (rch s t L st (j + 1))) := by
  induction d with
  | zero =>
    intro p g hp h1 h2
    refine Ev.step (fun k => ?_) (Ev.now _)
    simp only [spec_tdStep.l0]
    rw [if_neg (by omega)]
    exact congrArg some (tab_congr fun i hi => h1 i (by omega))
  | succ d ih =>
    intro p g hp h1 h2
    have hm : spec_l1Most.f 0 (wrap64 ((p : Int) - (L : Int))) = some ((p - L : Nat) : Int) := by
      unfold spec_l1Most.f
      rw [w_id (by omega) (by omega)]
      by_cases c : (0 : Int) > (p : Int) - (L : Int)
      · rw [if_pos c]; exact congrArg some (by omega)
      · rw [if_neg c]; exact congrArg some (by omega)
    refine Ev.step (f := fun k => spec_tdStep.l1 k s t (L : Int) ((st + j : Nat) : Int) (tab (s.size + 2) (rch s t L st j)) (tab (s.size + 2) g) (p : Int) ((p - L : Nat) : Int) ((s.size + 2 : Nat) : Int) (p : Int)) (fun k => ?_) ?_
    · simp only [spec_tdStep.l0]
      rw [if_pos (by omega), hm]; rfl
    · refine step_l1 s t L hs ht hL (st + j) p hj (by omega) _ _ _ rfl (min (s.size + 2) (p + L + 1) - (p - L)) (p - L) g (by omega) ?_
      refine ih (p + 1) _ (by omega) (fun i hi => ?_) (fun i hi => ?_)
      · by_cases c : i = p
        · rw [if_pos c, c, h2 p (Nat.le_refl _), Bool.false_or, reach_is s t L st hs ht hL j p (by omega)]
        · rw [if_neg c]; exact h1 i (by omega)
      · rw [if_neg (by omega)]; exact h2 i (by omega)
theorem step_ok (j : Nat) (hj : st + j ≤ 5000) : Ev (fun k => spec_tdStep.f k s t (L : Int) ((st + j : Nat) : Int) (tab (s.size + 2) (rch s t L st j))) (tab (s.size + 2) (rch s t L st (j + 1))) := by
  refine Ev.congr (fun k => ?_) (step_l0 s t L st hs ht hL j hj (s.size + 2) 0 (fun _ => false) (by omega) (fun i hi => by omega) (fun _ _ => rfl))
  simp only [spec_tdStep.f, tab_len]
  rw [if_pos (by omega), if_pos (by omega), show (((s.size + 2 : Nat) : Int)).toNat = s.size + 2 by omega, tab_const]; rfl
end
theorem step (s t : ByteArray) (L st j : Nat) (hs : 1 ≤ s.size ∧ s.size ≤ 14) (ht : 1 ≤ t.size ∧ t.size ≤ 12) (hL : 1 ≤ L ∧ L ≤ 15) (hj : st + j ≤ 5000) (g c : Nat) (w : World) (h : Tb Value.bool 4 w g c (s.size + 2) (rch s t L st j)) :
    Calls Tryd.prog 51 #[.string s, .string t, .int .i64 (L : Int), .int .i64 ((st + j : Nat) : Int), .slice (some ⟨g, 0, none⟩) (s.size + 2) c] w fun e w' => ∃ v0_ : Value, e = .returned (v0_) ∧ Kd.R Kd.bool 4 w' w.heap.size (fun _ => True) v0_ (tab (s.size + 2) (rch s t L st (j + 1))) ∧ Below w.heap.size w w' := by
  obtain ⟨K, hK⟩ := step_ok s t L st hs ht hL j hj
  have hr : (Kd.bool).R 4 w 0 (fun _ => True) (.slice (some ⟨g, 0, none⟩) (s.size + 2) c) (tab (s.size + 2) (rch s t L st j)) := h.to_R (h1 := fun _ => rfl) 0 (Nat.zero_le _)
  have hq := Kd.R_reads' hr
  have := spec_tdStep.calls K s t (L : Int) ((st + j : Nat) : Int) (some ⟨g, 0, none⟩) c (tab (s.size + 2) (rch s t L st j)) _ w hq.2.2 (by rw [← hq.1]; exact hq.2.1) (hK K (Nat.le_refl _))
  rw [tab_len] at this
  exact this
theorem of_tab {α : Type} {enc : α → Value} {ty : TypeId} {W : World} {h1 : ∀ x : α, (enc x).oneCell' = true} {base : Nat} {ok : Nat → Prop} {v : Value} {n : Nat} {f : Nat → α} (h : (Kd.scalar enc h1).R ty W base ok v (tab n f)) (hn : 0 < n) :
    ∃ g cap, v = .slice (some ⟨g, 0, none⟩) n cap ∧ base ≤ g ∧ Tb enc ty W g cap n f := by
  have ho := Kd.own_of_R h
  rcases ho with ⟨_, ⟨_, h0⟩ | ⟨g, cap, cur, rfl, hg, hh, hc1, hc2, hsz, htk⟩⟩
  · rw [tab_len] at h0; omega
  · rw [tab_len] at hc1 htk ⊢
    simp only [Nat.mul_one] at hsz htk
    refine ⟨g, cap, rfl, hg, cur.toList, by simpa using hh, by simpa using hsz, hc1, hc2, fun i hi => ?_⟩
    have e : (cur.toList.take n)[i]? = some (enc (f i)) := by
      rw [htk]
      simp [encs, tab, hi]
    rw [List.getElem?_take_of_lt hi] at e
    exact e
end Go.Proofs.YteijbohbdhemoaaDoor.Stp
