/- (crossing).counts at this program: for each hour and place the ways to the far bank. Conditions: a right crossing, an end of at most 5000. -/
import Derived.Test.YteijbohbdhemoaaDoorRs
namespace Go.Proofs.YteijbohbdhemoaaDoor.Ct
set_option linter.unusedVariables false
set_option linter.unusedSimpArgs false
open Go.RowKit Go.Proofs.YteijbohbdhemoaaDoorW.PrintWords Go.Proofs.YteijbohbdhemoaaDoorW.PrintLast Go.Proofs.YteijbohbdhemoaaDoorW.PrintMore Sh Cr Sm Tb Pl Nd Rs
attribute [local go_sem] max2_int min2_int max_two min_two
theorem info25 : (Tryd.prog.info? 25).map (fun i => (i.zero, i.size, i.bytes)) = some (some (.slice none 0 0), 1, 24) := by kernel_rfl
theorem near_tide (L q p : Nat) : nearI (L : Int) (q : Int) (p : Int) = Tide.near L q p := Arr.near_tide L q p
/-- What stands in the loops over the rows. -/
def res (s t : ByteArray) (L st H : Nat) : Nat → Nat → Int := fun j p => ((bk s t L (st + H) (H - j) p : Nat) : Int)
theorem first_row (s t : ByteArray) (L st H P Q m : Nat) (hP : P = s.size + 2) (hQ : Q = P - 1) (hm : m = H + 1) : ∀ i, i < m → ∀ p, p < P → (if i = H ∧ p = Q then (1 : Int) else 0) = cD s t L st H H i p := by
  intro i hi p hp
  unfold cD
  by_cases c : H ≤ i
  · obtain rfl : i = H := by omega
    rw [if_pos c, Nat.sub_self]
    simp only [bk]
    by_cases e : p = s.size + 1
    · rw [if_pos e, if_pos ⟨trivial, by omega⟩]; rfl
    · rw [if_neg (fun x => e (by have := x.2; omega)), if_neg e]; rfl
  · rw [if_neg (fun x => c (by omega)), if_neg c]
theorem next_place (s t : ByteArray) (L st H k p P m : Nat) (hP : P = s.size + 2) (hp : p < s.size + 1) (hk : k < H) : ∀ i, i < m → ∀ p', p' < P → (if i = k ∧ p' = p then ((acc cap (cF s t L st H k p) P : Nat) : Int) else cG s t L st H k p i p') = cG s t L st H k (p + 1) i p' := by
  intro i hi p' hp'
  unfold cG
  by_cases c : i = k ∧ p' = p
  · rw [if_pos c, if_pos (.inr ⟨c.1, by omega⟩), c.1, c.2, bk_row s t L st H k p hk hp, hP]
  · rw [if_neg c]
    by_cases e : k < i ∨ (i = k ∧ p' < p)
    · rw [if_pos e, if_pos (by omega)]
    · rw [if_neg e, if_neg (by omega)]
theorem next_hour (s t : ByteArray) (L st H k Q P m : Nat) (hP : P = s.size + 2) (hQ : Q = P - 1) (hk : k < H) : ∀ i, i < m → ∀ p', p' < P → cG s t L st H k Q i p' = cD s t L st H k i p' := by
  intro i hi p' hp'
  unfold cG cD
  by_cases c : k < i
  · rw [if_pos (.inl c), if_pos (by omega)]
  · by_cases e : i = k
    · by_cases f : p' < s.size + 1
      · rw [if_pos (.inr ⟨e, by omega⟩), if_pos (by omega)]
      · obtain rfl : p' = s.size + 1 := by omega
        rw [if_neg (by omega), if_pos (by omega), e, bk_far s t L st H k hk]; rfl
    · rw [if_neg (by omega), if_neg (by omega)]
set_option maxHeartbeats 16000000 in
set_option maxRecDepth 100000 in
theorem counts (s t : ByteArray) (L st H : Nat) (w : World) (hs : 1 ≤ s.size ∧ s.size ≤ 14) (ht : 1 ≤ t.size ∧ t.size ≤ 12) (hL : 1 ≤ L ∧ L ≤ 15) (hb : st + H ≤ 5000) :
    Calls Tryd.prog 37 #[agg s t (L : Int), .int .i64 (st : Int), .int .i64 ((st + H : Nat) : Int)] w fun e w' => ∃ gX cX G C, e = .returned (.slice (some ⟨gX, 0, none⟩) (H + 1) cX) ∧ RS w w' s t (L : Int) gX cX G C (H + 1) (H + 1) (s.size + 2) (res s t L st H) := by
  have hu39 := Tryd.underlying39
  have HZ := Aside0.mk (And.intro hs (And.intro ht (And.intro hL hb)))
  obtain ⟨P, hP⟩ : ∃ P : Nat, P = s.size + 2 := ⟨_, rfl⟩
  obtain ⟨n, hn⟩ : ∃ n : Nat, n = H + 1 := ⟨_, rfl⟩
  obtain ⟨E, hE⟩ : ∃ E : Int, ((st + H : Nat) : Int) = E := ⟨_, rfl⟩
  rw [hE, ← hP, ← hn]
  have HP := Aside0.mk hP
  have HN := Aside0.mk hn
  have HE := Aside0.mk hE
  have cp := fun W => places s t (L : Int) W (by omega)
  rw [← hP] at cp
  have CP := Aside0.mk cp
  have PB := Aside0.mk (show 3 ≤ P ∧ P ≤ 16 by omega)
  have e1 : wrap64 (E - (st : Int)) = (H : Int) := (w_id (by omega) (by omega)).trans (by omega)
  have e2 : wrap64 ((H : Int) + 1) = (n : Int) := (w_id (by omega) (by omega)).trans (by omega)
  have HB0 := Aside0.mk (Below.refl (w.heap.size + 1) (w.alloc (box s t (L : Int))))
  clear hs ht hL hb hP cp hn hE
  go_enter Tryd.func37, Tryd.ntmps37
  go_upto_region 2 with (at_make; refine Kd.R_make KO _ 25 rfl (N := 17) rfl 47 _ _ rfl (wrap64 ((H : Int) + 1)) rfl rfl Tryd.underlying47 (.slice none 0 0) 24 info25 rfl (by decide) (by omega) nilO (ok := fun _ => True) (okp := fun _ => True) rfl (fun _ hk => hk) trivial (by rw [e2]; omega) (by rw [e2]; have := HN.out; have := HZ.out; omega) (Below.refl _ _) (Nat.le_refl _) ?_; intro v1 w5 ho hb hg_ hnew_; clear hg_ hnew_; simp only [e2, Int.toNat_natCast] at ho; obtain ⟨gX, cX, rfl, hgX, hX⟩ := Tb.of_R (h1 := fun x : One => x.2) ho (by have := HN.out; omega); have S0 : Aside0 (RS w w5 s t (L : Int) gX cX (fun _ => 0) (fun _ => 0) n 0 P (fun _ _ => 0)) := ⟨⟨boxed_then HB0.out hb, by simpa using hgX, hX.congr (fun i _ => by rw [if_neg (Nat.not_lt_zero _)]), fun j hj => absurd hj (Nat.not_lt_zero _), fun i j hi => absurd hi (Nat.not_lt_zero _)⟩⟩; clear ho hb hgX hX)
  go_wp2_with fail
  go_loopw [20] (fun v20 wr => ∃ (m : Nat) (G C : Nat → Nat), v20 = .int .i64 (m : Int) ∧ Aside0 (m ≤ n) ∧ Aside0 (RS w wr s t (L : Int) gX cX G C n m P (fun _ _ => 0))) (fun v20 _ => n - (intOf v20).toNat)
  case atStart => exact ⟨0, _, _, rfl, ⟨Nat.zero_le _⟩, S0⟩
  case round =>
    clear S0
    obtain ⟨m, G, C, rfl, HM, HS⟩ := hrel
    by_cases hm : m < n
    · have hm1 := decide_eq_true hm
      have HMM := Aside0.mk hm
      have hw : wrap64 ((m : Int) + 1) = ((m + 1 : Nat) : Int) := w_id (by omega) (by have := HN.out; have := HZ.out; omega)
      obtain ⟨hc0, hc1, hc2⟩ := boxed HS.out.1
      go_wp2_with fail
      refine (CP.out _).mono ?_
      rintro e w6 ⟨rfl, hb⟩
      clear hc0 hc1 hc2
      replace HS := Aside0.mk (HS.out.below hb)
      clear hb
      go_wp2_with (at_make; refine Kd.R_make (Kd.int .i64) _ 3 rfl (N := 27) rfl 25 _ _ rfl (P : Int) rfl rfl Tryd.underlying25 (.int .i64 0) 8 info3 rfl (by decide) (by omega) 0 (ok := fun _ => True) (okp := fun _ => True) rfl (fun _ hk => hk) trivial (by omega) (by have := PB.out; omega) (Below.refl _ _) (Nat.le_refl _) ?_; intro v1 w7 ho hb hg_ hnew_; clear hg_ hnew_; simp only [Int.toNat_natCast] at ho; obtain ⟨gB, cB, rfl, hgB, hB⟩ := Tb.of_R (h1 := fun _ => rfl) ho (by have := PB.out; omega); have S7 := Aside0.mk (HS.out.made hb hgB hB); have hX7 := (HS.out.below hb).2.2.1; have hcX : w7.cell? ⟨gX, m, none⟩ = some (.slice none 0 0) := (hX7.cell m HMM.out).trans (by rw [if_neg (by omega)]; rfl); have hfX := hX7.frozen m; clear ho hb hgB hB hX7)
      go_roundw
      case rel => exact ⟨m + 1, _, _, by first | rfl | rw [hw], ⟨by have := HMM.out; omega⟩, ⟨S7.out.congr (fun i _ p _ => by by_cases c : i = m <;> simp [c])⟩⟩
      case measure => (try rw [hw]); have := HMM.out; simp [intOf]; omega
    · have hm1 := decide_eq_false hm
      have hme : m = n := by have := HM.out; omega
      subst hme
      clear hm HM
      have HHn := Aside0.mk (show H < m by have := HN.out; omega)
      obtain ⟨Q, hQ⟩ : ∃ Q : Nat, Q = P - 1 := ⟨_, rfl⟩
      have hz : wrap64 ((P : Int) - 1) = (Q : Int) := (w_id (by omega) (by have := PB.out; omega)).trans (by have := PB.out; omega)
      have hzw : IntKind.i64.wrap ((P : Int) - 1) = (Q : Int) := (i64_w _).trans hz
      have e1w : IntKind.i64.wrap (E - (st : Int)) = (H : Int) := (i64_w _).trans e1
      have hQP : Q < P := by have := PB.out; omega
      have QQ := Aside0.mk (And.intro hQ hQP)
      have qH : H < m := HHn.out
      have hw9 : wrap64 ((H : Int) - 1) = (H : Int) - 1 := w_id (by omega) (by have := HZ.out; omega)
      clear hQ
      go_wp2
      refine start_ (n := 11) (S := fun w' => w'.cell? ⟨w.heap.size, 0, none⟩ = some (.string s) ∧ w'.cell? ⟨w.heap.size, 1, none⟩ = some (.string t) ∧ w'.cell? ⟨w.heap.size, 2, none⟩ = some (.int .i64 (L : Int)) ∧ w'.cell? ⟨gX, H, none⟩ = some (.slice (some ⟨G H, 0, none⟩) P (C H)) ∧ Aside0 (RS w w' s t (L : Int) gX cX G C m m P (fun _ _ => 0))) (ds := [10]) #[false, false, false, false, false, false, false, false, false, false, false] (by kernel_rfl) rfl rfl ((HS.out.below (below_drew (Below.refl _ _))).held H HHn.out HHn.out) (fun hHeld => ?_)
      refine pure_ (i := 0) (N := some 30) (v := ?_) (a' := ?_) #[true, false, false, false, false, false, false, false, false, false, false] rfl rfl (by kernel_rfl) (fun _ _ _ h => h) (Or.inl ⟨by rfl, ?_⟩) ?_ ?_
      rotate_left
      · intro w'
        go_simp
        with_reducible rfl
      rotate_left
      · simp only [Act.put, List.setIfInBounds_toArray, List.set_cons_zero, List.set_cons_succ, i64_w, i32_w]
        rfl
      refine pure_ (i := 1) (N := some 31) (v := ?_) (a' := ?_) #[true, true, false, false, false, false, false, false, false, false, false] rfl rfl (by kernel_rfl) (fun _ _ _ h => h) (Or.inl ⟨by rfl, ?_⟩) ?_ ?_
      rotate_left
      · intro w'
        go_simp
        with_reducible rfl
      rotate_left
      · simp only [Act.put, List.setIfInBounds_toArray, List.set_cons_zero, List.set_cons_succ, i64_w, i32_w]
        rfl
      refine pure_ (i := 2) (N := some 32) (v := ?_) (a' := ?_) #[true, true, true, false, false, false, false, false, false, false, false] rfl rfl (by kernel_rfl) (fun _ _ _ h => h) (Or.inl ⟨by rfl, ?_⟩) ?_ ?_
      rotate_left
      · intro w'
        go_simp
        with_reducible rfl
      rotate_left
      · simp only [Act.put, List.setIfInBounds_toArray, List.set_cons_zero, List.set_cons_succ, i64_w, i32_w]
        rfl
      refine pure_ (i := 3) (N := some 33) (v := ?_) (a' := ?_) #[true, true, true, true, false, false, false, false, false, false, false] rfl rfl (by kernel_rfl) (fun _ _ _ h => h) (Or.inl ⟨by rfl, ?_⟩) ?_ ?_
      rotate_left
      · intro w'
        go_simp
        with_reducible rfl
      rotate_left
      · simp only [Act.put, List.setIfInBounds_toArray, List.set_cons_zero, List.set_cons_succ, i64_w, i32_w]
        rfl
      refine pure_ (i := 4) (N := some 34) (v := ?_) (a' := ?_) #[true, true, true, true, true, false, false, false, false, false, false] rfl rfl (by kernel_rfl) (fun _ _ _ h => h) (Or.inl ⟨by rfl, ?_⟩) ?_ ?_
      rotate_left
      · intro w'
        go_simp
        with_reducible rfl
      rotate_left
      · simp only [Act.put, List.setIfInBounds_toArray, List.set_cons_zero, List.set_cons_succ, i64_w, i32_w]
        rfl
      refine take_ (i := 5) (N := some 35) (v := ?_) (a' := ?_) #[true, true, true, true, true, true, false, false, false, false, false] rfl rfl (by kernel_rfl) (fun _ _ _ h => h) (Or.inl ⟨by rfl, ?_⟩) hHeld ?_ ?_
      rotate_left
      · rintro w' ⟨s0, s1, s2, s3, s4⟩
        go_simp
        with_reducible rfl
      rotate_left
      · simp only [Act.put, List.setIfInBounds_toArray, List.set_cons_zero, List.set_cons_succ, i64_w, i32_w]
        rfl
      refine take_ (i := 6) (N := some 36) (v := ?_) (a' := ?_) #[true, true, true, true, true, true, true, false, false, false, false] rfl rfl (by kernel_rfl) (fun _ _ _ h => h) (Or.inl ⟨by rfl, ?_⟩) hHeld ?_ ?_
      rotate_left
      · rintro w' ⟨s0, s1, s2, s3, s4⟩
        go_simp
        with_reducible rfl
      rotate_left
      · simp only [Act.put, List.setIfInBounds_toArray, List.set_cons_zero, List.set_cons_succ, i64_w, i32_w]
        rfl
      refine one_ (i := 7) (N := some 37) #[true, true, true, true, true, true, true, true, false, false, false] rfl rfl (by kernel_rfl) (by decide) (fun K hK => ?_)
      refine goes_ Tryd.func49 (by kernel_rfl) rfl #[.agg #[.string s, .string t, .int .i64 (L : Int)]] (by rfl) rfl rfl (by (try simp only [List.map_toArray, List.map_cons, List.map_nil]); first | done | rfl) ?_
      refine (CP.out _).mono ?_
      rintro e w8 ⟨rfl, hb⟩
      refine ⟨_, rfl, ?_⟩
      refine hK.out _ _ ((hHeld.2.2.2.2.out.below hb).held H HHn.out HHn.out) (fun hHeld => ?_)
      clear hK K
      refine norm_ (a' := ?_) ?_ ?_
      rotate_left
      · show Act.put _ (some 37) _ = _
        simp only [Act.put, List.setIfInBounds_toArray, List.set_cons_zero, List.set_cons_succ, i64_w, i32_w]
        rfl
      refine pure_ (i := 8) (N := some 38) (v := ?_) (a' := ?_) #[true, true, true, true, true, true, true, true, true, false, false] rfl rfl (by kernel_rfl) (fun _ _ _ h => h) (Or.inl ⟨by rfl, ?_⟩) ?_ ?_
      rotate_left
      · intro w'
        go_simp
        with_reducible rfl
      rotate_left
      · simp only [Act.put, List.setIfInBounds_toArray, List.set_cons_zero, List.set_cons_succ, i64_w, i32_w]
        rfl
      refine pure_ (i := 9) (N := some 39) (v := ?_) (a' := ?_) #[true, true, true, true, true, true, true, true, true, true, false] rfl rfl (by kernel_rfl) (fun _ _ _ h => h) (Or.inl ⟨by rfl, ?_⟩) ?_ ?_
      rotate_left
      · intro w'
        go_simp
        with_reducible rfl
      rotate_left
      · simp only [Act.put, List.setIfInBounds_toArray, List.set_cons_zero, List.set_cons_succ, i64_w, i32_w]
        rfl
      obtain ⟨s0, s1, s2, s3, s4⟩ := hHeld
      have hcz := s4.out.cell H Q HHn.out QQ.out.2
      have hfz := s4.out.frozen H Q HHn.out
      refine last_ (i := 10) (N := none) #[true, true, true, true, true, true, true, true, true, true, true] rfl rfl (by kernel_rfl) (by decide) (fun K hK => ?_)
      refine skip_ (w1 := ?_) (by rfl) rfl ?_ ?_
      rotate_left
      · go_simp
        rfl
      refine hK.out _ _ ?_
      clear hK K
      refine done_ (by kernel_rfl) ?_
      have S8 : Aside0 (RS w (w8.setCell ⟨G H, Q, none⟩ (.int .i64 1)) s t (L : Int) gX cX G C m m P (cD s t L st H H)) := ⟨(s4.out.put H Q HHn.out 1).congr (first_row s t L st H P Q m HP.out QQ.out.1 HN.out)⟩
      clear s0 s1 s2 s3 s4 hcz hfz HS
      have W7 := Aside0.mk hz
      have W9 := Aside0.mk hw9
      go_wp2_with fail
      clear hz hzw hw9 e1 e1w e2 qH
      go_loopw [9] (fun v9 wr => ∃ (k : Nat) (S : Int), v9 = .int .i64 S ∧ Aside0 (S = (k : Int) - 1 ∧ k ≤ H) ∧ Aside0 (RS w wr s t (L : Int) gX cX G C m m P (cD s t L st H k))) (fun v9 _ => (intOf v9 + 1).toNat)
      case atStart => exact ⟨H, _, rfl, ⟨by first | omega | (rw [W9.out]; omega)⟩, S8⟩
      case round =>
        clear S8
        obtain ⟨k, S, rfl, HK, HS⟩ := hrel
        rcases k with _ | k
        · have hx := decide_eq_false (show ¬ (0 : Int) ≤ S by have := HK.out; omega)
          go_wp2_with fail
          go_ret
          exact ⟨_, _, _, _, rfl, HS.out.congr (fun i hi p hp => by unfold cD res; rw [if_pos (by omega)])⟩
        · have hkH : k < H := by have := HK.out; omega
          obtain rfl : S = (k : Int) := by have := HK.out; omega
          have HKH := Aside0.mk hkH
          have hkm : k + 1 < m := by have := HN.out; omega
          have hkm0 : k < m := by omega
          have hx := decide_eq_true (show (0 : Int) ≤ (k : Int) by omega)
          have WK : Aside0 (wrap64 ((k : Int) + 1) = ((k + 1 : Nat) : Int)) := ⟨w_id (by omega) (by have := HZ.out; omega)⟩
          have WM : Aside0 (wrap64 ((k : Int) - 1) = (k : Int) - 1) := ⟨w_id (by omega) (by have := HZ.out; omega)⟩
          have WH : Aside0 (wrap64 ((st : Int) + (k : Int)) = ((st + k : Nat) : Int)) := ⟨w_id (by omega) (by have := HZ.out; omega)⟩
          have HS0 : Aside0 (RS w wr s t (L : Int) gX cX G C m m P (cG s t L st H k 0)) := ⟨HS.out.congr (fun i hi p hp => by
            unfold cD cG
            by_cases c : k + 1 ≤ i
            · rw [if_pos c, if_pos (by omega)]
            · rw [if_neg c, if_neg (by omega)])⟩
          obtain ⟨hc0, hc1, hc2⟩ := boxed HS.out.1
          clear hkH
          go_wp2_with fail
          refine (CP.out _).mono ?_
          rintro e w9 ⟨rfl, hb⟩
          clear hc0 hc1 hc2 HS
          replace HS0 := Aside0.mk (HS0.out.below hb)
          clear hb
          have hz := W7.out
          go_wp2_with fail
          clear hz
          go_loopw [51] (fun v51 wp => ∃ p : Nat, v51 = .int .i64 (p : Int) ∧ Aside0 (p ≤ Q) ∧ Aside0 (RS w wp s t (L : Int) gX cX G C m m P (cG s t L st H k p))) (fun v51 _ => Q - (intOf v51).toNat)
          case atStart => exact ⟨0, rfl, ⟨Nat.zero_le _⟩, HS0⟩
          case round =>
            clear HS0
            obtain ⟨p, rfl, HPQ, HS⟩ := hrel
            by_cases hp : p < Q
            · have hp1 := decide_eq_true hp
              have HPP := Aside0.mk hp
              have hpP : p < P := by omega
              have WP : Aside0 (wrap64 ((p : Int) + 1) = ((p + 1 : Nat) : Int)) := ⟨w_id (by omega) (by have := PB.out; omega)⟩
              have hcr := HS.out.row (k + 1) hkm hkm
              have HS0 : Aside0 (RS w wr s t (L : Int) gX cX G C m m P (fun j' p' => if j' = k ∧ p' = p then ((acc cap (cF s t L st H k p) 0 : Nat) : Int) else cG s t L st H k p j' p')) := ⟨HS.out.congr (fun i hi q hq => by
                by_cases c : i = k ∧ q = p
                · rw [if_pos c]; unfold cG; rw [if_neg (by omega)]; rfl
                · rw [if_neg c])⟩
              clear HS
              have hwk := WK.out
              have hz := W7.out
              go_wp2_with fail
              clear hcr hwk hz
              go_loopw [60] (fun v60 wq => ∃ q : Nat, v60 = .int .i64 (q : Int) ∧ Aside0 (q ≤ P) ∧ Aside0 (RS w wq s t (L : Int) gX cX G C m m P (fun j' p' => if j' = k ∧ p' = p then ((acc cap (cF s t L st H k p) q : Nat) : Int) else cG s t L st H k p j' p'))) (fun v60 _ => P - (intOf v60).toNat)
              case atStart => exact ⟨0, rfl, ⟨Nat.zero_le _⟩, HS0⟩
              case round =>
                clear HS0
                obtain ⟨q, rfl, HQP, HS⟩ := hrel
                by_cases hq : q < P
                · have hq1 := decide_eq_true hq
                  have HQQ := Aside0.mk hq
                  have WQ : Aside0 (wrap64 ((q : Int) + 1) = ((q + 1 : Nat) : Int)) := ⟨w_id (by omega) (by have := PB.out; omega)⟩
                  obtain ⟨b, hb⟩ : ∃ b, bk s t L (st + H) (H - k - 1) q = b := ⟨_, rfl⟩
                  obtain ⟨a, ha⟩ : ∃ a, acc cap (cF s t L st H k p) q = a := ⟨_, rfl⟩
                  obtain ⟨b2, hb2⟩ : ∃ b, Tide.near L p q = b := ⟨_, rfl⟩
                  obtain ⟨b3, hb3⟩ : ∃ b, dryN s t p (st + k) = b := ⟨_, rfl⟩
                  have hF : cF s t L st H k p q = if (b2 && b3) = true then b else 0 := by unfold cF; rw [show st + H - (H - k - 1 + 1) = st + k by have := HKH.out; omega, hb, hb2, hb3]
                  have HAB := Aside0.mk (And.intro hF (And.intro ha (And.intro (show a ≤ cap by rw [← ha]; exact acc_le _) (show b ≤ cap by rw [← hb]; exact bk_le _ _ _ _ _ _))))
                  have hcM : wr.cell? ⟨G (k + 1), q, none⟩ = some (.int .i64 (b : Int)) := (HS.out.cell (k + 1) q hkm hq).trans (by rw [if_neg (by omega)]; unfold cG; rw [if_pos (by omega), ← hb, show H - (k + 1) = H - k - 1 by omega])
                  have cn := fun W => near s t (L : Int) (p : Int) (q : Int) W (by have := HZ.out; omega) (by have := PB.out; omega) (by have := PB.out; omega)
                  have cd := fun W => isDry s t (p : Int) ((st + k : Nat) : Int) W HZ.out.1.2 HZ.out.2.1 (by have := HP.out; omega) (by omega)
                  rw [near_tide, hb2] at cn
                  rw [show dryB s t (p : Int) ((st + k : Nat) : Int) = b3 from hb3] at cd
                  have CN := Aside0.mk cn
                  have CD := Aside0.mk cd
                  obtain ⟨hc0, hc1, hc2⟩ := boxed HS.out.1
                  clear hb ha hb2 hb3 hF cn cd
                  go_wp2_with fail
                  refine (CN.out _).mono ?_
                  rintro e w10 ⟨rfl, hb⟩
                  clear hcM hc0 hc1 hc2
                  replace HS := Aside0.mk (HS.out.below hb)
                  clear hb
                  obtain ⟨hc0, hc1, hc2⟩ := boxed HS.out.1
                  cases b2 with
                  | false =>
                    have hwq := WQ.out
                    go_wp2_with fail
                    go_roundw
                    case rel => exact ⟨q + 1, by first | rfl | rw [hwq], ⟨by have := HQQ.out; omega⟩, ⟨HS.out.congr (fun i hi p' hp' => by rw [acc_skip (by rw [HAB.out.1]; rfl)])⟩⟩
                    case measure => (try rw [hwq]); have := HQQ.out; simp [intOf]; omega
                  | true =>
                    have hwh := WH.out
                    go_wp2_with fail
                    clear hwh
                    refine (CD.out _).mono ?_
                    rintro e w11 ⟨rfl, ⟨nd, rfl⟩⟩
                    clear hc0 hc1 hc2
                    replace HS := Aside0.mk (HS.out.below (pw_below_drewN (Below.refl _ _) nd))
                    cases b3 with
                    | false =>
                      have hwq := WQ.out
                      go_wp2_with fail
                      go_roundw
                      case rel => exact ⟨q + 1, by first | rfl | rw [hwq], ⟨by have := HQQ.out; omega⟩, ⟨HS.out.congr (fun i hi p' hp' => by rw [acc_skip (by rw [HAB.out.1]; rfl)])⟩⟩
                      case measure => (try rw [hwq]); have := HQQ.out; simp [intOf]; omega
                    | true =>
                      go_wp2
                      generalize w10.drewN nd = w12 at HS ⊢
                      refine start_ (n := 17) (S := fun w' => w'.cell? ⟨gX, k, none⟩ = some (.slice (some ⟨G k, 0, none⟩) P (C k)) ∧ w'.cell? ⟨G k, p, none⟩ = some (.int .i64 (a : Int)) ∧ Aside0 (RS w w' s t (L : Int) gX cX G C m m P (fun j' p' => if j' = k ∧ p' = p then ((acc cap (cF s t L st H k p) q : Nat) : Int) else cG s t L st H k p j' p'))) (ds := [16]) #[false, false, false, false, false, false, false, false, false, false, false, false, false, false, false, false, false] (by kernel_rfl) rfl rfl ((HS.out.below (below_drew (Below.refl _ _))).held2 k p hkm0 hkm0 hpP (by rw [if_pos ⟨rfl, rfl⟩, HAB.out.2.1])) (fun hHeld => ?_)
                      refine pure_ (i := 0) (N := some 80) (v := ?_) (a' := ?_) #[true, false, false, false, false, false, false, false, false, false, false, false, false, false, false, false, false] rfl rfl (by kernel_rfl) (fun _ _ _ h => h) (Or.inl ⟨by rfl, ?_⟩) ?_ ?_
                      rotate_left
                      · intro w'
                        go_simp
                        with_reducible rfl
                      rotate_left
                      · simp only [Act.put, List.setIfInBounds_toArray, List.set_cons_zero, List.set_cons_succ, i64_w, i32_w]
                        rfl
                      refine pure_ (i := 1) (N := some 81) (v := ?_) (a' := ?_) #[true, true, false, false, false, false, false, false, false, false, false, false, false, false, false, false, false] rfl rfl (by kernel_rfl) (fun _ _ _ h => h) (Or.inl ⟨by rfl, ?_⟩) ?_ ?_
                      rotate_left
                      · intro w'
                        go_simp
                        with_reducible rfl
                      rotate_left
                      · simp only [Act.put, List.setIfInBounds_toArray, List.set_cons_zero, List.set_cons_succ, i64_w, i32_w]
                        rfl
                      refine pure_ (i := 2) (N := some 82) (v := ?_) (a' := ?_) #[true, true, true, false, false, false, false, false, false, false, false, false, false, false, false, false, false] rfl rfl (by kernel_rfl) (fun _ _ _ h => h) (Or.inl ⟨by rfl, ?_⟩) ?_ ?_
                      rotate_left
                      · intro w'
                        go_simp
                        with_reducible rfl
                      rotate_left
                      · simp only [Act.put, List.setIfInBounds_toArray, List.set_cons_zero, List.set_cons_succ, i64_w, i32_w]
                        rfl
                      refine pure_ (i := 4) (N := some 84) (v := ?_) (a' := ?_) #[true, true, true, false, true, false, false, false, false, false, false, false, false, false, false, false, false] rfl rfl (by kernel_rfl) (fun _ _ _ h => h) (Or.inl ⟨by rfl, ?_⟩) ?_ ?_
                      rotate_left
                      · intro w'
                        go_simp
                        with_reducible rfl
                      rotate_left
                      · simp only [Act.put, List.setIfInBounds_toArray, List.set_cons_zero, List.set_cons_succ, i64_w, i32_w]
                        rfl
                      refine pure_ (i := 5) (N := some 85) (v := ?_) (a' := ?_) #[true, true, true, false, true, true, false, false, false, false, false, false, false, false, false, false, false] rfl rfl (by kernel_rfl) (fun _ _ _ h => h) (Or.inl ⟨by rfl, ?_⟩) ?_ ?_
                      rotate_left
                      · intro w'
                        go_simp
                        with_reducible rfl
                      rotate_left
                      · simp only [Act.put, List.setIfInBounds_toArray, List.set_cons_zero, List.set_cons_succ, i64_w, i32_w]
                        rfl
                      refine pure_ (i := 6) (N := some 86) (v := ?_) (a' := ?_) #[true, true, true, false, true, true, true, false, false, false, false, false, false, false, false, false, false] rfl rfl (by kernel_rfl) (fun _ _ _ h => h) (Or.inl ⟨by rfl, ?_⟩) ?_ ?_
                      rotate_left
                      · intro w'
                        go_simp
                        with_reducible rfl
                      rotate_left
                      · simp only [Act.put, List.setIfInBounds_toArray, List.set_cons_zero, List.set_cons_succ, i64_w, i32_w]
                        rfl
                      refine pure_ (i := 7) (N := some 87) (v := ?_) (a' := ?_) #[true, true, true, false, true, true, true, true, false, false, false, false, false, false, false, false, false] rfl rfl (by kernel_rfl) (fun _ _ _ h => h) (Or.inl ⟨by rfl, ?_⟩) ?_ ?_
                      rotate_left
                      · intro w'
                        go_simp
                        with_reducible rfl
                      rotate_left
                      · simp only [Act.put, List.setIfInBounds_toArray, List.set_cons_zero, List.set_cons_succ, i64_w, i32_w]
                        rfl
                      refine pure_ (i := 9) (N := some 89) (v := ?_) (a' := ?_) #[true, true, true, false, true, true, true, true, false, true, false, false, false, false, false, false, false] rfl rfl (by kernel_rfl) (fun _ _ _ h => h) (Or.inl ⟨by rfl, ?_⟩) ?_ ?_
                      rotate_left
                      · intro w'
                        go_simp
                        with_reducible rfl
                      rotate_left
                      · simp only [Act.put, List.setIfInBounds_toArray, List.set_cons_zero, List.set_cons_succ, i64_w, i32_w]
                        rfl
                      refine pure_ (i := 12) (N := some 92) (v := ?_) (a' := ?_) #[true, true, true, false, true, true, true, true, false, true, false, false, true, false, false, false, false] rfl rfl (by kernel_rfl) (fun _ _ _ h => h) (Or.inl ⟨by rfl, ?_⟩) ?_ ?_
                      rotate_left
                      · intro w'
                        go_simp
                        with_reducible rfl
                      rotate_left
                      · simp only [Act.put, List.setIfInBounds_toArray, List.set_cons_zero, List.set_cons_succ, i64_w, i32_w]
                        rfl
                      refine take_ (i := 3) (N := some 83) (v := ?_) (a' := ?_) #[true, true, true, true, true, true, true, true, false, true, false, false, true, false, false, false, false] rfl rfl (by kernel_rfl) (fun _ _ _ h => h) (Or.inl ⟨by rfl, ?_⟩) hHeld ?_ ?_
                      rotate_left
                      · rintro w' ⟨s0, s1, s2⟩
                        go_simp
                        with_reducible rfl
                      rotate_left
                      · simp only [Act.put, List.setIfInBounds_toArray, List.set_cons_zero, List.set_cons_succ, i64_w, i32_w]
                        rfl
                      refine take_ (i := 8) (N := some 88) (v := ?_) (a' := ?_) #[true, true, true, true, true, true, true, true, true, true, false, false, true, false, false, false, false] rfl rfl (by kernel_rfl) (fun _ _ _ h => h) (Or.inl ⟨by rfl, ?_⟩) hHeld ?_ ?_
                      rotate_left
                      · rintro w' ⟨s0, s1, s2⟩
                        go_simp
                        with_reducible rfl
                      rotate_left
                      · simp only [Act.put, List.setIfInBounds_toArray, List.set_cons_zero, List.set_cons_succ, i64_w, i32_w]
                        rfl
                      refine pure_ (i := 10) (N := some 90) (v := ?_) (a' := ?_) #[true, true, true, true, true, true, true, true, true, true, true, false, true, false, false, false, false] rfl rfl (by kernel_rfl) (fun _ _ _ h => h) (Or.inl ⟨by rfl, ?_⟩) ?_ ?_
                      rotate_left
                      · intro w'
                        go_simp
                        with_reducible rfl
                      rotate_left
                      · simp only [Act.put, List.setIfInBounds_toArray, List.set_cons_zero, List.set_cons_succ, i64_w, i32_w]
                        rfl
                      refine take_ (i := 11) (N := some 91) (v := ?_) (a' := ?_) #[true, true, true, true, true, true, true, true, true, true, true, true, true, false, false, false, false] rfl rfl (by kernel_rfl) (fun _ _ _ h => h) (Or.inl ⟨by rfl, ?_⟩) hHeld ?_ ?_
                      rotate_left
                      · rintro w' ⟨s0, s1, s2⟩
                        go_simp
                        with_reducible rfl
                      rotate_left
                      · simp only [Act.put, List.setIfInBounds_toArray, List.set_cons_zero, List.set_cons_succ, i64_w, i32_w]
                        rfl
                      refine pure_ (i := 13) (N := some 93) (v := ?_) (a' := ?_) #[true, true, true, true, true, true, true, true, true, true, true, true, true, true, false, false, false] rfl rfl (by kernel_rfl) (fun _ _ _ h => h) (Or.inl ⟨by rfl, ?_⟩) ?_ ?_
                      rotate_left
                      · intro w'
                        go_simp
                        with_reducible rfl
                      rotate_left
                      · simp only [Act.put, List.setIfInBounds_toArray, List.set_cons_zero, List.set_cons_succ, i64_w, i32_w]
                        rfl
                      refine pure_ (i := 14) (N := some 94) (v := ?_) (a' := ?_) #[true, true, true, true, true, true, true, true, true, true, true, true, true, true, true, false, false] rfl rfl (by kernel_rfl) (fun _ _ _ h => h) (Or.inl ⟨by rfl, ?_⟩) ?_ ?_
                      rotate_left
                      · intro w'
                        go_simp
                        with_reducible rfl
                      rotate_left
                      · simp only [Act.put, List.setIfInBounds_toArray, List.set_cons_zero, List.set_cons_succ, i64_w, i32_w]
                        rfl
                      refine pure_ (i := 15) (N := some 95) (v := ?_) (a' := ?_) #[true, true, true, true, true, true, true, true, true, true, true, true, true, true, true, true, false] rfl rfl (by kernel_rfl) (fun _ _ _ h => h) (Or.inl ⟨by rfl, ?_⟩) ?_ ?_
                      rotate_left
                      · intro w'
                        go_simp
                        with_reducible rfl
                      rotate_left
                      · simp only [Act.put, List.setIfInBounds_toArray, List.set_cons_zero, List.set_cons_succ, i64_w, i32_w]
                        rfl
                      obtain ⟨s0, s1, s2⟩ := hHeld
                      have hfz := s2.out.frozen k p hkm0
                      refine last_ (i := 16) (N := none) #[true, true, true, true, true, true, true, true, true, true, true, true, true, true, true, true, true] rfl rfl (by kernel_rfl) (by decide) (fun K hK => ?_)
                      refine skip_ (w1 := ?_) (by rfl) rfl ?_ ?_
                      rotate_left
                      · go_simp
                        rfl
                      refine hK.out _ _ ?_
                      clear hK K
                      refine done_ (by kernel_rfl) ?_
                      have S9 := Aside0.mk (s2.out.put k p hkm0 (if (1152921504606846976 : Int) < wrap64 ((a : Int) + (b : Int)) then 1152921504606846976 else wrap64 ((a : Int) + (b : Int))))
                      clear s0 s1 s2 hfz HS
                      have hwq := WQ.out
                      go_wp2_with fail
                      go_roundw
                      case rel => exact ⟨q + 1, by first | rfl | rw [hwq], ⟨by have := HQQ.out; omega⟩, ⟨S9.out.congr (fun i hi p' hp' => by
                        have e1 : (if (1152921504606846976 : Int) < wrap64 ((a : Int) + (b : Int)) then 1152921504606846976 else wrap64 ((a : Int) + (b : Int))) = ((acc cap (cF s t L st H k p) (q + 1) : Nat) : Int) := by
                          rw [show acc cap (cF s t L st H k p) (q + 1) = min (acc cap (cF s t L st H k p) q + cF s t L st H k p q) cap from rfl, HAB.out.1, HAB.out.2.1]
                          exact mn_cap HAB.out.2.2.1 HAB.out.2.2.2
                        by_cases c : i = k ∧ p' = p
                        · rw [if_pos c, if_pos c, e1]
                        · rw [if_neg c, if_neg c, if_neg c])⟩⟩
                      case measure => (try rw [hwq]); have := HQQ.out; simp [intOf]; omega
                · have hq1 := decide_eq_false hq
                  obtain rfl : q = P := by have := HQP.out; omega
                  have HPS : Aside0 (p < s.size + 1) := ⟨by have := HPP.out; have := QQ.out; have := HP.out; omega⟩
                  have hwp := WP.out
                  go_wp2_with fail
                  go_roundw
                  case rel => exact ⟨p + 1, by first | rfl | rw [hwp], ⟨by have := HPP.out; omega⟩, ⟨HS.out.congr (next_place s t L st H k p q m HP.out HPS.out HKH.out)⟩⟩
                  case measure => (try rw [hwp]); have := HPP.out; simp [intOf]; omega
            · have hp1 := decide_eq_false hp
              obtain rfl : p = Q := by have := HPQ.out; omega
              have hwm := WM.out
              have hz := W7.out
              go_wp2_with fail
              go_roundw
              case rel => exact ⟨k, (k : Int) - 1, by first | rfl | rw [hwm], ⟨by have := HKH.out; omega⟩, ⟨HS.out.congr (next_hour s t L st H k p P m HP.out QQ.out.1 HKH.out)⟩⟩
              case measure => (try rw [hwm]); simp [intOf] <;> omega
end Go.Proofs.YteijbohbdhemoaaDoor.Ct
