/- (crossing).arrivals at this program: for each place the first hour; nothing that lay before is turned. Conditions: a right crossing, a start of at most 2000. -/
import Derived.Test.YteijbohbdhemoaaDoorPl
namespace Go.Proofs.YteijbohbdhemoaaDoor.Arr
set_option linter.unusedVariables false
set_option linter.unusedSimpArgs false
open Go.RowKit Go.Proofs.YteijbohbdhemoaaDoorW.PrintWords Go.Proofs.YteijbohbdhemoaaDoorW.PrintLast Go.Proofs.YteijbohbdhemoaaDoorW.PrintMore Sh Cr Sm Tb Pl

theorem one_row {w0 W : World} {g : Nat} {x : Int} (h : W.heap[g]? = some (.cells #[.int .i64 x] 3 (0, 0))) : Kd.C (Kd.int .i64) W (some ⟨g, 0, none⟩) [x].length [x] := by
  have ht : Tb (Value.int .i64) 3 W g 1 1 (fun _ => x) := ⟨[.int .i64 x], h, rfl, Nat.le_refl _, by decide, fun i hi => (by
    obtain rfl : i = 0 := by omega
    simp)⟩
  have hr : (Kd.int .i64).R 3 W 0 (fun _ => True) (.slice (some ⟨g, 0, none⟩) 1 1) (tab 1 (fun _ => x)) := ht.to_R (h1 := fun _ => rfl) 0 (Nat.zero_le _)
  exact (Kd.R_reads' hr).2.2
/-- What stands in the hours' loop: the crossing's block, now, out. -/
def St (w0 W : World) (s t : ByteArray) (L : Int) (gN cN : Nat) (fN : Nat → Bool) (gO cO : Nat) (fO : Nat → Int) (P : Nat) : Prop :=
  W.heap[w0.heap.size]? = some (box s t L) ∧ Below w0.heap.size w0 W ∧ w0.heap.size ≤ gN ∧ w0.heap.size ≤ gO ∧ Tb Value.bool 4 W gN cN P fN ∧ Tb (Value.int .i64) 3 W gO cO P fO
theorem St.below {w0 W W' : World} {s t : ByteArray} {L : Int} {gN cN gO cO : Nat} {fN : Nat → Bool} {fO : Nat → Int} {P : Nat} (h : St w0 W s t L gN cN fN gO cO fO P) (hb : Below W.heap.size W W') : St w0 W' s t L gN cN fN gO cO fO P :=
  ⟨blk_below h.1 hb, below_step h.2.1 hb, h.2.2.1, h.2.2.2.1, h.2.2.2.2.1.below hb, h.2.2.2.2.2.below hb⟩
theorem held {w0 W : World} {s t : ByteArray} {L : Int} {gN cN gO cO : Nat} {fN : Nat → Bool} {fO : Nat → Int} {P : Nat} (h : St w0 W s t L gN cN fN gO cO fO P) :
    W.cell? ⟨w0.heap.size, 0, none⟩ = some (.string s) ∧ W.cell? ⟨w0.heap.size, 1, none⟩ = some (.string t) ∧ W.cell? ⟨w0.heap.size, 2, none⟩ = some (.int .i64 L) ∧ Aside0 (St w0 W s t L gN cN fN gO cO fO P) :=
  ⟨(blk_cell h.1 0).trans rfl, (blk_cell h.1 1).trans rfl, (blk_cell h.1 2).trans rfl, ⟨h⟩⟩
theorem held_below {w0 W W' : World} {s t : ByteArray} {L : Int} {gN cN gO cO : Nat} {fN : Nat → Bool} {fO : Nat → Int} {P : Nat}
    (h : W.cell? ⟨w0.heap.size, 0, none⟩ = some (.string s) ∧ W.cell? ⟨w0.heap.size, 1, none⟩ = some (.string t) ∧ W.cell? ⟨w0.heap.size, 2, none⟩ = some (.int .i64 L) ∧ Aside0 (St w0 W s t L gN cN fN gO cO fO P)) (hb : Below W.heap.size W W') :
    W'.cell? ⟨w0.heap.size, 0, none⟩ = some (.string s) ∧ W'.cell? ⟨w0.heap.size, 1, none⟩ = some (.string t) ∧ W'.cell? ⟨w0.heap.size, 2, none⟩ = some (.int .i64 L) ∧ Aside0 (St w0 W' s t L gN cN fN gO cO fO P) :=
  held (h.2.2.2.out.below hb)
/-- .. and the row of the next hour. -/
def St2 (w0 W : World) (s t : ByteArray) (L : Int) (gN cN : Nat) (fN : Nat → Bool) (gO cO : Nat) (fO : Nat → Int) (P gB cB : Nat) (fB : Nat → Bool) : Prop :=
  St w0 W s t L gN cN fN gO cO fO P ∧ (w0.heap.size < gB ∧ gN ≠ gB ∧ gO ≠ gB) ∧ Tb Value.bool 4 W gB cB P fB
theorem St2.below {w0 W W' : World} {s t : ByteArray} {L : Int} {gN cN gO cO gB cB : Nat} {fN fB : Nat → Bool} {fO : Nat → Int} {P : Nat} (h : St2 w0 W s t L gN cN fN gO cO fO P gB cB fB) (hb : Below W.heap.size W W') : St2 w0 W' s t L gN cN fN gO cO fO P gB cB fB :=
  ⟨h.1.below hb, h.2.1, h.2.2.below hb⟩
theorem St2.put {w0 W : World} {s t : ByteArray} {L : Int} {gN cN gO cO gB cB : Nat} {fN fB : Nat → Bool} {fO : Nat → Int} {P : Nat} (h : St2 w0 W s t L gN cN fN gO cO fO P gB cB fB) (i : Nat) (b : Bool) : St2 w0 (W.setCell ⟨gB, i, none⟩ (.bool b)) s t L gN cN fN gO cO fO P gB cB (fun k => if k = i then b else fB k) := by
  obtain ⟨⟨h1, h2, h3, h4, h5, h6⟩, ⟨n1, n2, n3⟩, hB⟩ := h
  exact ⟨⟨blk_far h1 (Nat.ne_of_lt n1) _, below_set h2 (Nat.le_of_lt n1), h3, h4, h5.far n2 _, h6.far n3 _⟩, ⟨n1, n2, n3⟩, hB.set i b⟩
theorem St2.told {w0 W : World} {s t : ByteArray} {L : Int} {gN cN gO cO gB cB : Nat} {fN fB : Nat → Bool} {fO : Nat → Int} {P : Nat} (h : St2 w0 W s t L gN cN fN gO cO fO P gB cB fB) (hO : w0.heap.size ≠ gO) (hNO : gN ≠ gO) (i : Nat) (x : Int) : St2 w0 (W.setCell ⟨gO, i, none⟩ (.int .i64 x)) s t L gN cN fN gO cO (fun k => if k = i then x else fO k) P gB cB fB := by
  obtain ⟨⟨h1, h2, h3, h4, h5, h6⟩, ⟨n1, n2, n3⟩, hB⟩ := h
  exact ⟨⟨blk_far h1 hO _, below_set h2 h4, h3, h4, h5.far hNO _, h6.set i x⟩, ⟨n1, n2, n3⟩, hB.far (fun e => n3 e.symm) _⟩
theorem St2.congr {w0 W : World} {s t : ByteArray} {L : Int} {gN cN gO cO gB cB : Nat} {fN fB fB' : Nat → Bool} {fO fO' : Nat → Int} {P : Nat} (h : St2 w0 W s t L gN cN fN gO cO fO P gB cB fB) (e1 : ∀ i, i < P → fB i = fB' i) (e2 : ∀ i, i < P → fO i = fO' i) : St2 w0 W s t L gN cN fN gO cO fO' P gB cB fB' := by
  obtain ⟨⟨h1, h2, h3, h4, h5, h6⟩, hn, hB⟩ := h
  exact ⟨⟨h1, h2, h3, h4, h5, h6.congr e2⟩, hn, hB.congr e1⟩
theorem near_tide (L q p : Nat) : nearI (L : Int) (q : Int) (p : Int) = Tide.near L q p := by
  unfold nearI Tide.near
  exact decide_eq_decide.mpr (by omega)
theorem nxt {P p q : Nat} {F gp : Nat → Bool} {b : Bool} (h : b = (anyFrom F 0 q || F q)) : ∀ i, i < P → (if i = p then b else if i = p then anyFrom F 0 q else gp i) = (if i = p then anyFrom F 0 (q + 1) else gp i) := by
  intro i _
  by_cases c : i = p
  · rw [if_pos c, if_pos c, h, anyFrom_snoc]
  · rw [if_neg c, if_neg c, if_neg c]
/-- Who comes to p, out of the hour j. -/
def cmF (s t : ByteArray) (L st j p : Nat) : Nat → Bool := fun q => rch s t L st j q && (Tide.near L q p && dryN s t p (st + j + 1))
def gp (s t : ByteArray) (L st j p : Nat) : Nat → Bool := fun i => if i < p then rch s t L st (j + 1) i else false
def op (s t : ByteArray) (L st j p : Nat) : Nat → Int := fun i => if i < p then fst s t L st (j + 1) i else fst s t L st j i
theorem gp_next (s t : ByteArray) (L st j p P : Nat) (hP : P = s.size + 2) : ∀ i, i < P → (if i = p then anyFrom (cmF s t L st j p) 0 P else gp s t L st j p i) = gp s t L st j (p + 1) i := by
  intro i hi
  unfold gp
  by_cases c : i = p
  · rw [if_pos c, if_pos (by omega), c, reach_as, hP]; rfl
  · rw [if_neg c]
    by_cases d : i < p
    · rw [if_pos d, if_pos (by omega)]
    · rw [if_neg d, if_neg (by omega)]
theorem op_put (s t : ByteArray) (L st j p P : Nat) (h1 : rch s t L st (j + 1) p = true) (h2 : fst s t L st j p < 0) (H : Int) (hH : H = ((st + j + 1 : Nat) : Int)) : ∀ i, i < P → (if i = p then H else op s t L st j p i) = op s t L st j (p + 1) i := by
  intro i hi
  unfold op
  by_cases c : i = p
  · rw [if_pos c, if_pos (by omega), c, hH]
    show _ = Tide.first _ _ _ _ (j + 1) p
    simp only [Tide.first]
    rw [if_pos ⟨h1, h2⟩]
  · rw [if_neg c]
    by_cases d : i < p
    · rw [if_pos d, if_pos (by omega)]
    · rw [if_neg d, if_neg (by omega)]
theorem op_skip (s t : ByteArray) (L st j p P : Nat) (h : ¬ (rch s t L st (j + 1) p = true ∧ fst s t L st j p < 0)) : ∀ i, i < P → op s t L st j p i = op s t L st j (p + 1) i := by
  intro i hi
  unfold op
  by_cases c : i = p
  · rw [if_neg (by omega), if_pos (by omega), c]
    show _ = Tide.first _ _ _ _ (j + 1) p
    simp only [Tide.first]
    rw [if_neg h]
  · by_cases d : i < p
    · rw [if_pos d, if_pos (by omega)]
    · rw [if_neg d, if_neg (by omega)]
theorem St.ne {w0 W : World} {s t : ByteArray} {L : Int} {gN cN gO cO : Nat} {fN : Nat → Bool} {fO : Nat → Int} {P : Nat} (h : St w0 W s t L gN cN fN gO cO fO P) : w0.heap.size ≠ gO ∧ gN ≠ gO := by
  obtain ⟨h1, h2, h3, h4, ⟨X, hX, _⟩, ⟨Y, hY, _⟩⟩ := h
  exact ⟨blk_ne h1 hY (by decide), blk_ne hX hY (by decide)⟩
set_option maxHeartbeats 8000000 in
set_option maxRecDepth 100000 in
theorem arrivals (s t : ByteArray) (L st : Nat) (w : World) (hs : 1 ≤ s.size ∧ s.size ≤ 14) (ht : 1 ≤ t.size ∧ t.size ≤ 12) (hL : 1 ≤ L ∧ L ≤ 15) (hst : st ≤ 2000) :
    Calls Tryd.prog 40 #[agg s t (L : Int), .int .i64 (st : Int)] w fun e w' => ∃ v, e = .returned v ∧ Kd.R (Kd.int .i64) 3 w' w.heap.size (fun _ => True) v (arrs s t L st) ∧ Below w.heap.size w w' := by
  have hu39 := Tryd.underlying39
  have HZ := Aside0.mk (And.intro hs (And.intro ht (And.intro hL hst)))
  obtain ⟨P, hP⟩ : ∃ P : Nat, P = s.size + 2 := ⟨_, rfl⟩
  have HP := Aside0.mk hP
  have cp := fun W => places s t (L : Int) W (by omega)
  rw [← hP] at cp
  have CP := Aside0.mk cp
  have CR := Aside0.mk (fun (g : Nat) (W : World) (h : W.heap[g]? = some (.cells #[.int .i64 (-1)] 3 (0, 0))) => repeat_ (some ⟨g, 0, none⟩) 1 (-1) P W (one_row (w0 := w) h) (Nat.le_refl _) (by omega) (by omega))
  have PB := Aside0.mk (show 3 ≤ P ∧ P ≤ 16 by omega)
  clear hs ht hL hst hP cp
  go_enter Tryd.func40, Tryd.ntmps40
  go_wp2_with fail
  refine (CP.out _).mono ?_
  rintro e w1 ⟨rfl, hb⟩
  have B1 := Aside0.mk (blk_below (blk_new (w.alloc (box s t (L : Int))) (.cells #[.int .i64 (-1)] 3 (0, 0))) hb)
  rw [show (w.alloc (box s t (L : Int))).heap.size = w.heap.size + 1 by simp] at B1
  have X1 := Aside0.mk (blk_below (blk_alloc (blk_new w (box s t (L : Int))) (.cells #[.int .i64 (-1)] 3 (0, 0))) hb)
  have HB1 := Aside0.mk (below_step (below_alloc (below_alloc (Below.refl w.heap.size w) (box s t (L : Int))) (.cells #[.int .i64 (-1)] 3 (0, 0))) hb)
  clear hb
  go_wp2_with fail
  refine (CR.out _ _ B1.out).mono ?_
  rintro e w2 ⟨v, rfl, hr, hb⟩
  obtain ⟨gO, cO, rfl, hgO, hO⟩ := Tb.of_R (h1 := fun _ => rfl) hr (by have := PB.out; omega)
  have TO := Aside0.mk hO
  have X2 := Aside0.mk (blk_below X1.out hb)
  have HB2 := Aside0.mk (below_step HB1.out hb)
  have GO := Aside0.mk (show w.heap.size ≤ gO from Nat.le_trans HB1.out.size hgO)
  clear hb hr hgO hO
  have hc0 : w2.cell? ⟨w.heap.size, 0, none⟩ = some (.string s) := (blk_cell X2.out 0).trans rfl
  have hc1 : w2.cell? ⟨w.heap.size, 1, none⟩ = some (.string t) := (blk_cell X2.out 1).trans rfl
  have hc2 : w2.cell? ⟨w.heap.size, 2, none⟩ = some (.int .i64 (L : Int)) := (blk_cell X2.out 2).trans rfl
  go_wp2_with fail
  refine (CP.out _).mono ?_
  rintro e w3 ⟨rfl, hb⟩
  clear hc0 hc1 hc2
  have TO3 := Aside0.mk (TO.out.below hb)
  have X3 := Aside0.mk (blk_below X2.out hb)
  have HB3 := Aside0.mk (below_step HB2.out hb)
  clear hb
  go_upto_region 3 with (at_make; refine Kd.R_make Kd.bool _ 4 rfl (N := 18) rfl 45 _ _ rfl (P : Int) rfl rfl Tryd.underlying45 (.bool false) 1 info4 rfl (by decide) (by omega) false (ok := fun _ => True) (okp := fun _ => True) rfl (fun _ hk => hk) trivial (by omega) (by have := PB.out; omega) (Below.refl _ _) (Nat.le_refl _) ?_; intro v1 w5 ho hb hg_ hnew_; clear hg_ hnew_; simp only [Int.toNat_natCast] at ho; obtain ⟨gN, cN, rfl, hgN, hN⟩ := Tb.of_R (h1 := fun _ => rfl) ho (by have := PB.out; omega); have TN5 := Aside0.mk hN; have TO5 := Aside0.mk (TO3.out.below hb); have X5 := Aside0.mk (blk_below X3.out hb); have HB5 := Aside0.mk (below_step HB3.out hb); have GN := Aside0.mk (show w.heap.size ≤ gN from Nat.le_trans HB3.out.size hgN); have NO := Aside0.mk (show gN ≠ gO from fun e => absurd TO3.out.lt (by omega)); clear ho hb hgN hN)
  have hcN : w5.cell? ⟨gN, 0, none⟩ = some (.bool false) := TN5.out.cell 0 (by have := PB.out; omega)
  have hfN := TN5.out.frozen 0
  have hcO : w5.cell? ⟨gO, 0, none⟩ = some (.int .i64 (-1)) := TO5.out.cell 0 (by have := PB.out; omega)
  have hfO := TO5.out.frozen 0
  have hNO := NO.out
  have hON := fun e : gO = gN => NO.out e.symm
  have hp0 : 0 < P := by have := PB.out; omega
  go_wp2
  obtain ⟨n, hn⟩ : ∃ n : Nat, n = P * t.size := ⟨_, rfl⟩
  have hn2 : n ≤ 192 := by rw [hn]; exact Nat.le_trans (Nat.mul_le_mul PB.out.2 HZ.out.2.1.2) (by omega)
  have HN := Aside0.mk (And.intro hn hn2)
  have HS0 : Aside0 (St w ((w5.setCell ⟨gN, 0, none⟩ (.bool true)).setCell ⟨gO, 0, none⟩ (.int .i64 (st : Int))) s t (L : Int) gN cN (rch s t L st 0) gO cO (fst s t L st 0) P) := ⟨by
    refine ⟨blk_far (blk_far X5.out (fun e => ?_) _) (fun e => ?_) _, below_set (below_set HB5.out GN.out) GO.out, GN.out, GO.out, ((TN5.out.set 0 true).far NO.out _).congr ?_, ((TO5.out.far (fun e => NO.out e.symm) (.bool true)).set 0 (st : Int)).congr ?_⟩
    · obtain ⟨X, hX, _⟩ := TN5.out
      exact blk_ne X5.out hX (by decide) e
    · obtain ⟨X, hX, _⟩ := TO5.out
      exact blk_ne X5.out hX (by decide) e
    · intro i _; simp only [rch, Tide.reach]; by_cases c : i = 0 <;> simp [c]
    · intro i _; simp only [fst, Tide.first]⟩
  have HE := Aside0.mk (show wrap64 ((st : Int) + 1) = ((st + 0 + 1 : Nat) : Int) from w_id (by omega) (by have := HZ.out; omega))
  clear hcN hfN hcO hfO hNO hON hp0 hn hn2
  go_loopw [6, 7] (fun v6 v7 wr => ∃ (j gN cN : Nat) (H : Int), v6 = .slice (some ⟨gN, 0, none⟩) P cN ∧ v7 = .int .i64 H ∧ Aside0 (H = ((st + j + 1 : Nat) : Int) ∧ j ≤ n) ∧ Aside0 (St w wr s t (L : Int) gN cN (rch s t L st j) gO cO (fst s t L st j) P)) (fun _ v7 _ => st + n + 1 - (intOf v7).toNat)
  case atStart => exact ⟨0, gN, cN, _, rfl, rfl, ⟨HE.out, Nat.zero_le _⟩, HS0⟩
  case round =>
    clear HS0 HE TN5 TO5 X5 HB5 GN NO X3 HB3 TO3 X2 HB2 TO X1 HB1 B1
    obtain ⟨j, gN, cN, H, rfl, rfl, HH, HS⟩ := hrel
    have hmul : wrap64 ((P : Int) * (t.size : Int)) = (n : Int) := by rw [← Int.natCast_mul, ← HN.out.1]; exact w_id (by omega) (by have := HN.out; omega)
    have hadd : wrap64 ((st : Int) + (n : Int)) = ((st + n : Nat) : Int) := w_id (by omega) (by have := HN.out; have := HZ.out; omega)
    obtain ⟨E, hE⟩ : ∃ E : Int, ((st + n : Nat) : Int) = E := ⟨_, rfl⟩
    rw [hE] at hadd
    have HEE := Aside0.mk hE
    clear hE
    by_cases hlt : H ≤ E
    · have hc := decide_eq_true hlt
      have HLT := Aside0.mk hlt
      clear hlt
      go_wp2
      refine start_ (n := 10) (S := fun w' => w'.cell? ⟨w.heap.size, 0, none⟩ = some (.string s) ∧ w'.cell? ⟨w.heap.size, 1, none⟩ = some (.string t) ∧ w'.cell? ⟨w.heap.size, 2, none⟩ = some (.int .i64 (L : Int)) ∧ Aside0 (St w w' s t (L : Int) gN cN (rch s t L st j) gO cO (fst s t L st j) P)) (ds := []) #[false, false, false, false, false, false, false, false, false, false] (by kernel_rfl) rfl rfl (held (HS.out.below (below_drew (Below.refl _ _)))) (fun hHeld => ?_)
      refine pure_ (i := 0) (N := some 26) (v := ?_) (a' := ?_) #[true, false, false, false, false, false, false, false, false, false] rfl rfl (by kernel_rfl) (fun _ _ _ h => h) (Or.inl ⟨by rfl, ?_⟩) ?_ ?_
      rotate_left
      · intro w'
        go_simp
        with_reducible rfl
      rotate_left
      · simp only [Act.put, List.setIfInBounds_toArray, List.set_cons_zero, List.set_cons_succ, i64_w, i32_w]
        rfl
      refine pure_ (i := 1) (N := some 27) (v := ?_) (a' := ?_) #[true, true, false, false, false, false, false, false, false, false] rfl rfl (by kernel_rfl) (fun _ _ _ h => h) (Or.inl ⟨by rfl, ?_⟩) ?_ ?_
      rotate_left
      · intro w'
        go_simp
        with_reducible rfl
      rotate_left
      · simp only [Act.put, List.setIfInBounds_toArray, List.set_cons_zero, List.set_cons_succ, i64_w, i32_w]
        rfl
      refine pure_ (i := 4) (N := some 30) (v := ?_) (a' := ?_) #[true, true, false, false, true, false, false, false, false, false] rfl rfl (by kernel_rfl) (fun _ _ _ h => h) (Or.inl ⟨by rfl, ?_⟩) ?_ ?_
      rotate_left
      · intro w'
        go_simp
        with_reducible rfl
      rotate_left
      · simp only [Act.put, List.setIfInBounds_toArray, List.set_cons_zero, List.set_cons_succ, i64_w, i32_w]
        rfl
      refine take_ (i := 2) (N := some 28) (v := ?_) (a' := ?_) #[true, true, true, false, true, false, false, false, false, false] rfl rfl (by kernel_rfl) (fun _ _ _ h => h) (Or.inl ⟨by rfl, ?_⟩) hHeld ?_ ?_
      rotate_left
      · rintro w' ⟨s0, s1, s2, s3⟩
        go_simp
        with_reducible rfl
      rotate_left
      · simp only [Act.put, List.setIfInBounds_toArray, List.set_cons_zero, List.set_cons_succ, i64_w, i32_w]
        rfl
      refine take_ (i := 5) (N := some 31) (v := ?_) (a' := ?_) #[true, true, true, false, true, true, false, false, false, false] rfl rfl (by kernel_rfl) (fun _ _ _ h => h) (Or.inl ⟨by rfl, ?_⟩) hHeld ?_ ?_
      rotate_left
      · rintro w' ⟨s0, s1, s2, s3⟩
        go_simp
        with_reducible rfl
      rotate_left
      · simp only [Act.put, List.setIfInBounds_toArray, List.set_cons_zero, List.set_cons_succ, i64_w, i32_w]
        rfl
      refine pure_ (i := 6) (N := some 32) (v := ?_) (a' := ?_) #[true, true, true, false, true, true, true, false, false, false] rfl rfl (by kernel_rfl) (fun _ _ _ h => h) (Or.inl ⟨by rfl, ?_⟩) ?_ ?_
      rotate_left
      · intro w'
        go_simp
        with_reducible rfl
      rotate_left
      · simp only [Act.put, List.setIfInBounds_toArray, List.set_cons_zero, List.set_cons_succ, i64_w, i32_w]
        rfl
      refine one_ (i := 3) (N := some 29) #[true, true, true, true, true, true, true, false, false, false] rfl rfl (by kernel_rfl) (by decide) (fun K hK => ?_)
      refine goes_ Tryd.func49 (by kernel_rfl) rfl #[.agg #[.string s, .string t, .int .i64 (L : Int)]] (by rfl) rfl rfl (by (try simp only [List.map_toArray, List.map_cons, List.map_nil]); first | done | rfl) ?_
      refine (CP.out _).mono ?_
      rintro e w6 ⟨rfl, hb⟩
      refine ⟨_, rfl, ?_⟩
      refine hK.out _ _ (held_below hHeld hb) (fun hHeld => ?_)
      clear hK K
      refine norm_ (a' := ?_) ?_ ?_
      rotate_left
      · show Act.put _ (some 29) _ = _
        simp only [Act.put, List.setIfInBounds_toArray, List.set_cons_zero, List.set_cons_succ, i64_w, i32_w]
        rfl
      refine pure_ (i := 7) (N := some 33) (v := ?_) (a' := ?_) #[true, true, true, true, true, true, true, true, false, false] rfl rfl (by kernel_rfl) (fun _ _ _ h => h) (Or.inl ⟨by rfl, ?_⟩) ?_ ?_
      rotate_left
      · intro w'
        go_simp
        with_reducible rfl
      rotate_left
      · simp only [Act.put, List.setIfInBounds_toArray, List.set_cons_zero, List.set_cons_succ, i64_w, i32_w]
        rfl
      refine pure_ (i := 8) (N := some 34) (v := ?_) (a' := ?_) #[true, true, true, true, true, true, true, true, true, false] rfl rfl (by kernel_rfl) (fun _ _ _ h => h) (Or.inl ⟨by rfl, ?_⟩) ?_ ?_
      rotate_left
      · intro w'
        go_simp
        with_reducible rfl
      rotate_left
      · simp only [Act.put, List.setIfInBounds_toArray, List.set_cons_zero, List.set_cons_succ, i64_w, i32_w]
        rfl
      refine pure_ (i := 9) (N := some 35) (v := ?_) (a' := ?_) #[true, true, true, true, true, true, true, true, true, true] rfl rfl (by kernel_rfl) (fun _ _ _ h => h) (Or.inl ⟨by rfl, ?_⟩) ?_ ?_
      rotate_left
      · intro w'
        go_simp
        with_reducible rfl
      rotate_left
      · simp only [Act.put, List.setIfInBounds_toArray, List.set_cons_zero, List.set_cons_succ, i64_w, i32_w]
        rfl
      refine done_ (by kernel_rfl) ?_
      obtain ⟨hc0, hc1, hc2, HS⟩ := hHeld
      go_wp2_with fail
      refine (CP.out _).mono ?_
      rintro e w7 ⟨rfl, hb⟩
      replace HS := Aside0.mk (HS.out.below hb)
      clear hb hc0 hc1 hc2 hmul hadd hc
      go_upto_region 8 with (at_make; refine Kd.R_make Kd.bool _ 4 rfl (N := 40) rfl 45 _ _ rfl (P : Int) rfl rfl Tryd.underlying45 (.bool false) 1 info4 rfl (by decide) (by omega) false (ok := fun _ => True) (okp := fun _ => True) rfl (fun _ hk => hk) trivial (by omega) (by have := PB.out; omega) (Below.refl _ _) (Nat.le_refl _) ?_; intro v1 w8 ho hb hg_ hnew_; clear hg_ hnew_; simp only [Int.toNat_natCast] at ho; obtain ⟨gB, cB, rfl, hgB, hB⟩ := Tb.of_R (h1 := fun _ => rfl) ho (by have := PB.out; omega); have S2 : Aside0 (St2 w w8 s t (L : Int) gN cN (rch s t L st j) gO cO (fst s t L st j) P gB cB (fun _ => false)) := ⟨⟨HS.out.below hb, ⟨Nat.lt_of_lt_of_le (blk_lt HS.out.1) hgB, Nat.ne_of_lt (Nat.lt_of_lt_of_le HS.out.2.2.2.2.1.lt hgB), Nat.ne_of_lt (Nat.lt_of_lt_of_le HS.out.2.2.2.2.2.lt hgB)⟩, hB⟩⟩; clear ho hb hgB hB)
      go_wp2_with fail
      have S20 := Aside0.mk (S2.out.congr (fB' := gp s t L st j 0) (fO' := op s t L st j 0) (fun i _ => by unfold gp; rw [if_neg (by omega)]) (fun i _ => by unfold op; rw [if_neg (by omega)]))
      clear S2 HS
      go_loopw [43] (fun v43 wm => ∃ p : Nat, v43 = .int .i64 (p : Int) ∧ Aside0 (p ≤ P) ∧ Aside0 (St2 w wm s t (L : Int) gN cN (rch s t L st j) gO cO (op s t L st j p) P gB cB (gp s t L st j p))) (fun v43 _ => P - (intOf v43).toNat)
      case atStart => exact ⟨0, rfl, ⟨Nat.zero_le _⟩, S20⟩
      case round =>
        clear S20
        obtain ⟨p, rfl, HP2, HS⟩ := hrel
        by_cases hp : p < P
        · have hp1 := decide_eq_true hp
          have HPP := Aside0.mk hp
          clear hp
          have HS0 := Aside0.mk (HS.out.congr (fB' := fun i => if i = p then anyFrom (cmF s t L st j p) 0 0 else gp s t L st j p i) (fO' := op s t L st j p) (fun i _ => by
            by_cases c : i = p
            · rw [if_pos c, c]; unfold gp; rw [if_neg (by omega)]; rfl
            · rw [if_neg c]) (fun _ _ => rfl))
          go_wp2_with fail
          go_loopw [48] (fun v48 wi => ∃ q : Nat, v48 = .int .i64 (q : Int) ∧ Aside0 (q ≤ P) ∧ Aside0 (St2 w wi s t (L : Int) gN cN (rch s t L st j) gO cO (op s t L st j p) P gB cB (fun i => if i = p then anyFrom (cmF s t L st j p) 0 q else gp s t L st j p i))) (fun v48 _ => P - (intOf v48).toNat)
          case atStart => exact ⟨0, rfl, ⟨Nat.zero_le _⟩, HS0⟩
          case round =>
            trace "inner"
            clear HS0
            obtain ⟨q, rfl, HQ, HI⟩ := hrel
            by_cases hq : q < P
            · have hq1 := decide_eq_true hq
              have HQQ := Aside0.mk hq
              clear hq
              obtain ⟨b0, hb0⟩ : ∃ b, anyFrom (cmF s t L st j p) 0 q = b := ⟨_, rfl⟩
              obtain ⟨b1, hb1⟩ : ∃ b, rch s t L st j q = b := ⟨_, rfl⟩
              obtain ⟨b2, hb2⟩ : ∃ b, Tide.near L q p = b := ⟨_, rfl⟩
              obtain ⟨b3, hb3⟩ : ∃ b, dryN s t p (st + j + 1) = b := ⟨_, rfl⟩
              have hF : cmF s t L st j p q = (b1 && (b2 && b3)) := by unfold cmF; rw [hb1, hb2, hb3]
              have HF := Aside0.mk hF
              have HB0 := Aside0.mk hb0
              have cn := fun W => near s t (L : Int) (q : Int) (p : Int) W (by have := HZ.out; omega) (by have := PB.out; have := HQQ.out; omega) (by have := PB.out; have := HPP.out; omega)
              have cd := fun W => isDry s t (p : Int) H W HZ.out.1.2 HZ.out.2.1 (by have := HP.out; have := HPP.out; omega) (by have := HH.out; omega)
              rw [near_tide, hb2] at cn
              rw [show dryB s t (p : Int) H = b3 by rw [← hb3]; unfold dryN; rw [HH.out.1]] at cd
              have CN := Aside0.mk cn
              have CD := Aside0.mk cd
              have hcN : wr.cell? ⟨gN, q, none⟩ = some (.bool b1) := (HI.out.1.2.2.2.2.1.cell q HQQ.out).trans (by rw [hb1])
              have hcB : wr.cell? ⟨gB, p, none⟩ = some (.bool b0) := (HI.out.2.2.cell p HPP.out).trans (by simp only [if_true]; rw [HB0.out])
              have hfB := HI.out.2.2.frozen p
              have hc0 : wr.cell? ⟨w.heap.size, 0, none⟩ = some (.string s) := (blk_cell HI.out.1.1 0).trans rfl
              have hc1 : wr.cell? ⟨w.heap.size, 1, none⟩ = some (.string t) := (blk_cell HI.out.1.1 1).trans rfl
              have hc2 : wr.cell? ⟨w.heap.size, 2, none⟩ = some (.int .i64 (L : Int)) := (blk_cell HI.out.1.1 2).trans rfl
              have hw : wrap64 ((q : Int) + 1) = ((q + 1 : Nat) : Int) := w_id (by omega) (by have := PB.out; have := HQQ.out; omega)
              have hqP := HQQ.out
              have hpP := HPP.out
              clear hb0 hb1 hb2 hb3 hF cn cd
              cases b0 with
              | true =>
                go_wp2_with fail
                go_roundw
                case rel => exact ⟨q + 1, by rw [hw], ⟨by have := HQQ.out; omega⟩, ⟨(HI.out.put p _).congr (nxt (by rw [HB0.out, Bool.true_or])) (fun _ _ => rfl)⟩⟩
                case measure => (try rw [hw]); have := HQQ.out; simp [intOf]; omega
              | false =>
                cases b1 with
                | false =>
                  go_wp2_with fail
                  go_roundw
                  case rel => exact ⟨q + 1, by rw [hw], ⟨by have := HQQ.out; omega⟩, ⟨(HI.out.put p _).congr (nxt (by rw [HB0.out, HF.out, Bool.false_and, Bool.or_false])) (fun _ _ => rfl)⟩⟩
                  case measure => (try rw [hw]); have := HQQ.out; simp [intOf]; omega
                | true =>
                  go_wp2_with fail
                  refine (CN.out _).mono ?_
                  rintro e w9 ⟨rfl, hb⟩
                  clear hcN hcB hfB hc0 hc1 hc2
                  replace HI := Aside0.mk (HI.out.below hb)
                  clear hb
                  have hcB : w9.cell? ⟨gB, p, none⟩ = some (.bool false) := (HI.out.2.2.cell p HPP.out).trans (by simp only [if_true]; rw [HB0.out])
                  have hfB := HI.out.2.2.frozen p
                  have hc0 : w9.cell? ⟨w.heap.size, 0, none⟩ = some (.string s) := (blk_cell HI.out.1.1 0).trans rfl
                  have hc1 : w9.cell? ⟨w.heap.size, 1, none⟩ = some (.string t) := (blk_cell HI.out.1.1 1).trans rfl
                  cases b2 with
                  | false =>
                    go_wp2_with fail
                    go_roundw
                    case rel => exact ⟨q + 1, by rw [hw], ⟨by have := HQQ.out; omega⟩, ⟨(HI.out.put p _).congr (nxt (by rw [HB0.out, HF.out, Bool.false_and, Bool.and_false, Bool.or_false])) (fun _ _ => rfl)⟩⟩
                    case measure => (try rw [hw]); have := HQQ.out; simp [intOf]; omega
                  | true =>
                    go_wp2_with fail
                    refine (CD.out _).mono ?_
                    rintro e w10 ⟨rfl, ⟨nd, rfl⟩⟩
                    clear hcB hfB hc0 hc1
                    replace HI := Aside0.mk (HI.out.below (pw_below_drewN (Below.refl _ _) nd))
                    have hcB : (w9.drewN nd).cell? ⟨gB, p, none⟩ = some (.bool false) := (HI.out.2.2.cell p HPP.out).trans (by simp only [if_true]; rw [HB0.out])
                    have hfB := HI.out.2.2.frozen p
                    go_wp2_with fail
                    go_roundw
                    case rel => exact ⟨q + 1, by rw [hw], ⟨by have := HQQ.out; omega⟩, ⟨(HI.out.put p _).congr (nxt (by rw [HB0.out, HF.out, Bool.true_and, Bool.true_and, Bool.false_or])) (fun _ _ => rfl)⟩⟩
                    case measure => (try rw [hw]); have := HQQ.out; simp [intOf]; omega
            · have hq1 := decide_eq_false hq
              obtain rfl : q = P := by have := HQ.out; omega
              clear hq
              obtain ⟨b, hb⟩ : ∃ b, rch s t L st (j + 1) p = b := ⟨_, rfl⟩
              obtain ⟨x, hx⟩ : ∃ x, fst s t L st j p = x := ⟨_, rfl⟩
              have RB := Aside0.mk hb
              have RX := Aside0.mk hx
              have hcB : wr.cell? ⟨gB, p, none⟩ = some (.bool b) := (HI.out.2.2.cell p HPP.out).trans (by simp only [if_true]; rw [← hb, reach_as, HP.out]; rfl)
              have hcO : wr.cell? ⟨gO, p, none⟩ = some (.int .i64 x) := (HI.out.1.2.2.2.2.2.cell p HPP.out).trans (by unfold op; rw [if_neg (by omega), hx])
              have hfO := HI.out.1.2.2.2.2.2.frozen p
              have hw : wrap64 ((p : Int) + 1) = ((p + 1 : Nat) : Int) := w_id (by omega) (by have := PB.out; have := HPP.out; omega)
              have hpP := HPP.out
              clear hb hx
              cases b with
              | false =>
                go_wp2_with fail
                go_roundw
                case rel => exact ⟨p + 1, by rw [hw], ⟨by have := HPP.out; omega⟩, ⟨HI.out.congr (gp_next s t L st j p q HP.out) (op_skip s t L st j p q (fun h => by rw [RB.out] at h; cases h.1))⟩⟩
                case measure => (try rw [hw]); have := HPP.out; simp [intOf]; omega
              | true =>
                by_cases hx0 : x < 0
                · have hx1 := decide_eq_true hx0
                  have HX0 := Aside0.mk hx0
                  clear hx0
                  go_wp2_with fail
                  go_roundw
                  case rel => exact ⟨p + 1, by rw [hw], ⟨by have := HPP.out; omega⟩, ⟨(HI.out.told HI.out.1.ne.1 HI.out.1.ne.2 p H).congr (gp_next s t L st j p q HP.out) (op_put s t L st j p q RB.out (by rw [RX.out]; exact HX0.out) H HH.out.1)⟩⟩
                  case measure => (try rw [hw]); have := HPP.out; simp [intOf]; omega
                · have hx1 := decide_eq_false hx0
                  have HX0 := Aside0.mk hx0
                  clear hx0
                  go_wp2_with fail
                  go_roundw
                  case rel => exact ⟨p + 1, by rw [hw], ⟨by have := HPP.out; omega⟩, ⟨HI.out.congr (gp_next s t L st j p q HP.out) (op_skip s t L st j p q (fun h => HX0.out (by rw [← RX.out]; exact h.2)))⟩⟩
                  case measure => (try rw [hw]); have := HPP.out; simp [intOf]; omega
        · have hp1 := decide_eq_false hp
          obtain rfl : p = P := by have := HP2.out; omega
          clear hp
          have hw : wrap64 (H + 1) = H + 1 := w_id (by have := HH.out; omega) (by have := HH.out; have := HN.out; have := HZ.out; omega)
          have HSt := Aside0.mk (show St w wr s t (L : Int) gB cB (rch s t L st (j + 1)) gO cO (fst s t L st (j + 1)) p from ⟨HS.out.1.1, HS.out.1.2.1, Nat.le_of_lt HS.out.2.1.1, HS.out.1.2.2.2.1, HS.out.2.2.congr (fun i hi => by unfold gp; rw [if_pos hi]), HS.out.1.2.2.2.2.2.congr (fun i hi => by unfold op; rw [if_pos hi])⟩)
          go_wp2_with fail
          go_roundw
          case rel => exact ⟨j + 1, gB, cB, H + 1, rfl, by rw [hw], ⟨by have := HH.out; have := HLT.out; have := HEE.out; omega⟩, HSt⟩
          case measure => (try rw [hw]); have := HLT.out; have := HEE.out; have := HH.out; simp [intOf]; omega
    · have hc := decide_eq_false hlt
      have hjn : j = n := by have := HH.out; have := HEE.out; omega
      have HJ := Aside0.mk hjn
      clear hlt hjn
      go_wp2
      refine start_ (n := 10) (S := fun w' => w'.cell? ⟨w.heap.size, 0, none⟩ = some (.string s) ∧ w'.cell? ⟨w.heap.size, 1, none⟩ = some (.string t) ∧ w'.cell? ⟨w.heap.size, 2, none⟩ = some (.int .i64 (L : Int)) ∧ Aside0 (St w w' s t (L : Int) gN cN (rch s t L st j) gO cO (fst s t L st j) P)) (ds := []) #[false, false, false, false, false, false, false, false, false, false] (by kernel_rfl) rfl rfl (held (HS.out.below (below_drew (Below.refl _ _)))) (fun hHeld => ?_)
      refine pure_ (i := 0) (N := some 26) (v := ?_) (a' := ?_) #[true, false, false, false, false, false, false, false, false, false] rfl rfl (by kernel_rfl) (fun _ _ _ h => h) (Or.inl ⟨by rfl, ?_⟩) ?_ ?_
      rotate_left
      · intro w'
        go_simp
        with_reducible rfl
      rotate_left
      · simp only [Act.put, List.setIfInBounds_toArray, List.set_cons_zero, List.set_cons_succ, i64_w, i32_w]
        rfl
      refine pure_ (i := 1) (N := some 27) (v := ?_) (a' := ?_) #[true, true, false, false, false, false, false, false, false, false] rfl rfl (by kernel_rfl) (fun _ _ _ h => h) (Or.inl ⟨by rfl, ?_⟩) ?_ ?_
      rotate_left
      · intro w'
        go_simp
        with_reducible rfl
      rotate_left
      · simp only [Act.put, List.setIfInBounds_toArray, List.set_cons_zero, List.set_cons_succ, i64_w, i32_w]
        rfl
      refine pure_ (i := 4) (N := some 30) (v := ?_) (a' := ?_) #[true, true, false, false, true, false, false, false, false, false] rfl rfl (by kernel_rfl) (fun _ _ _ h => h) (Or.inl ⟨by rfl, ?_⟩) ?_ ?_
      rotate_left
      · intro w'
        go_simp
        with_reducible rfl
      rotate_left
      · simp only [Act.put, List.setIfInBounds_toArray, List.set_cons_zero, List.set_cons_succ, i64_w, i32_w]
        rfl
      refine take_ (i := 2) (N := some 28) (v := ?_) (a' := ?_) #[true, true, true, false, true, false, false, false, false, false] rfl rfl (by kernel_rfl) (fun _ _ _ h => h) (Or.inl ⟨by rfl, ?_⟩) hHeld ?_ ?_
      rotate_left
      · rintro w' ⟨s0, s1, s2, s3⟩
        go_simp
        with_reducible rfl
      rotate_left
      · simp only [Act.put, List.setIfInBounds_toArray, List.set_cons_zero, List.set_cons_succ, i64_w, i32_w]
        rfl
      refine take_ (i := 5) (N := some 31) (v := ?_) (a' := ?_) #[true, true, true, false, true, true, false, false, false, false] rfl rfl (by kernel_rfl) (fun _ _ _ h => h) (Or.inl ⟨by rfl, ?_⟩) hHeld ?_ ?_
      rotate_left
      · rintro w' ⟨s0, s1, s2, s3⟩
        go_simp
        with_reducible rfl
      rotate_left
      · simp only [Act.put, List.setIfInBounds_toArray, List.set_cons_zero, List.set_cons_succ, i64_w, i32_w]
        rfl
      refine pure_ (i := 6) (N := some 32) (v := ?_) (a' := ?_) #[true, true, true, false, true, true, true, false, false, false] rfl rfl (by kernel_rfl) (fun _ _ _ h => h) (Or.inl ⟨by rfl, ?_⟩) ?_ ?_
      rotate_left
      · intro w'
        go_simp
        with_reducible rfl
      rotate_left
      · simp only [Act.put, List.setIfInBounds_toArray, List.set_cons_zero, List.set_cons_succ, i64_w, i32_w]
        rfl
      refine one_ (i := 3) (N := some 29) #[true, true, true, true, true, true, true, false, false, false] rfl rfl (by kernel_rfl) (by decide) (fun K hK => ?_)
      refine goes_ Tryd.func49 (by kernel_rfl) rfl #[.agg #[.string s, .string t, .int .i64 (L : Int)]] (by rfl) rfl rfl (by (try simp only [List.map_toArray, List.map_cons, List.map_nil]); first | done | rfl) ?_
      refine (CP.out _).mono ?_
      rintro e w6 ⟨rfl, hb⟩
      refine ⟨_, rfl, ?_⟩
      refine hK.out _ _ (held_below hHeld hb) (fun hHeld => ?_)
      clear hK K
      refine norm_ (a' := ?_) ?_ ?_
      rotate_left
      · show Act.put _ (some 29) _ = _
        simp only [Act.put, List.setIfInBounds_toArray, List.set_cons_zero, List.set_cons_succ, i64_w, i32_w]
        rfl
      refine pure_ (i := 7) (N := some 33) (v := ?_) (a' := ?_) #[true, true, true, true, true, true, true, true, false, false] rfl rfl (by kernel_rfl) (fun _ _ _ h => h) (Or.inl ⟨by rfl, ?_⟩) ?_ ?_
      rotate_left
      · intro w'
        go_simp
        with_reducible rfl
      rotate_left
      · simp only [Act.put, List.setIfInBounds_toArray, List.set_cons_zero, List.set_cons_succ, i64_w, i32_w]
        rfl
      refine pure_ (i := 8) (N := some 34) (v := ?_) (a' := ?_) #[true, true, true, true, true, true, true, true, true, false] rfl rfl (by kernel_rfl) (fun _ _ _ h => h) (Or.inl ⟨by rfl, ?_⟩) ?_ ?_
      rotate_left
      · intro w'
        go_simp
        with_reducible rfl
      rotate_left
      · simp only [Act.put, List.setIfInBounds_toArray, List.set_cons_zero, List.set_cons_succ, i64_w, i32_w]
        rfl
      refine pure_ (i := 9) (N := some 35) (v := ?_) (a' := ?_) #[true, true, true, true, true, true, true, true, true, true] rfl rfl (by kernel_rfl) (fun _ _ _ h => h) (Or.inl ⟨by rfl, ?_⟩) ?_ ?_
      rotate_left
      · intro w'
        go_simp
        with_reducible rfl
      rotate_left
      · simp only [Act.put, List.setIfInBounds_toArray, List.set_cons_zero, List.set_cons_succ, i64_w, i32_w]
        rfl
      refine done_ (by kernel_rfl) ?_
      obtain ⟨hc0, hc1, hc2, HS⟩ := hHeld
      go_wp2_with fail
      go_ret
      refine ⟨_, rfl, ?_, HS.out.2.1⟩
      have hr := HS.out.2.2.2.2.2.to_R (h1 := fun _ => rfl) w.heap.size HS.out.2.2.2.1
      rw [HJ.out] at hr
      have e : tab P (fst s t L st n) = arrs s t L st := by unfold arrs; rw [HN.out.1, HP.out]
      rw [← e]
      exact hr
end Go.Proofs.YteijbohbdhemoaaDoor.Arr
