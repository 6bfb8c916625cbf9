/- impl.common, the predicate of PrimeLeans, impl.PrimeLeans and spec.PrimeLeans at this program, told in plain Lean. Conditions: as in the theorems. -/
import Derived.Test.YtnnedicoapdkkaaWkAll
namespace Go.Proofs.Ytnnedicoapdkkaa.WkAll
set_option linter.unusedVariables false
set_option linter.unusedSimpArgs false
open Go.Shelf Go.RowKit Go.Proofs.YtnnedicoapdkkaaW.PrintWords Go.Proofs.YtnnedicoapdkkaaW.PrintLast Go.Proofs.YtnnedicoapdkkaaW.PrintMore DF Clo Spots Sp Leans FcWholeLeans WkWholeLeans PFnExactSpotsFor

set_option maxHeartbeats 4000000 in
set_option maxRecDepth 100000 in
theorem common (a b : Nat) (w : World) (ha : a ≤ 1000) (hb : b ≤ 1000) :
    Calls Try.prog 52 #[.int .i64 (a : Int), .int .i64 (b : Int)] w fun e w' => e = .returned (.int .i64 ((Nat.gcd a b : Nat) : Int)) ∧ Below w.heap.size w w' := by
  obtain ⟨gg, hgg⟩ : ∃ gg, Nat.gcd a b = gg := ⟨_, rfl⟩
  rw [hgg]
  have HG0 : Aside0 (Nat.gcd a b = gg ∧ a ≤ 1000 ∧ b ≤ 1000) := ⟨⟨hgg, ha, hb⟩⟩
  have HB := Aside0.mk (Below.refl w.heap.size w)
  clear hgg ha hb
  go_enter Try.func52, Try.ntmps52
  go_wp2
  go_loopw [0, 1] (fun v0 v1 wz => ∃ x y : Nat, v0 = .int .i64 (x : Int) ∧ v1 = .int .i64 (y : Int) ∧ Aside0 (Nat.gcd x y = gg ∧ x ≤ 1000 ∧ y ≤ 1000) ∧ Aside0 (Below w.heap.size w wz)) (fun _ v1 _ => (intOf v1).toNat)
  case atStart => exact ⟨a, b, rfl, rfl, HG0, HB⟩
  case round =>
    clear HB HG0
    obtain ⟨x, y, rfl, rfl, HG, HB⟩ := hrel
    have hxb := HG.out.2.1
    have hyb := HG.out.2.2
    by_cases hy : 0 < y
    · obtain ⟨z, hz⟩ : ∃ z, x % y = z := ⟨_, rfl⟩
      have hzy : z < y := by rw [← hz]; exact Nat.mod_lt _ hy
      have HG1 : Aside0 (Nat.gcd y z = gg ∧ y ≤ 1000 ∧ z ≤ 1000) := ⟨⟨by rw [← hz]; exact gcd_step HG.out.1 hy, hyb, by omega⟩⟩
      have g1 : ((y : Int) == 0) = false := by rw [beq_eq_false_iff_ne]; omega
      have g2 : ¬ (y : Int) = 0 := by omega
      have g3 : ¬ y = 0 := by omega
      have hz0 : (-1000000000 : Int) ≤ (z : Int) ∧ (z : Int) ≤ 1000000000 := by omega
      have d3 : (x : Int) % (y : Int) = (z : Int) := by rw [← hz]; rfl
      have d9 : Int.tmod (x : Int) (y : Int) = (z : Int) := by rw [← hz]; exact (Int.ofNat_tmod x y).symm
      have d4 : wrap64 (z : Int) = (z : Int) := w_id hz0.1 hz0.2
      have d7 : IntKind.i64.wrap (z : Int) = (z : Int) := (i64_w _).trans d4
      have HZ := Aside0.mk hzy
      have HBd := Aside0.mk (below_drew1 HB.out)
      have hSt : True := trivial
      clear hz0 hz HG HB hzy
      go_upto_region 2 with (fail)
      refine start_ (n := 6) (S := fun _ => True) (ds := []) #[false, false, false, false, false, false] (by kernel_rfl) rfl rfl hSt (fun hHeld => ?_)
      refine pure_ (i := 0) (N := some 7) (v := ?_) (a' := ?_) #[true, false, false, false, false, false] rfl rfl (by kernel_rfl) (fun _ _ _ h => h) (Or.inl ⟨by rfl, ?_⟩) ?_ ?_
      rotate_left
      · intro w'
        go_simp
        with_reducible rfl
      rotate_left
      · simp only [Act.put, List.setIfInBounds_toArray, List.set_cons_zero, List.set_cons_succ, i64_w, i32_w]
        rfl
      refine pure_ (i := 1) (N := some 8) (v := ?_) (a' := ?_) #[true, true, false, false, false, false] rfl rfl (by kernel_rfl) (fun _ _ _ h => h) (Or.inl ⟨by rfl, ?_⟩) ?_ ?_
      rotate_left
      · intro w'
        go_simp
        with_reducible rfl
      rotate_left
      · simp only [Act.put, List.setIfInBounds_toArray, List.set_cons_zero, List.set_cons_succ, i64_w, i32_w]
        rfl
      refine pure_ (i := 2) (N := some 9) (v := ?_) (a' := ?_) #[true, true, true, false, false, false] rfl rfl (by kernel_rfl) (fun _ _ _ h => h) (Or.inl ⟨by rfl, ?_⟩) ?_ ?_
      rotate_left
      · intro w'
        go_simp
        with_reducible rfl
      rotate_left
      · simp only [Act.put, List.setIfInBounds_toArray, List.set_cons_zero, List.set_cons_succ, i64_w, i32_w]
        rfl
      refine pure_ (i := 3) (N := some 10) (v := ?_) (a' := ?_) #[true, true, true, true, false, false] rfl rfl (by kernel_rfl) (fun _ _ _ h => h) (Or.inl ⟨by rfl, ?_⟩) ?_ ?_
      rotate_left
      · intro w'
        go_simp
        with_reducible rfl
      rotate_left
      · simp only [Act.put, List.setIfInBounds_toArray, List.set_cons_zero, List.set_cons_succ, i64_w, i32_w]
        rfl
      refine pure_ (i := 4) (N := some 0) (v := ?_) (a' := ?_) #[true, true, true, true, true, false] rfl rfl (by kernel_rfl) (fun _ _ _ h => h) (Or.inl ⟨by rfl, ?_⟩) ?_ ?_
      rotate_left
      · intro w'
        go_simp
        with_reducible rfl
      rotate_left
      · simp only [Act.put, List.setIfInBounds_toArray, List.set_cons_zero, List.set_cons_succ, i64_w, i32_w]
        rfl
      refine pure_ (i := 5) (N := some 1) (v := ?_) (a' := ?_) #[true, true, true, true, true, true] rfl rfl (by kernel_rfl) (fun _ _ _ h => h) (Or.inl ⟨by rfl, ?_⟩) ?_ ?_
      rotate_left
      · intro w'
        go_simp
        with_reducible rfl
      rotate_left
      · simp only [Act.put, List.setIfInBounds_toArray, List.set_cons_zero, List.set_cons_succ, i64_w, i32_w]
        rfl
      refine done_ (by kernel_rfl) ?_
      generalize wr.drew = wd2 at HBd ⊢
      go_wp2_with fail
      go_roundw
      case rel => exact ⟨y, z, rfl, rfl, HG1, HBd⟩
      case measure => simp [intOf]; exact HZ.out
    · obtain rfl : y = 0 := by omega
      have hxg : x = gg := by have := HG.out.1; rw [Nat.gcd_zero_right] at this; exact this
      subst hxg
      clear HG
      go_wp2
      go_ret
      exact ⟨rfl, HB.out⟩
theorem st2_below {w0 W W' : World} {a1 a2 : Addr} {v1 v2 : Value} (h : W.cell? a1 = some v1 ∧ W.cell? a2 = some v2 ∧ Aside0 (Below w0.heap.size w0 W)) (hb : Below W.heap.size W W') :
    W'.cell? a1 = some v1 ∧ W'.cell? a2 = some v2 ∧ Aside0 (Below w0.heap.size w0 W') := ⟨pw_cell_below hb h.1, pw_cell_below hb h.2.1, ⟨below_then h.2.2.out h.2.2.out.size hb⟩⟩
def shared (x : List Int) : Bool := decide (1 < Nat.gcd (rd x 0).toNat (rd x 1).toNat)
set_option maxHeartbeats 4000000 in
set_option maxRecDepth 100000 in
theorem clo51 (c b p : Nat) (u : Value) (w : World) (hc : c ≤ 1000) (hb : b ≤ 1000) (hK : KL.K w [(c : Int), (b : Int), (p : Int)] [u]) :
    Calls Try.prog 51 (#[u] ++ #[]) w fun e w' => e = .returned (.bool (shared [(c : Int), (b : Int), (p : Int)])) ∧ Below w.heap.size w w' := by
  obtain ⟨ad, cu, rfl, h1, h2⟩ := two (x := [(c : Int), (b : Int), (p : Int)]) (by simp) hK
  replace h1 : w.cell? ad = some (.int .i64 (c : Int)) := h1
  replace h2 : w.cell? ⟨ad.block, ad.off + 1, none⟩ = some (.int .i64 (b : Int)) := h2
  have e : shared [(c : Int), (b : Int), (p : Int)] = decide (((Nat.gcd c b : Nat) : Int) > 1) := by
    unfold shared
    show decide (1 < Nat.gcd c b) = _
    by_cases h : 1 < Nat.gcd c b
    · rw [decide_eq_true h, decide_eq_true (by omega)]
    · rw [decide_eq_false h, decide_eq_false (by omega)]
  rw [e]
  have HC := Aside0.mk (common c b · hc hb)
  generalize Nat.gcd c b = g at HC ⊢
  obtain ⟨x, hx⟩ : ∃ x, [(c : Int), (b : Int), (p : Int)] = x := ⟨_, rfl⟩
  have hl3 : x.length = 3 := by rw [← hx]; rfl
  have hl0 : (0 : Int) < (3 : Int) := by omega
  have hSt : w.drew.cell? ad = some (.int .i64 (c : Int)) ∧ w.drew.cell? ⟨ad.block, ad.off + 1, none⟩ = some (.int .i64 (b : Int)) ∧ Aside0 (Below w.heap.size w w.drew) := ⟨h1, h2, ⟨below_drew (Below.refl _ _)⟩⟩
  rw [hx, hl3]
  clear h1 h2 hK e hx hl3 hc hb
  go_enter Try.func51, Try.ntmps51
  go_upto_region 1 with (fail)
  refine start_ (n := 9) (S := fun w' => w'.cell? ad = some (.int .i64 (c : Int)) ∧ w'.cell? ⟨ad.block, ad.off + 1, none⟩ = some (.int .i64 (b : Int)) ∧ Aside0 (Below w.heap.size w w')) (ds := []) #[false, false, false, false, false, false, false, false, false] (by kernel_rfl) rfl rfl hSt (fun hHeld => ?_)
  refine pure_ (i := 0) (N := some 3) (v := ?_) (a' := ?_) #[true, false, false, false, false, false, false, false, false] rfl rfl (by kernel_rfl) (fun _ _ _ h => h) (Or.inl ⟨by rfl, ?_⟩) ?_ ?_
  rotate_left
  · intro w'
    go_simp
    with_reducible rfl
  rotate_left
  · simp only [Act.put, List.setIfInBounds_toArray, List.set_cons_zero, List.set_cons_succ, i64_w, i32_w]
    rfl
  refine pure_ (i := 1) (N := some 4) (v := ?_) (a' := ?_) #[true, true, false, false, false, false, false, false, false] rfl rfl (by kernel_rfl) (fun _ _ _ h => h) (Or.inl ⟨by rfl, ?_⟩) ?_ ?_
  rotate_left
  · intro w'
    go_simp
    with_reducible rfl
  rotate_left
  · simp only [Act.put, List.setIfInBounds_toArray, List.set_cons_zero, List.set_cons_succ, i64_w, i32_w]
    rfl
  refine pure_ (i := 3) (N := some 6) (v := ?_) (a' := ?_) #[true, true, false, true, false, false, false, false, false] rfl rfl (by kernel_rfl) (fun _ _ _ h => h) (Or.inl ⟨by rfl, ?_⟩) ?_ ?_
  rotate_left
  · intro w'
    go_simp
    with_reducible rfl
  rotate_left
  · simp only [Act.put, List.setIfInBounds_toArray, List.set_cons_zero, List.set_cons_succ, i64_w, i32_w]
    rfl
  refine pure_ (i := 4) (N := some 7) (v := ?_) (a' := ?_) #[true, true, false, true, true, false, false, false, false] rfl rfl (by kernel_rfl) (fun _ _ _ h => h) (Or.inl ⟨by rfl, ?_⟩) ?_ ?_
  rotate_left
  · intro w'
    go_simp
    with_reducible rfl
  rotate_left
  · simp only [Act.put, List.setIfInBounds_toArray, List.set_cons_zero, List.set_cons_succ, i64_w, i32_w]
    rfl
  refine take_ (i := 2) (N := some 5) (v := ?_) (a' := ?_) #[true, true, true, true, true, false, false, false, false] rfl rfl (by kernel_rfl) (fun _ _ _ h => h) (Or.inl ⟨by rfl, ?_⟩) hHeld ?_ ?_
  rotate_left
  · rintro w' ⟨s0, s1, s2⟩
    go_simp
    with_reducible rfl
  rotate_left
  · simp only [Act.put, List.setIfInBounds_toArray, List.set_cons_zero, List.set_cons_succ, i64_w, i32_w]
    rfl
  refine take_ (i := 5) (N := some 8) (v := ?_) (a' := ?_) #[true, true, true, true, true, true, false, false, false] rfl rfl (by kernel_rfl) (fun _ _ _ h => h) (Or.inl ⟨by rfl, ?_⟩) hHeld ?_ ?_
  rotate_left
  · rintro w' ⟨s0, s1, s2⟩
    go_simp
    with_reducible rfl
  rotate_left
  · simp only [Act.put, List.setIfInBounds_toArray, List.set_cons_zero, List.set_cons_succ, i64_w, i32_w]
    rfl
  refine one_ (i := 6) (N := some 9) #[true, true, true, true, true, true, true, false, false] rfl rfl (by kernel_rfl) (by decide) (fun K hK => ?_)
  refine goes_ Try.func52 (by kernel_rfl) rfl #[.int .i64 (c : Int), .int .i64 (b : Int)] (by rfl) rfl rfl (by (try simp only [List.map_toArray, List.map_cons, List.map_nil]); first | done | rfl) ?_
  refine (HC.out _).mono ?_
  rintro e w5 ⟨rfl, hb⟩
  refine ⟨_, rfl, ?_⟩
  refine hK.out _ _ (st2_below hHeld hb) (fun hHeld => ?_)
  clear hK K
  refine norm_ (a' := ?_) ?_ ?_
  rotate_left
  · show Act.put _ (some 9) _ = _
    simp only [Act.put, List.setIfInBounds_toArray, List.set_cons_zero, List.set_cons_succ, i64_w, i32_w]
    rfl
  refine pure_ (i := 7) (N := some 10) (v := ?_) (a' := ?_) #[true, true, true, true, true, true, true, true, false] rfl rfl (by kernel_rfl) (fun _ _ _ h => h) (Or.inl ⟨by rfl, ?_⟩) ?_ ?_
  rotate_left
  · intro w'
    go_simp
    with_reducible rfl
  rotate_left
  · simp only [Act.put, List.setIfInBounds_toArray, List.set_cons_zero, List.set_cons_succ, i64_w, i32_w]
    rfl
  refine pure_ (i := 8) (N := some 2) (v := ?_) (a' := ?_) #[true, true, true, true, true, true, true, true, true] rfl rfl (by kernel_rfl) (fun _ _ _ h => h) (Or.inl ⟨by rfl, ?_⟩) ?_ ?_
  rotate_left
  · intro w'
    go_simp
    with_reducible rfl
  rotate_left
  · simp only [Act.put, List.setIfInBounds_toArray, List.set_cons_zero, List.set_cons_succ, i64_w, i32_w]
    rfl
  refine done_ (by kernel_rfl) ?_
  obtain ⟨_, _, HB⟩ := hHeld
  go_wp2_with fail
  go_ret
  exact ⟨rfl, HB.out⟩

theorem not_shared {c b p : Nat} (h : 1 ≤ c) : (!shared [(c : Int), (b : Int), (p : Int)]) = keep true [(c : Int), (b : Int), (p : Int)] := by
  unfold shared keep
  show (!decide (1 < Nat.gcd c b)) = (!true || (Nat.gcd c b == 1))
  have := Nat.gcd_pos_of_pos_left b (show 0 < c by omega)
  by_cases h1 : Nat.gcd c b = 1
  · rw [h1]; rfl
  · rw [decide_eq_true (by omega)]
    have : (Nat.gcd c b == 1) = false := by rw [beq_eq_false_iff_ne]; exact h1
    rw [this]; rfl
theorem val_filter (pl : Int) : (val pl false).1.filter (fun x => !shared x) = (val pl true).1 ∧ (val pl false).2 = (val pl true).2 := by
  unfold val
  by_cases h : 1 ≤ pl ∧ pl ≤ 200
  · rw [if_pos h, if_pos h]
    refine ⟨?_, rfl⟩
    show ((All pl.toNat).filter (keep false)).filter (fun x => !shared x) = (All pl.toNat).filter (keep true)
    rw [keep_all]
    refine List.filter_congr (fun x hx => ?_)
    obtain ⟨c, b, p, rfl, h1, _⟩ := All_in pl.toNat (by omega) x hx
    exact not_shared h1
  · rw [if_neg h, if_neg h]
    exact ⟨rfl, rfl⟩
theorem val_in (pl : Int) : ∀ x ∈ (val pl false).1, ∃ c b p : Nat, x = [(c : Int), (b : Int), (p : Int)] ∧ c ≤ 1000 ∧ b ≤ 1000 := by
  unfold val
  split
  · next h =>
    intro x hx
    obtain ⟨c, b, p, h1, h2, h3, h4⟩ := All_in pl.toNat (by omega) x (List.mem_filter.1 hx).1
    exact ⟨c, b, p, h1, by omega, by omega⟩
  · simp
set_option maxHeartbeats 4000000 in
set_option maxRecDepth 100000 in
theorem implPr (p : Int) (w : World) : Calls Try.prog 28 #[.int .i64 p] w fun e w' => ∃ v, e = .returned (.tuple #[v, .bool (val p true).2]) ∧ Kd.S KL 40 w' w.heap.size (fun _ => True) v (val p true).1 ∧ Below w.heap.size w w' := by
  obtain ⟨h1, h2⟩ := val_filter p
  rw [← h1, ← h2]
  have CU := Aside0.mk (fun W => implUp p W)
  have HI := Aside0.mk (val_in p)
  clear h1 h2
  generalize val p false = q at CU HI ⊢
  obtain ⟨l, ok⟩ := q
  replace CU : Aside0 (∀ W, Calls Try.prog 26 #[.int .i64 p] W fun e w' => ∃ v, e = .returned (.tuple #[v, .bool ok]) ∧ Kd.S KL 40 w' W.heap.size (fun _ => True) v l ∧ Below W.heap.size W w') := ⟨CU.out⟩
  replace HI : Aside0 (∀ x ∈ l, ∃ c b p : Nat, x = [(c : Int), (b : Int), (p : Int)] ∧ c ≤ 1000 ∧ b ≤ 1000) := ⟨HI.out⟩
  show Calls Try.prog 28 #[.int .i64 p] w fun e w' => ∃ v, e = .returned (.tuple #[v, .bool ok]) ∧ Kd.S KL 40 w' w.heap.size (fun _ => True) v (l.filter fun x => !shared x) ∧ Below w.heap.size w w'
  go_enter Try.func28, Try.ntmps28
  go_wp2_with fail
  refine (CU.out _).mono ?_
  rintro e w1 ⟨v, rfl, hS, hb⟩
  have HS := Aside0.mk hS
  have HB := Aside0.mk hb
  obtain ⟨A, c, hv⟩ := Kd.S_slice hS
  clear hS hb
  subst hv
  go_wp2_with fail
  refine (deleteS KL rfl shared 51 #[] w.heap.size (fun _ => True) _ l w w1 (enters_of Try.func51 (by kernel_rfl) rfl) ?_ HS.out HB.out (Nat.le_refl _)).mono ?_
  · intro W x u hg hx hK
    obtain ⟨c, b, p, rfl, hc, hb⟩ := HI.out x hx
    exact clo51 c b p u W hc hb hK
  · rintro e w2 ⟨v2, rfl, h2, b2⟩
    have H2 := Aside0.mk h2
    have HB2 := Aside0.mk b2
    clear h2 b2
    obtain ⟨A2, c2, hv2⟩ := Kd.S_slice H2.out
    subst hv2
    go_wp2_with fail
    go_ret2
    exact ⟨_, rfl, H2.out, HB2.out⟩
set_option maxHeartbeats 4000000 in
theorem specPr (p : Int) (w : World) : Calls Try.prog 27 #[.int .i64 p] w fun e w' => ∃ v, e = .returned (.tuple #[v, .bool (val p true).2]) ∧ Kd.S KL 40 w' w.heap.size (fun _ => True) v (val p true).1 ∧ Below w.heap.size w w' := by
  unfold val
  by_cases h : 1 ≤ p ∧ p ≤ 200
  · rw [if_pos h]
    have CP := Aside0.mk (fun W => PFnExactWholeLeans.spec_cnPlank.calls p true W (by rw [splank_eq, decide_eq_true h]))
    obtain ⟨n, rfl⟩ : ∃ n : Nat, p = (n : Int) := ⟨p.toNat, by omega⟩
    rw [Int.toNat_natCast]
    have CL := Aside0.mk (fun W => cnAll n true W (by omega))
    clear h
    generalize (All n).filter (keep true) = r at CL ⊢
    go_enter Try.func27, Try.ntmps27
    go_wp2_with fail
    refine (CP.out _).mono ?_
    rintro e wx ⟨rfl, ⟨nd, rfl⟩⟩
    have HB := Aside0.mk (pw_below_drewN (Below.refl w.heap.size w) nd)
    generalize w.drewN nd = w1 at HB ⊢
    go_wp2_with fail
    refine (CL.out _).mono ?_
    rintro e w2 ⟨v, rfl, hS, hb⟩
    have HS := Aside0.mk (Kd.S_lower hS HB.out.size)
    have HB2 := Aside0.mk (below_then HB.out HB.out.size hb)
    obtain ⟨A, c, rfl⟩ := Kd.S_slice hS
    clear hS hb
    go_wp2_with fail
    go_ret2
    exact ⟨_, rfl, HS.out, HB2.out⟩
  · rw [if_neg h]
    have CP := Aside0.mk (fun W => PFnExactWholeLeans.spec_cnPlank.calls p false W (by rw [splank_eq, decide_eq_false h]))
    clear h
    go_enter Try.func27, Try.ntmps27
    go_wp2_with fail
    refine (CP.out _).mono ?_
    rintro e wx ⟨rfl, ⟨nd, rfl⟩⟩
    have HB := Aside0.mk (pw_below_drewN (Below.refl w.heap.size w) nd)
    generalize w.drewN nd = w1 at HB ⊢
    go_wp2_with fail
    go_ret2
    exact ⟨_, rfl, Kd.S_nil _ _ _ _ _, HB.out⟩
end Go.Proofs.Ytnnedicoapdkkaa.WkAll
