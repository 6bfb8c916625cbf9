/- The predicate of (Corner).spots at this program, told of a spot: whether the second plank needs more than there is. Conditions: the two boxes hold the corner and the plank; the spot is a row of two numbers or more. -/
import Derived.Test.YtnnedicoapdkkaaDF2
import Derived.Test.YtnnedicoapdkkaaPFnExactBestSpotx1
namespace Go.Proofs.Ytnnedicoapdkkaa.Clo
set_option linter.unusedVariables false
set_option linter.unusedSimpArgs false
open Go.RowKit Go.Proofs.YtnnedicoapdkkaaW.PrintWords Go.Proofs.YtnnedicoapdkkaaW.PrintLast Go.Proofs.YtnnedicoapdkkaaW.PrintMore

/-- What the second plank needs. -/
def nd (cw cd a b : Int) : Int := wrap64 ((wrap64 ((wrap64 ((wrap64 (2 * cw)) - a)) * (wrap64 ((wrap64 (2 * cw)) - a)))) + (wrap64 ((wrap64 ((wrap64 (2 * cd)) - b)) * (wrap64 ((wrap64 (2 * cd)) - b)))))
def far (cw cd pl : Int) (x : List Int) : Bool := decide (wrap64 (wrap64 (4 * pl) * pl) < nd cw cd (rd x 0) (rd x 1))
theorem needs (cw cd a b : Int) (w : World) : Calls Try.prog 43 #[.agg #[.int .i64 cw, .int .i64 cd], .int .i64 a, .int .i64 b] w fun e w' => e = .returned (.int .i64 (nd cw cd a b)) ∧ Below w.heap.size w w' :=
  PFnExactBestSpot.impl_Corner_needs.calls cw cd a b _ w rfl
/-- A spot's two cells. -/
theorem two {w : World} {x : List Int} {u : Value} (hx : 2 ≤ x.length) (h : (Kd.slice 3 (Kd.int .i64)).K w x [u]) :
    ∃ ad c, u = .slice (some ad) x.length c ∧ w.cell? ad = some (.int .i64 (rd x 0)) ∧ w.cell? ⟨ad.block, ad.off + 1, none⟩ = some (.int .i64 (rd x 1)) := by
  obtain ⟨A, c, he, hl, hC⟩ := h
  obtain ⟨ad, e1, h1⟩ := Kd.at_int hC 0 (by omega) (by omega)
  obtain ⟨ad2, e2, h2⟩ := Kd.at_int hC 1 (by omega) (by omega)
  subst e1
  cases e2
  have e0 : ad.add (0 : Int).toNat = ad := by simp [Addr.add]
  have e1 : ad.add (1 : Int).toNat = ⟨ad.block, ad.off + 1, none⟩ := by simp [Addr.add]
  rw [e0] at h1
  rw [e1] at h2
  exact ⟨ad, c, by injection he, h1, h2⟩
theorem st_below {w0 W W' : World} {a1 a2 a3 a4 a5 : Addr} {v1 v2 v3 v4 v5 : Value}
    (h : W.cell? a1 = some v1 ∧ W.cell? a2 = some v2 ∧ W.cell? a3 = some v3 ∧ W.cell? a4 = some v4 ∧ W.cell? a5 = some v5 ∧ Aside0 (Below w0.heap.size w0 W)) (hb : Below W.heap.size W W') :
    W'.cell? a1 = some v1 ∧ W'.cell? a2 = some v2 ∧ W'.cell? a3 = some v3 ∧ W'.cell? a4 = some v4 ∧ W'.cell? a5 = some v5 ∧ Aside0 (Below w0.heap.size w0 W') :=
  ⟨pw_cell_below hb h.1, pw_cell_below hb h.2.1, pw_cell_below hb h.2.2.1, pw_cell_below hb h.2.2.2.1, pw_cell_below hb h.2.2.2.2.1, ⟨below_then h.2.2.2.2.2.out h.2.2.2.2.2.out.size hb⟩⟩

set_option maxHeartbeats 4000000 in
set_option maxRecDepth 100000 in
theorem spot (cw cd pl : Int) (gc gp : Nat) (x : List Int) (u : Value) (w : World) (hx : 2 ≤ x.length) (hK : (Kd.slice 3 (Kd.int .i64)).K w x [u])
    (h1 : w.cell? ⟨gc, 0, none⟩ = some (.int .i64 cw)) (h2 : w.cell? ⟨gc, 1, none⟩ = some (.int .i64 cd)) (h3 : w.cell? ⟨gp, 0, none⟩ = some (.int .i64 pl)) :
    Calls Try.prog 62 (#[u] ++ #[.pointer (some ⟨gc, 0, none⟩), .pointer (some ⟨gp, 0, none⟩)]) w fun e w' => e = .returned (.bool (far cw cd pl x)) ∧ Below w.heap.size w w' := by
  obtain ⟨ad, c, rfl, h4, h5⟩ := two hx hK
  have hl0 : (0 : Int) < (x.length : Int) := by omega
  have hl1 : (1 : Int) < (x.length : Int) := by omega
  have hln0 : 0 < x.length := by omega
  have hln1 : 1 < x.length := by omega
  have hu26 := Try.underlying26
  unfold far
  generalize rd x 0 = a at h4 ⊢
  generalize rd x 1 = b at h5 ⊢
  clear hK hx
  have HN := Aside0.mk (needs cw cd a b)
  have hF := Aside0.mk (show decide (wrap64 (wrap64 (4 * pl) * pl) < nd cw cd a b) = decide (wrap64 (wrap64 (4 * pl) * pl) < nd cw cd a b) from rfl)
  generalize hN : nd cw cd a b = n at HN ⊢
  clear hF hN
  have hSt : w.drew.cell? ⟨gc, 0, none⟩ = some (.int .i64 cw) ∧ w.drew.cell? ⟨gc, 1, none⟩ = some (.int .i64 cd) ∧ w.drew.cell? ⟨gp, 0, none⟩ = some (.int .i64 pl) ∧ w.drew.cell? ad = some (.int .i64 a) ∧ w.drew.cell? ⟨ad.block, ad.off + 1, none⟩ = some (.int .i64 b) ∧ Aside0 (Below w.heap.size w w.drew) :=
    ⟨h1, h2, h3, h4, h5, ⟨below_drew (Below.refl _ _)⟩⟩
  clear h1 h2 h3 h4 h5
  go_enter Try.func62, Try.ntmps62
  go_upto_region 1 with (fail)
  refine start_ (n := 14) (S := fun w' => w'.cell? ⟨gc, 0, none⟩ = some (.int .i64 cw) ∧ w'.cell? ⟨gc, 1, none⟩ = some (.int .i64 cd) ∧ w'.cell? ⟨gp, 0, none⟩ = some (.int .i64 pl) ∧ w'.cell? ad = some (.int .i64 a) ∧ w'.cell? ⟨ad.block, ad.off + 1, none⟩ = some (.int .i64 b) ∧ Aside0 (Below w.heap.size w w')) (ds := []) #[false, false, false, false, false, false, false, false, false, false, false, false, false, false] (by kernel_rfl) rfl rfl hSt (fun hHeld => ?_)
  refine pure_ (i := 1) (N := some 6) (v := ?_) (a' := ?_) #[false, true, false, false, false, false, false, false, false, false, false, false, false, false] rfl rfl (by kernel_rfl) (fun _ _ _ h => h) (Or.inl ⟨by rfl, ?_⟩) ?_ ?_
  rotate_left
  · intro w'
    go_simp
    with_reducible rfl
  rotate_left
  · simp only [Act.put, List.setIfInBounds_toArray, List.set_cons_zero, List.set_cons_succ, i64_w, i32_w]
    rfl
  refine pure_ (i := 2) (N := some 7) (v := ?_) (a' := ?_) #[false, true, true, false, false, false, false, false, false, false, false, false, false, false] rfl rfl (by kernel_rfl) (fun _ _ _ h => h) (Or.inl ⟨by rfl, ?_⟩) ?_ ?_
  rotate_left
  · intro w'
    go_simp
    with_reducible rfl
  rotate_left
  · simp only [Act.put, List.setIfInBounds_toArray, List.set_cons_zero, List.set_cons_succ, i64_w, i32_w]
    rfl
  refine pure_ (i := 4) (N := some 9) (v := ?_) (a' := ?_) #[false, true, true, false, true, false, false, false, false, false, false, false, false, false] rfl rfl (by kernel_rfl) (fun _ _ _ h => h) (Or.inl ⟨by rfl, ?_⟩) ?_ ?_
  rotate_left
  · intro w'
    go_simp
    with_reducible rfl
  rotate_left
  · simp only [Act.put, List.setIfInBounds_toArray, List.set_cons_zero, List.set_cons_succ, i64_w, i32_w]
    rfl
  refine pure_ (i := 5) (N := some 10) (v := ?_) (a' := ?_) #[false, true, true, false, true, true, false, false, false, false, false, false, false, false] rfl rfl (by kernel_rfl) (fun _ _ _ h => h) (Or.inl ⟨by rfl, ?_⟩) ?_ ?_
  rotate_left
  · intro w'
    go_simp
    with_reducible rfl
  rotate_left
  · simp only [Act.put, List.setIfInBounds_toArray, List.set_cons_zero, List.set_cons_succ, i64_w, i32_w]
    rfl
  refine take_ (i := 0) (N := some 5) (v := ?_) (a' := ?_) #[true, true, true, false, true, true, false, false, false, false, false, false, false, false] rfl rfl (by kernel_rfl) (fun _ _ _ h => h) (Or.inl ⟨by rfl, ?_⟩) hHeld ?_ ?_
  rotate_left
  · rintro w' ⟨s0, s1, s2, s3, s4, s5⟩
    go_simp
    with_reducible rfl
  rotate_left
  · simp only [Act.put, List.setIfInBounds_toArray, List.set_cons_zero, List.set_cons_succ, i64_w, i32_w]
    rfl
  refine take_ (i := 3) (N := some 8) (v := ?_) (a' := ?_) #[true, true, true, true, true, true, false, false, false, false, false, false, false, false] rfl rfl (by kernel_rfl) (fun _ _ _ h => h) (Or.inl ⟨by rfl, ?_⟩) hHeld ?_ ?_
  rotate_left
  · rintro w' ⟨s0, s1, s2, s3, s4, s5⟩
    go_simp
    with_reducible rfl
  rotate_left
  · simp only [Act.put, List.setIfInBounds_toArray, List.set_cons_zero, List.set_cons_succ, i64_w, i32_w]
    rfl
  refine take_ (i := 6) (N := some 11) (v := ?_) (a' := ?_) #[true, true, true, true, true, true, true, false, false, false, false, false, false, false] rfl rfl (by kernel_rfl) (fun _ _ _ h => h) (Or.inl ⟨by rfl, ?_⟩) hHeld ?_ ?_
  rotate_left
  · rintro w' ⟨s0, s1, s2, s3, s4, s5⟩
    go_simp
    with_reducible rfl
  rotate_left
  · simp only [Act.put, List.setIfInBounds_toArray, List.set_cons_zero, List.set_cons_succ, i64_w, i32_w]
    rfl
  refine take_ (i := 8) (N := some 13) (v := ?_) (a' := ?_) #[true, true, true, true, true, true, true, false, true, false, false, false, false, false] rfl rfl (by kernel_rfl) (fun _ _ _ h => h) (Or.inl ⟨by rfl, ?_⟩) hHeld ?_ ?_
  rotate_left
  · rintro w' ⟨s0, s1, s2, s3, s4, s5⟩
    go_simp
    with_reducible rfl
  rotate_left
  · simp only [Act.put, List.setIfInBounds_toArray, List.set_cons_zero, List.set_cons_succ, i64_w, i32_w]
    rfl
  refine pure_ (i := 9) (N := some 14) (v := ?_) (a' := ?_) #[true, true, true, true, true, true, true, false, true, true, false, false, false, false] rfl rfl (by kernel_rfl) (fun _ _ _ h => h) (Or.inl ⟨by rfl, ?_⟩) ?_ ?_
  rotate_left
  · intro w'
    go_simp
    with_reducible rfl
  rotate_left
  · simp only [Act.put, List.setIfInBounds_toArray, List.set_cons_zero, List.set_cons_succ, i64_w, i32_w]
    rfl
  refine take_ (i := 10) (N := some 15) (v := ?_) (a' := ?_) #[true, true, true, true, true, true, true, false, true, true, true, false, false, false] rfl rfl (by kernel_rfl) (fun _ _ _ h => h) (Or.inl ⟨by rfl, ?_⟩) hHeld ?_ ?_
  rotate_left
  · rintro w' ⟨s0, s1, s2, s3, s4, s5⟩
    go_simp
    with_reducible rfl
  rotate_left
  · simp only [Act.put, List.setIfInBounds_toArray, List.set_cons_zero, List.set_cons_succ, i64_w, i32_w]
    rfl
  refine pure_ (i := 11) (N := some 16) (v := ?_) (a' := ?_) #[true, true, true, true, true, true, true, false, true, true, true, true, false, false] rfl rfl (by kernel_rfl) (fun _ _ _ h => h) (Or.inl ⟨by rfl, ?_⟩) ?_ ?_
  rotate_left
  · intro w'
    go_simp
    with_reducible rfl
  rotate_left
  · simp only [Act.put, List.setIfInBounds_toArray, List.set_cons_zero, List.set_cons_succ, i64_w, i32_w]
    rfl
  refine one_ (i := 7) (N := some 12) #[true, true, true, true, true, true, true, true, true, true, true, true, false, false] rfl rfl (by kernel_rfl) (by decide) (fun K hK => ?_)
  refine goes_ Try.func43 (by kernel_rfl) rfl #[.agg #[.int .i64 cw, .int .i64 cd], .int .i64 a, .int .i64 b] (by rfl) rfl rfl (by (try simp only [List.map_toArray, List.map_cons, List.map_nil]); first | done | rfl) ?_
  refine (HN.out _).mono ?_
  rintro e w5 ⟨rfl, hb⟩
  refine ⟨_, rfl, ?_⟩
  refine hK.out _ _ (st_below hHeld hb) (fun hHeld => ?_)
  clear hK K
  refine norm_ (a' := ?_) ?_ ?_
  rotate_left
  · show Act.put _ (some 12) _ = _
    simp only [Act.put, List.setIfInBounds_toArray, List.set_cons_zero, List.set_cons_succ, i64_w, i32_w]
    rfl
  refine pure_ (i := 12) (N := some 17) (v := ?_) (a' := ?_) #[true, true, true, true, true, true, true, true, true, true, true, true, true, false] rfl rfl (by kernel_rfl) (fun _ _ _ h => h) (Or.inl ⟨by rfl, ?_⟩) ?_ ?_
  rotate_left
  · intro w'
    go_simp
    with_reducible rfl
  rotate_left
  · simp only [Act.put, List.setIfInBounds_toArray, List.set_cons_zero, List.set_cons_succ, i64_w, i32_w]
    rfl
  refine pure_ (i := 13) (N := some 4) (v := ?_) (a' := ?_) #[true, true, true, true, true, true, true, true, true, true, true, true, true, true] rfl rfl (by kernel_rfl) (fun _ _ _ h => h) (Or.inl ⟨by rfl, ?_⟩) ?_ ?_
  rotate_left
  · intro w'
    go_simp
    with_reducible rfl
  rotate_left
  · simp only [Act.put, List.setIfInBounds_toArray, List.set_cons_zero, List.set_cons_succ, i64_w, i32_w]
    rfl
  refine done_ (by kernel_rfl) ?_
  obtain ⟨_, _, _, _, _, HB⟩ := hHeld
  go_wp2_with fail
  go_ret
  exact ⟨rfl, HB.out⟩
end Go.Proofs.Ytnnedicoapdkkaa.Clo
