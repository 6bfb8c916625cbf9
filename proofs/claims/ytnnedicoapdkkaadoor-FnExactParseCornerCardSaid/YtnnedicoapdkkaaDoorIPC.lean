/- impl.ParseCorner at this program. Conditions: at most 2^20 bytes; the library's table and error variables stand as laid. -/
import Derived.Test.YtnnedicoapdkkaaDoorCText
namespace Go.Proofs.YtnnedicoapdkkaaDoor.IPC
set_option linter.unusedVariables false
set_option linter.unusedSimpArgs false
open Go.RowKit Go.Joins Go.Proofs.YtnnedicoapdkkaaDoorW.PrintWords Go.Proofs.YtnnedicoapdkkaaDoorW.PrintLast Go.Proofs.YtnnedicoapdkkaaDoorW.PrintMore Numb Rune Nums CText
set_option maxHeartbeats 4000000 in
set_option maxRecDepth 100000 in
theorem bad_none (t : ByteArray) (w : World) (ht : t.size ≤ 1048576) (hv : Vars w) (hr : nums (Lib.goFieldsP isx t) = none) :
    Calls Tryd.prog 5 #[.string t] w fun e w' => e = .returned (.tuple #[.agg #[.int .i64 0, .int .i64 0], .bool false]) ∧ Below w.heap.size w w' := by
  have hu23 := Tryd.underlying23
  have HV := Aside0.mk hv
  have HB := Aside0.mk (Below.refl w.heap.size w)
  have CN := Aside0.mk (fun W => numbers t W ht)
  generalize nums (Lib.goFieldsP isx t) = r at CN hr
  obtain ⟨x, hx⟩ : ∃ x, X = x := ⟨_, rfl⟩
  rw [hx] at CN
  have hx2 : (⟨#[120]⟩ : ByteArray) = x := hx
  go_enter Tryd.func5, Tryd.ntmps5
  try rw [hx2]
  go_wp2_with (first | ((with_reducible refine gate_dst (N := 2) rfl ?_); refine box_event ?hg (N := 2) ?hd (cs := #[.int .i64 0, .int .i64 0]) (t := 23) ?hr ?_; (case hd => rfl); (case hg => rfl); (case hr => first | (go_simp; done) | (go_simp; rfl)); intro g2 hg w1 hbox hb; have n0_ := Aside0.mk (below_step (by repeat (first | (with_reducible first | exact HB.out | apply below_alloc | apply pw_below_drewN | apply below_drew1) | exact HB.out)) hb); have n1_ := Aside0.mk (hbox); have n2_ := Aside0.mk ((by rw [hg]; exact (below_size (by repeat (first | (with_reducible first | exact HB.out | apply below_alloc | apply pw_below_drewN | apply below_drew1) | exact HB.out))) : w.heap.size ≤ g2)); have n4_ : Aside0 (g2 < w1.heap.size) := ⟨blk_lt hbox⟩; clear HB; have HB := n0_; have BK := n1_; have GW := n2_; have GL := n4_; clear n0_ n1_ n2_ n4_; clear hb hbox hg))
  try rw [hx2]
  refine (CN.out _ (HV.out.below HB.out)).mono ?_
  rintro e w2 ⟨v, rfl, hR, hb⟩
  have HB2 := Aside0.mk (below_then HB.out HB.out.size hb)
  have BK2 := Aside0.mk (blk_below BK.out hb)
  have RO := Aside0.mk hR
  clear HB BK hb hR
  have HB := HB2; have BK := BK2; clear HB2 BK2
  subst hr
  simp only [Option.isSome_none]
  have hcz_0 : w2.cell? ⟨g2, 0, none⟩ = some (.int .i64 0) := (blk_cell BK.out 0).trans rfl
  have hcz_1 : w2.cell? ⟨g2, 1, none⟩ = some (.int .i64 0) := (blk_cell BK.out 1).trans rfl
  have hfz_0 := blk_frozen BK.out 0
  have hfz_1 := blk_frozen BK.out 1
  go_wp2_with fail
  refine bodyPost_ret (results_ct rfl _ _ g2 23 #[.int .i64 0, .int .i64 0] (0, 0) _ rfl (by (with_reducible repeat (first | refine blk_drewN ?_ _ | refine blk_drew ?_ | refine blk_alloc ?_ _)); refine blk_put (cs := #[.int .i64 0, .int .i64 0]) ?_ 1 _ rfl; (with_reducible repeat (first | refine blk_drewN ?_ _ | refine blk_drew ?_ | refine blk_alloc ?_ _)); refine blk_put (cs := #[.int .i64 0, .int .i64 0]) ?_ 0 _ rfl; (with_reducible repeat (first | refine blk_drewN ?_ _ | refine blk_drew ?_ | refine blk_alloc ?_ _)); exact BK.out) Tryd.underlying23 rfl (by kernel_rfl)) rfl ?_
  exact ⟨by first | rfl | (simp [errW_none, errW_some] <;> rfl) | (simp [*, errW_none, errW_some] <;> rfl), by repeat (first | (with_reducible first | exact HB.out | apply below_alloc | apply pw_below_drewN | apply below_drew1 | refine below_set ?_ GW.out) | exact HB.out)⟩
set_option maxHeartbeats 4000000 in
set_option maxRecDepth 100000 in
theorem bad_len (t : ByteArray) (l : List Int) (w : World) (ht : t.size ≤ 1048576) (hv : Vars w) (hr : nums (Lib.goFieldsP isx t) = some l) (hl : l.length ≠ 2) :
    Calls Tryd.prog 5 #[.string t] w fun e w' => e = .returned (.tuple #[.agg #[.int .i64 0, .int .i64 0], .bool false]) ∧ Below w.heap.size w w' := by
  have hu23 := Tryd.underlying23
  have HV := Aside0.mk hv
  have HB := Aside0.mk (Below.refl w.heap.size w)
  have CN := Aside0.mk (fun W => numbers t W ht)
  generalize nums (Lib.goFieldsP isx t) = r at CN hr
  obtain ⟨x, hx⟩ : ∃ x, X = x := ⟨_, rfl⟩
  rw [hx] at CN
  have hx2 : (⟨#[120]⟩ : ByteArray) = x := hx
  go_enter Tryd.func5, Tryd.ntmps5
  try rw [hx2]
  go_wp2_with (first | ((with_reducible refine gate_dst (N := 2) rfl ?_); refine box_event ?hg (N := 2) ?hd (cs := #[.int .i64 0, .int .i64 0]) (t := 23) ?hr ?_; (case hd => rfl); (case hg => rfl); (case hr => first | (go_simp; done) | (go_simp; rfl)); intro g2 hg w1 hbox hb; have n0_ := Aside0.mk (below_step (by repeat (first | (with_reducible first | exact HB.out | apply below_alloc | apply pw_below_drewN | apply below_drew1) | exact HB.out)) hb); have n1_ := Aside0.mk (hbox); have n2_ := Aside0.mk ((by rw [hg]; exact (below_size (by repeat (first | (with_reducible first | exact HB.out | apply below_alloc | apply pw_below_drewN | apply below_drew1) | exact HB.out))) : w.heap.size ≤ g2)); have n4_ : Aside0 (g2 < w1.heap.size) := ⟨blk_lt hbox⟩; clear HB; have HB := n0_; have BK := n1_; have GW := n2_; have GL := n4_; clear n0_ n1_ n2_ n4_; clear hb hbox hg))
  try rw [hx2]
  refine (CN.out _ (HV.out.below HB.out)).mono ?_
  rintro e w2 ⟨v, rfl, hR, hb⟩
  have HB2 := Aside0.mk (below_then HB.out HB.out.size hb)
  have BK2 := Aside0.mk (blk_below BK.out hb)
  have RO := Aside0.mk hR
  clear HB BK hb hR
  have HB := HB2; have BK := BK2; clear HB2 BK2
  subst hr
  simp only [Option.isSome_some]
  obtain ⟨AL, cL, rfl⟩ := Kd.R_slice RO.out
  have RO2 : Aside0 (Kd.R (Kd.int .i64) 3 w2 w1.heap.size (fun _ => True) (.slice AL l.length cL) l) := by exact RO
  clear RO
  have hlz : ¬ (l.length : Int) = 2 := by omega
  have hl0 : ((l.length : Int) == 2) = false := beq_eq_false_iff_ne.mpr hlz
  have hl1 : ((l.length : Int) != 2) = true := bne_iff_ne.mpr hlz
  simp only [Option.getD_some]
  have hcz_0 : w2.cell? ⟨g2, 0, none⟩ = some (.int .i64 0) := (blk_cell BK.out 0).trans rfl
  have hcz_1 : w2.cell? ⟨g2, 1, none⟩ = some (.int .i64 0) := (blk_cell BK.out 1).trans rfl
  have hfz_0 := blk_frozen BK.out 0
  have hfz_1 := blk_frozen BK.out 1
  go_wp2_with fail
  refine bodyPost_ret (results_ct rfl _ _ g2 23 #[.int .i64 0, .int .i64 0] (0, 0) _ rfl (by (with_reducible repeat (first | refine blk_drewN ?_ _ | refine blk_drew ?_ | refine blk_alloc ?_ _)); refine blk_put (cs := #[.int .i64 0, .int .i64 0]) ?_ 1 _ rfl; (with_reducible repeat (first | refine blk_drewN ?_ _ | refine blk_drew ?_ | refine blk_alloc ?_ _)); refine blk_put (cs := #[.int .i64 0, .int .i64 0]) ?_ 0 _ rfl; (with_reducible repeat (first | refine blk_drewN ?_ _ | refine blk_drew ?_ | refine blk_alloc ?_ _)); exact BK.out) Tryd.underlying23 rfl (by kernel_rfl)) rfl ?_
  exact ⟨by first | rfl | (simp [errW_none, errW_some] <;> rfl) | (simp [*, errW_none, errW_some] <;> rfl), by repeat (first | (with_reducible first | exact HB.out | apply below_alloc | apply pw_below_drewN | apply below_drew1 | refine below_set ?_ GW.out) | exact HB.out)⟩
abbrev St (w0 : World) (g2 gl : Nat) (a b : Int) (W : World) : Prop :=
  W.cell? ⟨gl, 0, none⟩ = some (.int .i64 a) ∧ W.cell? ⟨gl, 1, none⟩ = some (.int .i64 b) ∧ Aside0 (W.heap[g2]? = some (.cells #[.int .i64 0, .int .i64 0] 23 (0, 0)) ∧ Below w0.heap.size w0 W)
theorem St.below {w0 W W' : World} {g2 gl : Nat} {a b : Int} (h : St w0 g2 gl a b W) (hb : Below W.heap.size W W') : St w0 g2 gl a b W' :=
  ⟨pw_cell_below hb h.1, pw_cell_below hb h.2.1, ⟨blk_below h.2.2.out.1 hb, below_step h.2.2.out.2 hb⟩⟩
theorem St.put {w0 W : World} {g2 gl g : Nat} {a b : Int} (h : St w0 g2 gl a b W) (h1 : gl ≠ g) (h3 : g2 ≠ g) (h4 : w0.heap.size ≤ g) (i : Nat) (u : Value) : St w0 g2 gl a b (W.setCell ⟨g, i, none⟩ u) :=
  ⟨(cell_far (p := ⟨g, i, none⟩) h1 u).trans h.1, (cell_far (p := ⟨g, i, none⟩) h1 u).trans h.2.1, ⟨blk_far h.2.2.out.1 (p := ⟨g, i, none⟩) h3 u, below_set h.2.2.out.2 h4⟩⟩
set_option maxHeartbeats 4000000 in
set_option maxRecDepth 100000 in
theorem good_no (t : ByteArray) (a b : Int) (w : World) (ht : t.size ≤ 1048576) (hv : Vars w) (hr : nums (Lib.goFieldsP isx t) = some [a, b]) (hab : PFnExactParseCorner.impl_IsCorner.f a b = some false) :
    Calls Tryd.prog 5 #[.string t] w fun e w' => e = .returned (.tuple #[.agg #[.int .i64 0, .int .i64 0], .bool false]) ∧ Below w.heap.size w w' := by
  have CI := Aside0.mk (fun W => PFnExactParseCorner.impl_IsCorner.calls a b false W hab)
  clear hab
  have hu23 := Tryd.underlying23
  have HV := Aside0.mk hv
  have HB := Aside0.mk (Below.refl w.heap.size w)
  have CN := Aside0.mk (fun W => numbers t W ht)
  generalize nums (Lib.goFieldsP isx t) = r at CN hr
  obtain ⟨x, hx⟩ : ∃ x, X = x := ⟨_, rfl⟩
  rw [hx] at CN
  have hx2 : (⟨#[120]⟩ : ByteArray) = x := hx
  go_enter Tryd.func5, Tryd.ntmps5
  try rw [hx2]
  go_wp2_with (first | ((with_reducible refine gate_dst (N := 2) rfl ?_); refine box_event ?hg (N := 2) ?hd (cs := #[.int .i64 0, .int .i64 0]) (t := 23) ?hr ?_; (case hd => rfl); (case hg => rfl); (case hr => first | (go_simp; done) | (go_simp; rfl)); intro g2 hg w1 hbox hb; have n0_ := Aside0.mk (below_step (by repeat (first | (with_reducible first | exact HB.out | apply below_alloc | apply pw_below_drewN | apply below_drew1) | exact HB.out)) hb); have n1_ := Aside0.mk (hbox); have n2_ := Aside0.mk ((by rw [hg]; exact (below_size (by repeat (first | (with_reducible first | exact HB.out | apply below_alloc | apply pw_below_drewN | apply below_drew1) | exact HB.out))) : w.heap.size ≤ g2)); have n4_ : Aside0 (g2 < w1.heap.size) := ⟨blk_lt hbox⟩; clear HB; have HB := n0_; have BK := n1_; have GW := n2_; have GL := n4_; clear n0_ n1_ n2_ n4_; clear hb hbox hg))
  try rw [hx2]
  refine (CN.out _ (HV.out.below HB.out)).mono ?_
  rintro e w2 ⟨v, rfl, hR, hb⟩
  have HB2 := Aside0.mk (below_then HB.out HB.out.size hb)
  have BK2 := Aside0.mk (blk_below BK.out hb)
  have RO := Aside0.mk hR
  clear HB BK hb hR
  have HB := HB2; have BK := BK2; clear HB2 BK2
  subst hr
  simp only [Option.isSome_some]
  obtain ⟨AL, cL, rfl⟩ := Kd.R_slice RO.out
  have RO2 : Kd.R (Kd.int .i64) 3 w2 w1.heap.size (fun _ => True) (.slice AL 2 cL) [a, b] := by exact RO.out
  clear RO
  simp only [Option.getD_some]
  obtain ⟨ad, rfl⟩ : ∃ ad, AL = some ad := by
    obtain ⟨g, cap, hv, _⟩ := Kd.R_form RO2 (by simp)
    injection hv with hA
    exact ⟨_, hA⟩
  obtain ⟨gl, rfl⟩ := Kd.R_head RO2
  have hx0 : w2.cell? ⟨gl, 0, none⟩ = some (.int .i64 a) := by
    obtain ⟨c, _, hM, hcc⟩ := Kd.R_getA RO2 a 0 (by omega) (by omega)
    have hc : c = [.int .i64 a] := hM
    have := hcc 0 (.int .i64 a) (by rw [hc]; rfl)
    rwa [show (0 : Int).toNat * (Kd.int .i64).sz + 0 = 0 by rfl, add_plain] at this
  have hx1 : w2.cell? ⟨gl, 1, none⟩ = some (.int .i64 b) := by
    obtain ⟨c, _, hM, hcc⟩ := Kd.R_getA RO2 a 1 (by omega) (by omega)
    have hc : c = [.int .i64 b] := hM
    have := hcc 0 (.int .i64 b) (by rw [hc]; rfl)
    rwa [show (1 : Int).toNat * (Kd.int .i64).sz + 0 = 1 by rfl, add_plain] at this
  have hSt0 : St w g2 gl a b w2.drew := ⟨hx0, hx1, ⟨BK.out, below_drew1 HB.out⟩⟩
  clear RO2 hx0 hx1 HB BK
  go_wp2_with fail
  refine start_ (n := 9) (S := St w g2 gl a b) (ds := []) #[false, false, false, false, false, false, false, false, false] (by kernel_rfl) rfl rfl hSt0 (fun hHeld => ?_)
  refine pure_ (i := 0) (N := some 20) (v := ?_) (a' := ?_) #[true, false, false, false, false, false, false, false, false] rfl rfl (by kernel_rfl) (fun _ _ _ h => h) (Or.inl ⟨by rfl, ?_⟩) ?_ ?_
  rotate_left
  · intro w'
    go_simp
    with_reducible rfl
  rotate_left
  · simp only [Act.put, List.setIfInBounds_toArray, List.set_cons_zero, List.set_cons_succ, i64_w, i32_w]
    rfl
  refine pure_ (i := 1) (N := some 21) (v := ?_) (a' := ?_) #[true, true, false, false, false, false, false, false, false] rfl rfl (by kernel_rfl) (fun _ _ _ h => h) (Or.inl ⟨by rfl, ?_⟩) ?_ ?_
  rotate_left
  · intro w'
    go_simp
    with_reducible rfl
  rotate_left
  · simp only [Act.put, List.setIfInBounds_toArray, List.set_cons_zero, List.set_cons_succ, i64_w, i32_w]
    rfl
  refine pure_ (i := 3) (N := some 23) (v := ?_) (a' := ?_) #[true, true, false, true, false, false, false, false, false] rfl rfl (by kernel_rfl) (fun _ _ _ h => h) (Or.inl ⟨by rfl, ?_⟩) ?_ ?_
  rotate_left
  · intro w'
    go_simp
    with_reducible rfl
  rotate_left
  · simp only [Act.put, List.setIfInBounds_toArray, List.set_cons_zero, List.set_cons_succ, i64_w, i32_w]
    rfl
  refine pure_ (i := 4) (N := some 24) (v := ?_) (a' := ?_) #[true, true, false, true, true, false, false, false, false] rfl rfl (by kernel_rfl) (fun _ _ _ h => h) (Or.inl ⟨by rfl, ?_⟩) ?_ ?_
  rotate_left
  · intro w'
    go_simp
    with_reducible rfl
  rotate_left
  · simp only [Act.put, List.setIfInBounds_toArray, List.set_cons_zero, List.set_cons_succ, i64_w, i32_w]
    rfl
  refine take_ (i := 2) (N := some 22) (v := ?_) (a' := ?_) #[true, true, true, true, true, false, false, false, false] rfl rfl (by kernel_rfl) (fun _ _ _ h => h) (Or.inl ⟨by rfl, ?_⟩) hHeld ?_ ?_
  rotate_left
  · rintro w' ⟨s0, s1, s2⟩
    go_simp
    with_reducible rfl
  rotate_left
  · simp only [Act.put, List.setIfInBounds_toArray, List.set_cons_zero, List.set_cons_succ, i64_w, i32_w]
    rfl
  refine take_ (i := 5) (N := some 25) (v := ?_) (a' := ?_) #[true, true, true, true, true, true, false, false, false] rfl rfl (by kernel_rfl) (fun _ _ _ h => h) (Or.inl ⟨by rfl, ?_⟩) hHeld ?_ ?_
  rotate_left
  · rintro w' ⟨s0, s1, s2⟩
    go_simp
    with_reducible rfl
  rotate_left
  · simp only [Act.put, List.setIfInBounds_toArray, List.set_cons_zero, List.set_cons_succ, i64_w, i32_w]
    rfl
  refine pure_ (i := 6) (N := some 26) (v := ?_) (a' := ?_) #[true, true, true, true, true, true, true, false, false] rfl rfl (by kernel_rfl) (fun _ _ _ h => h) (Or.inl ⟨by rfl, ?_⟩) ?_ ?_
  rotate_left
  · intro w'
    go_simp
    with_reducible rfl
  rotate_left
  · simp only [Act.put, List.setIfInBounds_toArray, List.set_cons_zero, List.set_cons_succ, i64_w, i32_w]
    rfl
  refine one_ (i := 7) (N := some 6) #[true, true, true, true, true, true, true, true, false] rfl rfl (by kernel_rfl) (by decide) (fun K hK => ?_)
  refine box_step ?hg (N := 6) ?hd (cs := #[.int .i64 0, .int .i64 0]) (t := 23) ?hr ?_; (case hd => rfl); (case hg => rfl); (case hr => first | (go_simp; done) | (go_simp; rfl))
  intro g6 hg w3 hbox hb
  have hSt := Aside0.mk (hHeld.below hb)
  have BK6 := Aside0.mk hbox
  have NA : Aside0 (gl ≠ g6) := ⟨by rw [hg]; exact Nat.ne_of_lt (World.block_lt_of_cell? _ ⟨gl, 0, none⟩ hHeld.1)⟩
  have N2 : Aside0 (g2 ≠ g6) := ⟨by rw [hg]; exact Nat.ne_of_lt (blk_lt hHeld.2.2.out.1)⟩
  have N6 : Aside0 (g6 ≠ g2) := ⟨fun e_ => N2.out e_.symm⟩
  have GE6 : Aside0 (w.heap.size ≤ g6) := ⟨by rw [hg]; exact hHeld.2.2.out.2.size⟩
  clear hbox hb hg hHeld
  refine hK.out _ _ hSt.out (fun hHeld => ?_)
  clear hK K
  refine norm_ (a' := ?_) ?_ ?_
  rotate_left
  · show Act.put _ (some 6) _ = _
    simp only [Act.put, List.setIfInBounds_toArray, List.set_cons_zero, List.set_cons_succ, i64_w, i32_w]
    rfl
  refine one_ (i := 8) (N := none) #[true, true, true, true, true, true, true, true, true] rfl rfl (by kernel_rfl) (by decide) (fun K hK => ?_)
  have hs0 : w3.cell? ⟨g6, 0, none⟩ = some (.int .i64 0) := (blk_cell BK6.out 0).trans rfl
  have hs1 : w3.cell? ⟨g6, 1, none⟩ = some (.int .i64 0) := (blk_cell BK6.out 1).trans rfl
  have hf0 := blk_frozen BK6.out 0
  have hf1 := blk_frozen BK6.out 1
  refine skip_ (w1 := ?_) (by rfl) rfl ?_ ?_
  rotate_left
  · go_simp
    rfl
  refine hK.out _ _ ((hHeld.put NA.out N2.out GE6.out 0 _).put NA.out N2.out GE6.out 1 _) (fun hHeld => ?_)
  clear hK K
  have BK7 := Aside0.mk (blk_put (cs' := #[.int .i64 a, .int .i64 b]) (blk_put (cs' := #[.int .i64 a, .int .i64 0]) BK6.out 0 (.int .i64 a) rfl) 1 (.int .i64 b) rfl)
  clear hs0 hs1 hf0 hf1 BK6 hSt
  refine done_ (by kernel_rfl) ?_
  obtain ⟨_, _, hq⟩ := hHeld
  have HB := Aside0.mk hq.out.2
  have BK := Aside0.mk hq.out.1
  clear hq
  generalize hW : (w3.setCell ⟨g6, 0, none⟩ (.int .i64 a)).setCell ⟨g6, 1, none⟩ (.int .i64 b) = w4 at BK7 HB BK ⊢
  clear hW
  have hq0 : w4.cell? ⟨g6, 0, none⟩ = some (.int .i64 a) := (blk_cell BK7.out 0).trans rfl
  have hq1 : w4.cell? ⟨g6, 1, none⟩ = some (.int .i64 b) := (blk_cell BK7.out 1).trans rfl
  go_wp2_with fail
  refine (CI.out _).mono ?_
  rintro e w5 ⟨rfl, hb⟩
  have HB5 := Aside0.mk (below_step HB.out hb)
  have BK5 := Aside0.mk (blk_below BK.out hb)
  have BK75 := Aside0.mk (blk_below BK7.out hb)
  clear HB BK BK7 hb hq0 hq1
  have HB := HB5; have BK := BK5; have BK7 := BK75; clear HB5 BK5 BK75
  have hq0 : w5.cell? ⟨g6, 0, none⟩ = some (.int .i64 a) := (blk_cell BK7.out 0).trans rfl
  have hq1 : w5.cell? ⟨g6, 1, none⟩ = some (.int .i64 b) := (blk_cell BK7.out 1).trans rfl
  have hcz_0 : w5.cell? ⟨g2, 0, none⟩ = some (.int .i64 0) := (blk_cell BK.out 0).trans rfl
  have hcz_1 : w5.cell? ⟨g2, 1, none⟩ = some (.int .i64 0) := (blk_cell BK.out 1).trans rfl
  have hfz_0 := blk_frozen BK.out 0
  have hfz_1 := blk_frozen BK.out 1
  go_wp2_with fail
  refine bodyPost_ret (results_ct rfl _ _ g2 23 #[.int .i64 0, .int .i64 0] (0, 0) _ rfl (by (with_reducible repeat (first | refine blk_drewN ?_ _ | refine blk_drew ?_ | refine blk_alloc ?_ _)); refine blk_put (cs := #[.int .i64 0, .int .i64 0]) ?_ 1 _ rfl; (with_reducible repeat (first | refine blk_drewN ?_ _ | refine blk_drew ?_ | refine blk_alloc ?_ _)); refine blk_put (cs := #[.int .i64 0, .int .i64 0]) ?_ 0 _ rfl; (with_reducible repeat (first | refine blk_drewN ?_ _ | refine blk_drew ?_ | refine blk_alloc ?_ _)); exact BK.out) Tryd.underlying23 rfl (by kernel_rfl)) rfl ?_
  exact ⟨by first | rfl | (simp [errW_none, errW_some] <;> rfl) | (simp [*, errW_none, errW_some] <;> rfl), by repeat (first | (with_reducible first | exact HB.out | apply below_alloc | apply pw_below_drewN | apply below_drew1 | refine below_set ?_ GW.out) | exact HB.out)⟩
set_option maxHeartbeats 4000000 in
set_option maxRecDepth 100000 in
theorem good_ne (t : ByteArray) (a b : Int) (w : World) (ht : t.size ≤ 1048576) (hv : Vars w) (hr : nums (Lib.goFieldsP isx t) = some [a, b]) (h1 : 1 ≤ a) (h2 : a ≤ 100) (h3 : 1 ≤ b) (h4 : b ≤ 100) (hab : PFnExactParseCorner.impl_IsCorner.f a b = some true) (hne : text a b ≠ t) :
    Calls Tryd.prog 5 #[.string t] w fun e w' => e = .returned (.tuple #[.agg #[.int .i64 0, .int .i64 0], .bool false]) ∧ Below w.heap.size w w' := by
  have CI := Aside0.mk (fun W => PFnExactParseCorner.impl_IsCorner.calls a b true W hab)
  have CT := Aside0.mk (fun W (hb : Below w.heap.size w W) => cornerText a b W h1 h2 h3 h4 (hv.below hb))
  obtain ⟨u, hu⟩ : ∃ u, text a b = u := ⟨_, rfl⟩
  rw [hu] at CT
  have hcmp : ¬ u.toList = t.toList := by
    rw [ByteArray.toList_eq, ByteArray.toList_eq]
    intro e
    apply hne
    rw [hu]
    clear hu CT
    obtain ⟨⟨x⟩⟩ := u
    obtain ⟨⟨y⟩⟩ := t
    exact congrArg (fun l => (⟨⟨l⟩⟩ : ByteArray)) e
  have hcmp1 : (u.toList != t.toList) = true := bne_iff_ne.mpr hcmp
  have hcmp2 : (u.toList == t.toList) = false := beq_eq_false_iff_ne.mpr hcmp
  have hcmp3 : decide (u.toList = t.toList) = false := decide_eq_false hcmp
  clear hu hne
  clear hab h1 h2 h3 h4
  have hu23 := Tryd.underlying23
  have HV := Aside0.mk hv
  have HB := Aside0.mk (Below.refl w.heap.size w)
  have CN := Aside0.mk (fun W => numbers t W ht)
  generalize nums (Lib.goFieldsP isx t) = r at CN hr
  obtain ⟨x, hx⟩ : ∃ x, X = x := ⟨_, rfl⟩
  rw [hx] at CN
  have hx2 : (⟨#[120]⟩ : ByteArray) = x := hx
  go_enter Tryd.func5, Tryd.ntmps5
  try rw [hx2]
  go_wp2_with (first | ((with_reducible refine gate_dst (N := 2) rfl ?_); refine box_event ?hg (N := 2) ?hd (cs := #[.int .i64 0, .int .i64 0]) (t := 23) ?hr ?_; (case hd => rfl); (case hg => rfl); (case hr => first | (go_simp; done) | (go_simp; rfl)); intro g2 hg w1 hbox hb; have n0_ := Aside0.mk (below_step (by repeat (first | (with_reducible first | exact HB.out | apply below_alloc | apply pw_below_drewN | apply below_drew1) | exact HB.out)) hb); have n1_ := Aside0.mk (hbox); have n2_ := Aside0.mk ((by rw [hg]; exact (below_size (by repeat (first | (with_reducible first | exact HB.out | apply below_alloc | apply pw_below_drewN | apply below_drew1) | exact HB.out))) : w.heap.size ≤ g2)); have n4_ : Aside0 (g2 < w1.heap.size) := ⟨blk_lt hbox⟩; clear HB; have HB := n0_; have BK := n1_; have GW := n2_; have GL := n4_; clear n0_ n1_ n2_ n4_; clear hb hbox hg))
  try rw [hx2]
  refine (CN.out _ (HV.out.below HB.out)).mono ?_
  rintro e w2 ⟨v, rfl, hR, hb⟩
  have HB2 := Aside0.mk (below_then HB.out HB.out.size hb)
  have BK2 := Aside0.mk (blk_below BK.out hb)
  have RO := Aside0.mk hR
  clear HB BK hb hR
  have HB := HB2; have BK := BK2; clear HB2 BK2
  subst hr
  simp only [Option.isSome_some]
  obtain ⟨AL, cL, rfl⟩ := Kd.R_slice RO.out
  have RO2 : Kd.R (Kd.int .i64) 3 w2 w1.heap.size (fun _ => True) (.slice AL 2 cL) [a, b] := by exact RO.out
  clear RO
  simp only [Option.getD_some]
  obtain ⟨ad, rfl⟩ : ∃ ad, AL = some ad := by
    obtain ⟨g, cap, hv, _⟩ := Kd.R_form RO2 (by simp)
    injection hv with hA
    exact ⟨_, hA⟩
  obtain ⟨gl, rfl⟩ := Kd.R_head RO2
  have hx0 : w2.cell? ⟨gl, 0, none⟩ = some (.int .i64 a) := by
    obtain ⟨c, _, hM, hcc⟩ := Kd.R_getA RO2 a 0 (by omega) (by omega)
    have hc : c = [.int .i64 a] := hM
    have := hcc 0 (.int .i64 a) (by rw [hc]; rfl)
    rwa [show (0 : Int).toNat * (Kd.int .i64).sz + 0 = 0 by rfl, add_plain] at this
  have hx1 : w2.cell? ⟨gl, 1, none⟩ = some (.int .i64 b) := by
    obtain ⟨c, _, hM, hcc⟩ := Kd.R_getA RO2 a 1 (by omega) (by omega)
    have hc : c = [.int .i64 b] := hM
    have := hcc 0 (.int .i64 b) (by rw [hc]; rfl)
    rwa [show (1 : Int).toNat * (Kd.int .i64).sz + 0 = 1 by rfl, add_plain] at this
  have hSt0 : St w g2 gl a b w2.drew := ⟨hx0, hx1, ⟨BK.out, below_drew1 HB.out⟩⟩
  clear RO2 hx0 hx1 HB BK
  go_wp2_with fail
  refine start_ (n := 9) (S := St w g2 gl a b) (ds := []) #[false, false, false, false, false, false, false, false, false] (by kernel_rfl) rfl rfl hSt0 (fun hHeld => ?_)
  refine pure_ (i := 0) (N := some 20) (v := ?_) (a' := ?_) #[true, false, false, false, false, false, false, false, false] rfl rfl (by kernel_rfl) (fun _ _ _ h => h) (Or.inl ⟨by rfl, ?_⟩) ?_ ?_
  rotate_left
  · intro w'
    go_simp
    with_reducible rfl
  rotate_left
  · simp only [Act.put, List.setIfInBounds_toArray, List.set_cons_zero, List.set_cons_succ, i64_w, i32_w]
    rfl
  refine pure_ (i := 1) (N := some 21) (v := ?_) (a' := ?_) #[true, true, false, false, false, false, false, false, false] rfl rfl (by kernel_rfl) (fun _ _ _ h => h) (Or.inl ⟨by rfl, ?_⟩) ?_ ?_
  rotate_left
  · intro w'
    go_simp
    with_reducible rfl
  rotate_left
  · simp only [Act.put, List.setIfInBounds_toArray, List.set_cons_zero, List.set_cons_succ, i64_w, i32_w]
    rfl
  refine pure_ (i := 3) (N := some 23) (v := ?_) (a' := ?_) #[true, true, false, true, false, false, false, false, false] rfl rfl (by kernel_rfl) (fun _ _ _ h => h) (Or.inl ⟨by rfl, ?_⟩) ?_ ?_
  rotate_left
  · intro w'
    go_simp
    with_reducible rfl
  rotate_left
  · simp only [Act.put, List.setIfInBounds_toArray, List.set_cons_zero, List.set_cons_succ, i64_w, i32_w]
    rfl
  refine pure_ (i := 4) (N := some 24) (v := ?_) (a' := ?_) #[true, true, false, true, true, false, false, false, false] rfl rfl (by kernel_rfl) (fun _ _ _ h => h) (Or.inl ⟨by rfl, ?_⟩) ?_ ?_
  rotate_left
  · intro w'
    go_simp
    with_reducible rfl
  rotate_left
  · simp only [Act.put, List.setIfInBounds_toArray, List.set_cons_zero, List.set_cons_succ, i64_w, i32_w]
    rfl
  refine take_ (i := 2) (N := some 22) (v := ?_) (a' := ?_) #[true, true, true, true, true, false, false, false, false] rfl rfl (by kernel_rfl) (fun _ _ _ h => h) (Or.inl ⟨by rfl, ?_⟩) hHeld ?_ ?_
  rotate_left
  · rintro w' ⟨s0, s1, s2⟩
    go_simp
    with_reducible rfl
  rotate_left
  · simp only [Act.put, List.setIfInBounds_toArray, List.set_cons_zero, List.set_cons_succ, i64_w, i32_w]
    rfl
  refine take_ (i := 5) (N := some 25) (v := ?_) (a' := ?_) #[true, true, true, true, true, true, false, false, false] rfl rfl (by kernel_rfl) (fun _ _ _ h => h) (Or.inl ⟨by rfl, ?_⟩) hHeld ?_ ?_
  rotate_left
  · rintro w' ⟨s0, s1, s2⟩
    go_simp
    with_reducible rfl
  rotate_left
  · simp only [Act.put, List.setIfInBounds_toArray, List.set_cons_zero, List.set_cons_succ, i64_w, i32_w]
    rfl
  refine pure_ (i := 6) (N := some 26) (v := ?_) (a' := ?_) #[true, true, true, true, true, true, true, false, false] rfl rfl (by kernel_rfl) (fun _ _ _ h => h) (Or.inl ⟨by rfl, ?_⟩) ?_ ?_
  rotate_left
  · intro w'
    go_simp
    with_reducible rfl
  rotate_left
  · simp only [Act.put, List.setIfInBounds_toArray, List.set_cons_zero, List.set_cons_succ, i64_w, i32_w]
    rfl
  refine one_ (i := 7) (N := some 6) #[true, true, true, true, true, true, true, true, false] rfl rfl (by kernel_rfl) (by decide) (fun K hK => ?_)
  refine box_step ?hg (N := 6) ?hd (cs := #[.int .i64 0, .int .i64 0]) (t := 23) ?hr ?_; (case hd => rfl); (case hg => rfl); (case hr => first | (go_simp; done) | (go_simp; rfl))
  intro g6 hg w3 hbox hb
  have hSt := Aside0.mk (hHeld.below hb)
  have BK6 := Aside0.mk hbox
  have NA : Aside0 (gl ≠ g6) := ⟨by rw [hg]; exact Nat.ne_of_lt (World.block_lt_of_cell? _ ⟨gl, 0, none⟩ hHeld.1)⟩
  have N2 : Aside0 (g2 ≠ g6) := ⟨by rw [hg]; exact Nat.ne_of_lt (blk_lt hHeld.2.2.out.1)⟩
  have N6 : Aside0 (g6 ≠ g2) := ⟨fun e_ => N2.out e_.symm⟩
  have GE6 : Aside0 (w.heap.size ≤ g6) := ⟨by rw [hg]; exact hHeld.2.2.out.2.size⟩
  clear hbox hb hg hHeld
  refine hK.out _ _ hSt.out (fun hHeld => ?_)
  clear hK K
  refine norm_ (a' := ?_) ?_ ?_
  rotate_left
  · show Act.put _ (some 6) _ = _
    simp only [Act.put, List.setIfInBounds_toArray, List.set_cons_zero, List.set_cons_succ, i64_w, i32_w]
    rfl
  refine one_ (i := 8) (N := none) #[true, true, true, true, true, true, true, true, true] rfl rfl (by kernel_rfl) (by decide) (fun K hK => ?_)
  have hs0 : w3.cell? ⟨g6, 0, none⟩ = some (.int .i64 0) := (blk_cell BK6.out 0).trans rfl
  have hs1 : w3.cell? ⟨g6, 1, none⟩ = some (.int .i64 0) := (blk_cell BK6.out 1).trans rfl
  have hf0 := blk_frozen BK6.out 0
  have hf1 := blk_frozen BK6.out 1
  refine skip_ (w1 := ?_) (by rfl) rfl ?_ ?_
  rotate_left
  · go_simp
    rfl
  refine hK.out _ _ ((hHeld.put NA.out N2.out GE6.out 0 _).put NA.out N2.out GE6.out 1 _) (fun hHeld => ?_)
  clear hK K
  have BK7 := Aside0.mk (blk_put (cs' := #[.int .i64 a, .int .i64 b]) (blk_put (cs' := #[.int .i64 a, .int .i64 0]) BK6.out 0 (.int .i64 a) rfl) 1 (.int .i64 b) rfl)
  clear hs0 hs1 hf0 hf1 BK6 hSt
  refine done_ (by kernel_rfl) ?_
  obtain ⟨_, _, hq⟩ := hHeld
  have HB := Aside0.mk hq.out.2
  have BK := Aside0.mk hq.out.1
  clear hq
  generalize hW : (w3.setCell ⟨g6, 0, none⟩ (.int .i64 a)).setCell ⟨g6, 1, none⟩ (.int .i64 b) = w4 at BK7 HB BK ⊢
  clear hW
  have hq0 : w4.cell? ⟨g6, 0, none⟩ = some (.int .i64 a) := (blk_cell BK7.out 0).trans rfl
  have hq1 : w4.cell? ⟨g6, 1, none⟩ = some (.int .i64 b) := (blk_cell BK7.out 1).trans rfl
  go_wp2_with fail
  refine (CI.out _).mono ?_
  rintro e w5 ⟨rfl, hb⟩
  have HB5 := Aside0.mk (below_step HB.out hb)
  have BK5 := Aside0.mk (blk_below BK.out hb)
  have BK75 := Aside0.mk (blk_below BK7.out hb)
  clear HB BK BK7 hb hq0 hq1
  have HB := HB5; have BK := BK5; have BK7 := BK75; clear HB5 BK5 BK75
  have hq0 : w5.cell? ⟨g6, 0, none⟩ = some (.int .i64 a) := (blk_cell BK7.out 0).trans rfl
  have hq1 : w5.cell? ⟨g6, 1, none⟩ = some (.int .i64 b) := (blk_cell BK7.out 1).trans rfl
  go_wp2_with fail
  refine (CT.out _ HB.out).mono ?_
  rintro e w6 ⟨rfl, hb⟩
  have HB5 := Aside0.mk (below_step HB.out hb)
  have BK5 := Aside0.mk (blk_below BK.out hb)
  have BK75 := Aside0.mk (blk_below BK7.out hb)
  clear HB BK BK7 hb hq0 hq1
  have HB := HB5; have BK := BK5; have BK7 := BK75; clear HB5 BK5 BK75
  have hq0 : w6.cell? ⟨g6, 0, none⟩ = some (.int .i64 a) := (blk_cell BK7.out 0).trans rfl
  have hq1 : w6.cell? ⟨g6, 1, none⟩ = some (.int .i64 b) := (blk_cell BK7.out 1).trans rfl
  have hcz_0 : w6.cell? ⟨g2, 0, none⟩ = some (.int .i64 0) := (blk_cell BK.out 0).trans rfl
  have hcz_1 : w6.cell? ⟨g2, 1, none⟩ = some (.int .i64 0) := (blk_cell BK.out 1).trans rfl
  have hfz_0 := blk_frozen BK.out 0
  have hfz_1 := blk_frozen BK.out 1
  go_wp2_with fail
  refine bodyPost_ret (results_ct rfl _ _ g2 23 #[.int .i64 0, .int .i64 0] (0, 0) _ rfl (by (with_reducible repeat (first | refine blk_drewN ?_ _ | refine blk_drew ?_ | refine blk_alloc ?_ _)); refine blk_put (cs := #[.int .i64 0, .int .i64 0]) ?_ 1 _ rfl; (with_reducible repeat (first | refine blk_drewN ?_ _ | refine blk_drew ?_ | refine blk_alloc ?_ _)); refine blk_put (cs := #[.int .i64 0, .int .i64 0]) ?_ 0 _ rfl; (with_reducible repeat (first | refine blk_drewN ?_ _ | refine blk_drew ?_ | refine blk_alloc ?_ _)); exact BK.out) Tryd.underlying23 rfl (by kernel_rfl)) rfl ?_
  exact ⟨by first | rfl | (simp [errW_none, errW_some] <;> rfl) | (simp [*, errW_none, errW_some] <;> rfl), by repeat (first | (with_reducible first | exact HB.out | apply below_alloc | apply pw_below_drewN | apply below_drew1 | refine below_set ?_ GW.out) | exact HB.out)⟩
set_option maxHeartbeats 4000000 in
set_option maxRecDepth 100000 in
theorem good_yes (t : ByteArray) (a b : Int) (w : World) (ht : t.size ≤ 1048576) (hv : Vars w) (hr : nums (Lib.goFieldsP isx t) = some [a, b]) (h1 : 1 ≤ a) (h2 : a ≤ 100) (h3 : 1 ≤ b) (h4 : b ≤ 100) (hab : PFnExactParseCorner.impl_IsCorner.f a b = some true) (heq : text a b = t) :
    Calls Tryd.prog 5 #[.string t] w fun e w' => e = .returned (.tuple #[.agg #[.int .i64 a, .int .i64 b], .bool true]) ∧ Below w.heap.size w w' := by
  have CI := Aside0.mk (fun W => PFnExactParseCorner.impl_IsCorner.calls a b true W hab)
  have CT := Aside0.mk (fun W (hb : Below w.heap.size w W) => cornerText a b W h1 h2 h3 h4 (hv.below hb))
  obtain ⟨u, hu⟩ : ∃ u, text a b = u := ⟨_, rfl⟩
  rw [hu] at CT
  have hcmp : (t.toList != t.toList) = false := bne_self_eq_false _
  obtain rfl : u = t := hu.symm.trans heq
  clear hu heq
  clear hab h1 h2 h3 h4
  have hu23 := Tryd.underlying23
  have HV := Aside0.mk hv
  have HB := Aside0.mk (Below.refl w.heap.size w)
  have CN := Aside0.mk (fun W => numbers u W ht)
  generalize nums (Lib.goFieldsP isx u) = r at CN hr
  obtain ⟨x, hx⟩ : ∃ x, X = x := ⟨_, rfl⟩
  rw [hx] at CN
  have hx2 : (⟨#[120]⟩ : ByteArray) = x := hx
  go_enter Tryd.func5, Tryd.ntmps5
  try rw [hx2]
  go_wp2_with (first | ((with_reducible refine gate_dst (N := 2) rfl ?_); refine box_event ?hg (N := 2) ?hd (cs := #[.int .i64 0, .int .i64 0]) (t := 23) ?hr ?_; (case hd => rfl); (case hg => rfl); (case hr => first | (go_simp; done) | (go_simp; rfl)); intro g2 hg w1 hbox hb; have n0_ := Aside0.mk (below_step (by repeat (first | (with_reducible first | exact HB.out | apply below_alloc | apply pw_below_drewN | apply below_drew1) | exact HB.out)) hb); have n1_ := Aside0.mk (hbox); have n2_ := Aside0.mk ((by rw [hg]; exact (below_size (by repeat (first | (with_reducible first | exact HB.out | apply below_alloc | apply pw_below_drewN | apply below_drew1) | exact HB.out))) : w.heap.size ≤ g2)); have n4_ : Aside0 (g2 < w1.heap.size) := ⟨blk_lt hbox⟩; clear HB; have HB := n0_; have BK := n1_; have GW := n2_; have GL := n4_; clear n0_ n1_ n2_ n4_; clear hb hbox hg))
  try rw [hx2]
  refine (CN.out _ (HV.out.below HB.out)).mono ?_
  rintro e w2 ⟨v, rfl, hR, hb⟩
  have HB2 := Aside0.mk (below_then HB.out HB.out.size hb)
  have BK2 := Aside0.mk (blk_below BK.out hb)
  have RO := Aside0.mk hR
  clear HB BK hb hR
  have HB := HB2; have BK := BK2; clear HB2 BK2
  subst hr
  simp only [Option.isSome_some]
  obtain ⟨AL, cL, rfl⟩ := Kd.R_slice RO.out
  have RO2 : Kd.R (Kd.int .i64) 3 w2 w1.heap.size (fun _ => True) (.slice AL 2 cL) [a, b] := by exact RO.out
  clear RO
  simp only [Option.getD_some]
  obtain ⟨ad, rfl⟩ : ∃ ad, AL = some ad := by
    obtain ⟨g, cap, hv, _⟩ := Kd.R_form RO2 (by simp)
    injection hv with hA
    exact ⟨_, hA⟩
  obtain ⟨gl, rfl⟩ := Kd.R_head RO2
  have hx0 : w2.cell? ⟨gl, 0, none⟩ = some (.int .i64 a) := by
    obtain ⟨c, _, hM, hcc⟩ := Kd.R_getA RO2 a 0 (by omega) (by omega)
    have hc : c = [.int .i64 a] := hM
    have := hcc 0 (.int .i64 a) (by rw [hc]; rfl)
    rwa [show (0 : Int).toNat * (Kd.int .i64).sz + 0 = 0 by rfl, add_plain] at this
  have hx1 : w2.cell? ⟨gl, 1, none⟩ = some (.int .i64 b) := by
    obtain ⟨c, _, hM, hcc⟩ := Kd.R_getA RO2 a 1 (by omega) (by omega)
    have hc : c = [.int .i64 b] := hM
    have := hcc 0 (.int .i64 b) (by rw [hc]; rfl)
    rwa [show (1 : Int).toNat * (Kd.int .i64).sz + 0 = 1 by rfl, add_plain] at this
  have hSt0 : St w g2 gl a b w2.drew := ⟨hx0, hx1, ⟨BK.out, below_drew1 HB.out⟩⟩
  clear RO2 hx0 hx1 HB BK
  go_wp2_with fail
  refine start_ (n := 9) (S := St w g2 gl a b) (ds := []) #[false, false, false, false, false, false, false, false, false] (by kernel_rfl) rfl rfl hSt0 (fun hHeld => ?_)
  refine pure_ (i := 0) (N := some 20) (v := ?_) (a' := ?_) #[true, false, false, false, false, false, false, false, false] rfl rfl (by kernel_rfl) (fun _ _ _ h => h) (Or.inl ⟨by rfl, ?_⟩) ?_ ?_
  rotate_left
  · intro w'
    go_simp
    with_reducible rfl
  rotate_left
  · simp only [Act.put, List.setIfInBounds_toArray, List.set_cons_zero, List.set_cons_succ, i64_w, i32_w]
    rfl
  refine pure_ (i := 1) (N := some 21) (v := ?_) (a' := ?_) #[true, true, false, false, false, false, false, false, false] rfl rfl (by kernel_rfl) (fun _ _ _ h => h) (Or.inl ⟨by rfl, ?_⟩) ?_ ?_
  rotate_left
  · intro w'
    go_simp
    with_reducible rfl
  rotate_left
  · simp only [Act.put, List.setIfInBounds_toArray, List.set_cons_zero, List.set_cons_succ, i64_w, i32_w]
    rfl
  refine pure_ (i := 3) (N := some 23) (v := ?_) (a' := ?_) #[true, true, false, true, false, false, false, false, false] rfl rfl (by kernel_rfl) (fun _ _ _ h => h) (Or.inl ⟨by rfl, ?_⟩) ?_ ?_
  rotate_left
  · intro w'
    go_simp
    with_reducible rfl
  rotate_left
  · simp only [Act.put, List.setIfInBounds_toArray, List.set_cons_zero, List.set_cons_succ, i64_w, i32_w]
    rfl
  refine pure_ (i := 4) (N := some 24) (v := ?_) (a' := ?_) #[true, true, false, true, true, false, false, false, false] rfl rfl (by kernel_rfl) (fun _ _ _ h => h) (Or.inl ⟨by rfl, ?_⟩) ?_ ?_
  rotate_left
  · intro w'
    go_simp
    with_reducible rfl
  rotate_left
  · simp only [Act.put, List.setIfInBounds_toArray, List.set_cons_zero, List.set_cons_succ, i64_w, i32_w]
    rfl
  refine take_ (i := 2) (N := some 22) (v := ?_) (a' := ?_) #[true, true, true, true, true, false, false, false, false] rfl rfl (by kernel_rfl) (fun _ _ _ h => h) (Or.inl ⟨by rfl, ?_⟩) hHeld ?_ ?_
  rotate_left
  · rintro w' ⟨s0, s1, s2⟩
    go_simp
    with_reducible rfl
  rotate_left
  · simp only [Act.put, List.setIfInBounds_toArray, List.set_cons_zero, List.set_cons_succ, i64_w, i32_w]
    rfl
  refine take_ (i := 5) (N := some 25) (v := ?_) (a' := ?_) #[true, true, true, true, true, true, false, false, false] rfl rfl (by kernel_rfl) (fun _ _ _ h => h) (Or.inl ⟨by rfl, ?_⟩) hHeld ?_ ?_
  rotate_left
  · rintro w' ⟨s0, s1, s2⟩
    go_simp
    with_reducible rfl
  rotate_left
  · simp only [Act.put, List.setIfInBounds_toArray, List.set_cons_zero, List.set_cons_succ, i64_w, i32_w]
    rfl
  refine pure_ (i := 6) (N := some 26) (v := ?_) (a' := ?_) #[true, true, true, true, true, true, true, false, false] rfl rfl (by kernel_rfl) (fun _ _ _ h => h) (Or.inl ⟨by rfl, ?_⟩) ?_ ?_
  rotate_left
  · intro w'
    go_simp
    with_reducible rfl
  rotate_left
  · simp only [Act.put, List.setIfInBounds_toArray, List.set_cons_zero, List.set_cons_succ, i64_w, i32_w]
    rfl
  refine one_ (i := 7) (N := some 6) #[true, true, true, true, true, true, true, true, false] rfl rfl (by kernel_rfl) (by decide) (fun K hK => ?_)
  refine box_step ?hg (N := 6) ?hd (cs := #[.int .i64 0, .int .i64 0]) (t := 23) ?hr ?_; (case hd => rfl); (case hg => rfl); (case hr => first | (go_simp; done) | (go_simp; rfl))
  intro g6 hg w3 hbox hb
  have hSt := Aside0.mk (hHeld.below hb)
  have BK6 := Aside0.mk hbox
  have NA : Aside0 (gl ≠ g6) := ⟨by rw [hg]; exact Nat.ne_of_lt (World.block_lt_of_cell? _ ⟨gl, 0, none⟩ hHeld.1)⟩
  have N2 : Aside0 (g2 ≠ g6) := ⟨by rw [hg]; exact Nat.ne_of_lt (blk_lt hHeld.2.2.out.1)⟩
  have N6 : Aside0 (g6 ≠ g2) := ⟨fun e_ => N2.out e_.symm⟩
  have GE6 : Aside0 (w.heap.size ≤ g6) := ⟨by rw [hg]; exact hHeld.2.2.out.2.size⟩
  clear hbox hb hg hHeld
  refine hK.out _ _ hSt.out (fun hHeld => ?_)
  clear hK K
  refine norm_ (a' := ?_) ?_ ?_
  rotate_left
  · show Act.put _ (some 6) _ = _
    simp only [Act.put, List.setIfInBounds_toArray, List.set_cons_zero, List.set_cons_succ, i64_w, i32_w]
    rfl
  refine one_ (i := 8) (N := none) #[true, true, true, true, true, true, true, true, true] rfl rfl (by kernel_rfl) (by decide) (fun K hK => ?_)
  have hs0 : w3.cell? ⟨g6, 0, none⟩ = some (.int .i64 0) := (blk_cell BK6.out 0).trans rfl
  have hs1 : w3.cell? ⟨g6, 1, none⟩ = some (.int .i64 0) := (blk_cell BK6.out 1).trans rfl
  have hf0 := blk_frozen BK6.out 0
  have hf1 := blk_frozen BK6.out 1
  refine skip_ (w1 := ?_) (by rfl) rfl ?_ ?_
  rotate_left
  · go_simp
    rfl
  refine hK.out _ _ ((hHeld.put NA.out N2.out GE6.out 0 _).put NA.out N2.out GE6.out 1 _) (fun hHeld => ?_)
  clear hK K
  have BK7 := Aside0.mk (blk_put (cs' := #[.int .i64 a, .int .i64 b]) (blk_put (cs' := #[.int .i64 a, .int .i64 0]) BK6.out 0 (.int .i64 a) rfl) 1 (.int .i64 b) rfl)
  clear hs0 hs1 hf0 hf1 BK6 hSt
  refine done_ (by kernel_rfl) ?_
  obtain ⟨_, _, hq⟩ := hHeld
  have HB := Aside0.mk hq.out.2
  have BK := Aside0.mk hq.out.1
  clear hq
  generalize hW : (w3.setCell ⟨g6, 0, none⟩ (.int .i64 a)).setCell ⟨g6, 1, none⟩ (.int .i64 b) = w4 at BK7 HB BK ⊢
  clear hW
  have hq0 : w4.cell? ⟨g6, 0, none⟩ = some (.int .i64 a) := (blk_cell BK7.out 0).trans rfl
  have hq1 : w4.cell? ⟨g6, 1, none⟩ = some (.int .i64 b) := (blk_cell BK7.out 1).trans rfl
  go_wp2_with fail
  refine (CI.out _).mono ?_
  rintro e w5 ⟨rfl, hb⟩
  have HB5 := Aside0.mk (below_step HB.out hb)
  have BK5 := Aside0.mk (blk_below BK.out hb)
  have BK75 := Aside0.mk (blk_below BK7.out hb)
  clear HB BK BK7 hb hq0 hq1
  have HB := HB5; have BK := BK5; have BK7 := BK75; clear HB5 BK5 BK75
  have hq0 : w5.cell? ⟨g6, 0, none⟩ = some (.int .i64 a) := (blk_cell BK7.out 0).trans rfl
  have hq1 : w5.cell? ⟨g6, 1, none⟩ = some (.int .i64 b) := (blk_cell BK7.out 1).trans rfl
  go_wp2_with fail
  refine (CT.out _ HB.out).mono ?_
  rintro e w6 ⟨rfl, hb⟩
  have HB5 := Aside0.mk (below_step HB.out hb)
  have BK5 := Aside0.mk (blk_below BK.out hb)
  have BK75 := Aside0.mk (blk_below BK7.out hb)
  clear HB BK BK7 hb hq0 hq1
  have HB := HB5; have BK := BK5; have BK7 := BK75; clear HB5 BK5 BK75
  have hq0 : w6.cell? ⟨g6, 0, none⟩ = some (.int .i64 a) := (blk_cell BK7.out 0).trans rfl
  have hq1 : w6.cell? ⟨g6, 1, none⟩ = some (.int .i64 b) := (blk_cell BK7.out 1).trans rfl
  have hcz_0 : w6.cell? ⟨g2, 0, none⟩ = some (.int .i64 0) := (blk_cell BK.out 0).trans rfl
  have hcz_1 : w6.cell? ⟨g2, 1, none⟩ = some (.int .i64 0) := (blk_cell BK.out 1).trans rfl
  have hfz_0 := blk_frozen BK.out 0
  have hfz_1 := blk_frozen BK.out 1
  go_wp2_with fail
  refine bodyPost_ret (results_ct rfl _ _ g2 23 #[.int .i64 a, .int .i64 b] (0, 0) _ rfl (by (with_reducible repeat (first | refine blk_drewN ?_ _ | refine blk_drew ?_ | refine blk_alloc ?_ _)); refine blk_put (cs := #[.int .i64 a, .int .i64 0]) ?_ 1 _ rfl; (with_reducible repeat (first | refine blk_drewN ?_ _ | refine blk_drew ?_ | refine blk_alloc ?_ _)); refine blk_put (cs := #[.int .i64 0, .int .i64 0]) ?_ 0 _ rfl; (with_reducible repeat (first | refine blk_drewN ?_ _ | refine blk_drew ?_ | refine blk_alloc ?_ _)); exact BK.out) Tryd.underlying23 rfl (by kernel_rfl)) rfl ?_
  exact ⟨by first | rfl | (simp [errW_none, errW_some] <;> rfl) | (simp [*, errW_none, errW_some] <;> rfl), by repeat (first | (with_reducible first | exact HB.out | apply below_alloc | apply pw_below_drewN | apply below_drew1 | refine below_set ?_ GW.out) | exact HB.out)⟩
end Go.Proofs.YtnnedicoapdkkaaDoor.IPC
