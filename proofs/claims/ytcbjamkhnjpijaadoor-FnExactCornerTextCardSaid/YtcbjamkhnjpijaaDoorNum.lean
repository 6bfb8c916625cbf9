/- The texts of corners at this program: spec.l1Num, spec.cnText, impl.cornerText and what decides whether there is a corner. Conditions: numbers 1 to 100; for the program's own text: the library's table of powers of ten stands as laid. -/
import Derived.Test.YtcbjamkhnjpijaaDoorShelfItoa
import Derived.Test.YtcbjamkhnjpijaaDoorPFnExactCornerTextx0
import Derived.Lib.SmallJoins
import Derived.Lib.AppendIntMem
namespace Go.Proofs.YtcbjamkhnjpijaaDoor.Num
set_option linter.unusedVariables false
set_option linter.unusedSimpArgs false
open Go.RowKit Go.Joins Go.Proofs.YtcbjamkhnjpijaaDoorW.PrintWords Go.Proofs.YtcbjamkhnjpijaaDoorW.PrintLast Go.Proofs.YtcbjamkhnjpijaaDoorW.PrintMore

def txt (n : Int) : ByteArray := ⟨(Lib.itoa n).toArray⟩
abbrev Tab (w : World) : Prop := Lib.TabIs Tryd.prog w "internal/strconv.uint64pow10" .u64 Lib.pow10Tab
theorem named : Tryd.prog.globalNamed "internal/strconv.uint64pow10" = some 0 := by kernel_rfl
theorem tab {w W : World} (h : Tab w) (hb : Below w.heap.size w W) : Tab W := Go.Joins.tab_stays named h hb (Nat.le_refl _)
theorem itoa (n : Int) (W : World) (h0 : 1 ≤ n) (h1 : n ≤ 100) (ht : Tab W) : Calls Tryd.prog 14 #[.int .i64 n] W fun e w' => e = .returned (.string (txt n)) ∧ Below W.heap.size W w' := by
  refine Calls.mono (Any.strconv_Itoa Tryd.laysM171 n (by omega) (by omega) W ht) ?_
  rintro e w' ⟨rfl, k, os, rfl⟩
  exact ⟨rfl, Lib.below_grow _ _ (Nat.le_refl _) _ _⟩
/-- One digit as a text. -/
def dig (n : Nat) : ByteArray := strOfNums [(48 + (n : Int)) % 256]
def T (n : Nat) : ByteArray := if n < 10 then dig n else if n < 100 then dig (n / 10) ++ dig (n % 10) else (dig 1 ++ dig 0) ++ dig 0
theorem nums : (List.range 101).all (fun n => n == 0 || (T n).data.toList == Lib.itoa (n : Int)) = true := by decide +kernel
theorem num_eq {n : Nat} (h0 : 1 ≤ n) (h1 : n ≤ 100) : T n = txt (n : Int) := by
  have h := List.all_eq_true.mp nums n (List.mem_range.mpr (by omega))
  have h2 : (n == 0) = false := beq_eq_false_iff_ne.2 (by omega)
  rw [h2, Bool.false_or] at h
  unfold txt
  rw [← eq_of_beq h]
theorem sizes : (List.range 101).all (fun n => decide ((Lib.itoa (n : Int)).length ≤ 3)) = true := by decide +kernel
theorem txt_size {n : Int} (h0 : 1 ≤ n) (h1 : n ≤ 100) : (txt n).size ≤ 3 := by
  obtain ⟨m, rfl⟩ : ∃ m : Nat, n = (m : Int) := ⟨n.toNat, by omega⟩
  have h := of_decide_eq_true (List.all_eq_true.mp sizes m (List.mem_range.mpr (by omega)))
  unfold txt
  show (Lib.itoa (m : Int)).toArray.size ≤ 3
  rw [List.size_toArray]; exact h
theorem dig_size (n : Nat) : (dig n).size = 1 := rfl
theorem w_id {x : Int} (h0 : -1000000000 ≤ x) (h1 : x ≤ 1000000000) : wrap64 x = x := by unfold wrap64; omega
def LIT (x : Int) : List Int := [x % 256]

set_option maxHeartbeats 4000000 in
set_option maxRecDepth 100000 in
theorem base (n : Nat) (w : World) (h : n < 10) : Calls Tryd.prog 12 #[.int .i64 (n : Int)] w fun e w' => e = .returned (.string (dig n)) ∧ Below w.heap.size w w' := by
  have hz : (n : Int) < 10 := by omega
  obtain ⟨y, hy⟩ : ∃ y : List Int, y = [48 + (n : Int)] := ⟨_, rfl⟩
  have Ny := Aside0.mk hy
  unfold dig
  rw [show (48 + (n : Int)) % 256 = 48 + (n : Int) by omega, ← hy]
  have HB := Aside0.mk (Below.refl w.heap.size w)
  clear hy
  go_enter Tryd.func12, Tryd.ntmps12
  go_wp2_with (first | ((with_reducible refine gate_dst (N := 8) rfl ?_); refine Kd.R_lit (Kd.int .u8) _ 5 ?hg (N := 8) ?hd (xs := ([48 + (n : Int)] : List Int)) (inner := [.int .u8 (48 + (n : Int))]) (ok := fun _ => True) (okp := fun _ => True) ?hr ?hp (fun _ hk => hk) trivial (Below.refl _ _) (Nat.le_refl _) (by simp) ?_; (case hd => rfl); (case hg => rfl); (case hr => first | (go_simp; done) | (go_simp; rfl)); (case hp => exact (Reps.one (show Kd.M (Kd.int .u8) _ _ _ (48 + (n : Int)) [.int .u8 (48 + (n : Int))] from rfl) (Reps.none _ _))); intro v105 w3 ho4 hb hg_ hnew_; clear hg_ hnew_; rw [← Ny.out] at ho4; have HO := Aside0.mk (Kd.R_lower ho4 HB.out.size); have n1_ := Aside0.mk (below_step HB.out hb); clear HB; have HB := n1_; clear n1_; clear hb ho4; have hcv5 := own_string (P := Tryd.prog) Tryd.underlying34 Tryd.underlying5 Tryd.underlying9 (Kd.own_of_R HO.out)))
  go_ret
  exact ⟨rfl, HB.out⟩

set_option maxHeartbeats 4000000 in
set_option maxRecDepth 100000 in
theorem step (n : Nat) (t : ByteArray) (w : World) (h : 10 ≤ n) (h2 : n ≤ 1000) (ht : t.size ≤ 10) (hr : ∀ W, Calls Tryd.prog 12 #[.int .i64 ((n / 10 : Nat) : Int)] W fun e w' => e = .returned (.string t) ∧ Below W.heap.size W w') :
    Calls Tryd.prog 12 #[.int .i64 (n : Int)] w fun e w' => e = .returned (.string (t ++ dig (n % 10))) ∧ Below w.heap.size w w' := by
  have hz : ¬ (n : Int) < 10 := by omega
  obtain ⟨q, hq⟩ : ∃ q, n / 10 = q := ⟨_, rfl⟩
  obtain ⟨m, hm⟩ : ∃ m, n % 10 = m := ⟨_, rfl⟩
  have hm10 : m < 10 := by omega
  have hq100 : q ≤ 100 := by omega
  rw [hq] at hr
  rw [hm]
  have HQ := Aside0.mk hr
  obtain ⟨y, hy⟩ : ∃ y : List Int, y = [(48 + (m : Int)) % 256] := ⟨_, rfl⟩
  have Ny := Aside0.mk hy
  unfold dig
  rw [← hy]
  have hs1 : (strOfNums y).size = 1 := by rw [hy]; rfl
  have c1 : ¬ 9223372036854775807 < t.size + 1 := by omega
  have c2 : t.size + 1 ≤ 9223372036854775807 := by omega
  have HB := Aside0.mk (Below.refl w.heap.size w)
  have hd1 : -(1000000000 : Int) ≤ (q : Int) ∧ (q : Int) ≤ 1000000000 := by omega
  have hd2 : -(1000000000 : Int) ≤ (m : Int) ∧ (m : Int) ≤ 1000000000 := by omega
  have hd3 : -(1000000000 : Int) ≤ 48 + (m : Int) ∧ 48 + (m : Int) ≤ 1000000000 := by omega
  have d1 : (n : Int) / 10 = (q : Int) := by rw [← hq]; rfl
  have d2 : Int.tdiv (n : Int) 10 = (q : Int) := by rw [← hq]; exact (Int.ofNat_tdiv n 10).symm
  have d3 : (n : Int) % 10 = (m : Int) := by rw [← hm]; rfl
  have d4 : Int.tmod (n : Int) 10 = (m : Int) := by rw [← hm]; exact (Int.ofNat_tmod n 10).symm
  have d5 : wrap64 (q : Int) = (q : Int) := w_id hd1.1 hd1.2
  have d6 : wrap64 (m : Int) = (m : Int) := w_id hd2.1 hd2.2
  have d7 : wrap64 (48 + (m : Int)) = 48 + (m : Int) := w_id hd3.1 hd3.2
  have e5 : IntKind.i64.wrap (q : Int) = (q : Int) := (i64_w _).trans d5
  have e6 : IntKind.i64.wrap (m : Int) = (m : Int) := (i64_w _).trans d6
  have e7 : IntKind.i64.wrap (48 + (m : Int)) = 48 + (m : Int) := (i64_w _).trans d7
  clear hy hq hm hr hd1 hd2 hd3 h h2
  go_enter Tryd.func12, Tryd.ntmps12
  go_upto_region 3 with (fail)
  replace HB := Aside0.mk (below_drew1 HB.out)
  refine start_ (n := 11) (S := fun _ => True) (ds := []) #[false, false, false, false, false, false, false, false, false, false, false] (by kernel_rfl) rfl rfl trivial (fun hHeld => ?_)
  refine pure_ (i := 0) (N := some 10) (v := ?_) (a' := ?_) #[true, false, false, false, false, false, false, false, false, false, false] rfl rfl (by kernel_rfl) (fun _ _ _ h => h) (Or.inl ⟨by rfl, ?_⟩) ?_ ?_
  rotate_left
  · intro w'
    go_simp
    with_reducible rfl
  rotate_left
  · simp only [Act.put, List.setIfInBounds_toArray, List.set_cons_zero, List.set_cons_succ, i64_w, i32_w]
    rfl
  refine pure_ (i := 1) (N := some 11) (v := ?_) (a' := ?_) #[true, true, false, false, false, false, false, false, false, false, false] rfl rfl (by kernel_rfl) (fun _ _ _ h => h) (Or.inl ⟨by rfl, ?_⟩) ?_ ?_
  rotate_left
  · intro w'
    go_simp
    with_reducible rfl
  rotate_left
  · simp only [Act.put, List.setIfInBounds_toArray, List.set_cons_zero, List.set_cons_succ, i64_w, i32_w]
    rfl
  refine pure_ (i := 3) (N := some 13) (v := ?_) (a' := ?_) #[true, true, false, true, false, false, false, false, false, false, false] rfl rfl (by kernel_rfl) (fun _ _ _ h => h) (Or.inl ⟨by rfl, ?_⟩) ?_ ?_
  rotate_left
  · intro w'
    go_simp
    with_reducible rfl
  rotate_left
  · simp only [Act.put, List.setIfInBounds_toArray, List.set_cons_zero, List.set_cons_succ, i64_w, i32_w]
    rfl
  refine pure_ (i := 4) (N := some 14) (v := ?_) (a' := ?_) #[true, true, false, true, true, false, false, false, false, false, false] rfl rfl (by kernel_rfl) (fun _ _ _ h => h) (Or.inl ⟨by rfl, ?_⟩) ?_ ?_
  rotate_left
  · intro w'
    go_simp
    with_reducible rfl
  rotate_left
  · simp only [Act.put, List.setIfInBounds_toArray, List.set_cons_zero, List.set_cons_succ, i64_w, i32_w]
    rfl
  refine pure_ (i := 5) (N := some 15) (v := ?_) (a' := ?_) #[true, true, false, true, true, true, false, false, false, false, false] rfl rfl (by kernel_rfl) (fun _ _ _ h => h) (Or.inl ⟨by rfl, ?_⟩) ?_ ?_
  rotate_left
  · intro w'
    go_simp
    with_reducible rfl
  rotate_left
  · simp only [Act.put, List.setIfInBounds_toArray, List.set_cons_zero, List.set_cons_succ, i64_w, i32_w]
    rfl
  refine pure_ (i := 6) (N := some 16) (v := ?_) (a' := ?_) #[true, true, false, true, true, true, true, false, false, false, false] rfl rfl (by kernel_rfl) (fun _ _ _ h => h) (Or.inl ⟨by rfl, ?_⟩) ?_ ?_
  rotate_left
  · intro w'
    go_simp
    with_reducible rfl
  rotate_left
  · simp only [Act.put, List.setIfInBounds_toArray, List.set_cons_zero, List.set_cons_succ, i64_w, i32_w]
    rfl
  refine two_ (i := 2) (j := 7) (Ni := some 12) (Nj := some 17) #[true, true, true, true, true, true, true, false, false, false, false] #[true, true, false, true, true, true, true, true, false, false, false] rfl rfl rfl rfl (by kernel_rfl) (by decide) (by decide) (fun K hK => ?_) (fun K hK => ?_)
  · skip
    refine goes_ Tryd.func12 (by kernel_rfl) rfl #[.int .i64 (q : Int)] (by rfl) rfl rfl (by (try simp only [List.map_toArray, List.map_cons, List.map_nil]); first | done | rfl) ?_
    refine (HQ.out _).mono ?_
    rintro e w5 ⟨rfl, hb⟩
    refine ⟨_, rfl, ?_⟩
    try replace HO := Aside0.mk (Kd.R_below HO.out hb)
    replace HB := Aside0.mk (below_then HB.out HB.out.size hb)
    clear hb
    refine hK.out _ _ trivial (fun hHeld => ?_)
    clear hK K
    refine norm_ (a' := ?_) ?_ ?_
    rotate_left
    · show Act.put _ (some 12) _ = _
      simp only [Act.put, List.setIfInBounds_toArray, List.set_cons_zero, List.set_cons_succ, i64_w, i32_w]
      rfl
    refine one_ (i := 7) (N := some 17) #[true, true, true, true, true, true, true, true, false, false, false] rfl rfl (by kernel_rfl) (by decide) (fun K hK => ?_)
    refine Kd.R_lit_step (Kd.int .u8) _ 5 ?hg (N := 17) ?hd (xs := ([(48 + (m : Int)) % 256] : List Int)) (inner := [.int .u8 ((48 + (m : Int)) % 256)]) (ok := fun _ => True) (okp := fun _ => True) ?hr ?hp (fun _ hk => hk) trivial (Below.refl _ _) (Nat.le_refl _) (by simp) ?_; (case hd => rfl); (case hg => rfl); (case hr => first | (go_simp; done) | (go_simp; rfl)); (case hp => exact (Reps.one (show Kd.M (Kd.int .u8) _ _ _ ((48 + (m : Int)) % 256) [.int .u8 ((48 + (m : Int)) % 256)] from rfl) (Reps.none _ _)))
    intro v6 w6 ho hb hg_ hnew_
    clear hg_ hnew_
    rw [← Ny.out] at ho
    have HO := Aside0.mk (Kd.R_lower ho HB.out.size)
    replace HB := Aside0.mk (below_then HB.out HB.out.size hb)
    clear hb ho
    refine hK.out _ _ trivial (fun hHeld => ?_)
    clear hK K
    refine norm_ (a' := ?_) ?_ ?_
    rotate_left
    · show Act.put _ (some 17) _ = _
      simp only [Act.put, List.setIfInBounds_toArray, List.set_cons_zero, List.set_cons_succ, i64_w, i32_w]
      rfl
    refine one_ (i := 8) (N := some 18) #[true, true, true, true, true, true, true, true, true, false, false] rfl rfl (by kernel_rfl) (by decide) (fun K hK => ?_)
    have hcv := own_string (P := Tryd.prog) Tryd.underlying34 Tryd.underlying5 Tryd.underlying9 (Kd.own_of_R HO.out)
    refine value_ (w1 := ?_) (v := ?_) (by rfl) rfl ?_ ?_
    rotate_left 2
    · go_simp
      constructor
      · rfl
      · rfl
    clear hcv
    refine hK.out _ _ trivial (fun hHeld => ?_)
    clear hK K
    refine norm_ (a' := ?_) ?_ ?_
    rotate_left
    · show Act.put _ (some 18) _ = _
      simp only [Act.put, List.setIfInBounds_toArray, List.set_cons_zero, List.set_cons_succ, i64_w, i32_w]
      rfl
    refine pure_ (i := 9) (N := some 19) (v := ?_) (a' := ?_) #[true, true, true, true, true, true, true, true, true, true, false] rfl rfl (by kernel_rfl) (fun _ _ _ h => h) (Or.inl ⟨by rfl, ?_⟩) ?_ ?_
    rotate_left
    · intro w'
      go_simp
      with_reducible rfl
    rotate_left
    · simp only [Act.put, List.setIfInBounds_toArray, List.set_cons_zero, List.set_cons_succ, i64_w, i32_w]
      rfl
    refine pure_ (i := 10) (N := some 2) (v := ?_) (a' := ?_) #[true, true, true, true, true, true, true, true, true, true, true] rfl rfl (by kernel_rfl) (fun _ _ _ h => h) (Or.inl ⟨by rfl, ?_⟩) ?_ ?_
    rotate_left
    · intro w'
      go_simp
      with_reducible rfl
    rotate_left
    · simp only [Act.put, List.setIfInBounds_toArray, List.set_cons_zero, List.set_cons_succ, i64_w, i32_w]
      rfl
    refine done_ (by kernel_rfl) ?_
    go_wp2_with fail
    go_ret
    exact ⟨rfl, HB.out⟩
  · skip
    refine Kd.R_lit_step (Kd.int .u8) _ 5 ?hg (N := 17) ?hd (xs := ([(48 + (m : Int)) % 256] : List Int)) (inner := [.int .u8 ((48 + (m : Int)) % 256)]) (ok := fun _ => True) (okp := fun _ => True) ?hr ?hp (fun _ hk => hk) trivial (Below.refl _ _) (Nat.le_refl _) (by simp) ?_; (case hd => rfl); (case hg => rfl); (case hr => first | (go_simp; done) | (go_simp; rfl)); (case hp => exact (Reps.one (show Kd.M (Kd.int .u8) _ _ _ ((48 + (m : Int)) % 256) [.int .u8 ((48 + (m : Int)) % 256)] from rfl) (Reps.none _ _)))
    intro v6 w6 ho hb hg_ hnew_
    clear hg_ hnew_
    rw [← Ny.out] at ho
    have HO := Aside0.mk (Kd.R_lower ho HB.out.size)
    replace HB := Aside0.mk (below_then HB.out HB.out.size hb)
    clear hb ho
    refine hK.out _ _ trivial (fun hHeld => ?_)
    clear hK K
    refine norm_ (a' := ?_) ?_ ?_
    rotate_left
    · show Act.put _ (some 17) _ = _
      simp only [Act.put, List.setIfInBounds_toArray, List.set_cons_zero, List.set_cons_succ, i64_w, i32_w]
      rfl
    refine two_ (i := 2) (j := 8) (Ni := some 12) (Nj := some 18) #[true, true, true, true, true, true, true, true, false, false, false] #[true, true, false, true, true, true, true, true, true, false, false] rfl rfl rfl rfl (by kernel_rfl) (by decide) (by decide) (fun K hK => ?_) (fun K hK => ?_)
    · skip
      refine goes_ Tryd.func12 (by kernel_rfl) rfl #[.int .i64 (q : Int)] (by rfl) rfl rfl (by (try simp only [List.map_toArray, List.map_cons, List.map_nil]); first | done | rfl) ?_
      refine (HQ.out _).mono ?_
      rintro e w5 ⟨rfl, hb⟩
      refine ⟨_, rfl, ?_⟩
      try replace HO := Aside0.mk (Kd.R_below HO.out hb)
      replace HB := Aside0.mk (below_then HB.out HB.out.size hb)
      clear hb
      refine hK.out _ _ trivial (fun hHeld => ?_)
      clear hK K
      refine norm_ (a' := ?_) ?_ ?_
      rotate_left
      · show Act.put _ (some 12) _ = _
        simp only [Act.put, List.setIfInBounds_toArray, List.set_cons_zero, List.set_cons_succ, i64_w, i32_w]
        rfl
      refine one_ (i := 8) (N := some 18) #[true, true, true, true, true, true, true, true, true, false, false] rfl rfl (by kernel_rfl) (by decide) (fun K hK => ?_)
      have hcv := own_string (P := Tryd.prog) Tryd.underlying34 Tryd.underlying5 Tryd.underlying9 (Kd.own_of_R HO.out)
      refine value_ (w1 := ?_) (v := ?_) (by rfl) rfl ?_ ?_
      rotate_left 2
      · go_simp
        constructor
        · rfl
        · rfl
      clear hcv
      refine hK.out _ _ trivial (fun hHeld => ?_)
      clear hK K
      refine norm_ (a' := ?_) ?_ ?_
      rotate_left
      · show Act.put _ (some 18) _ = _
        simp only [Act.put, List.setIfInBounds_toArray, List.set_cons_zero, List.set_cons_succ, i64_w, i32_w]
        rfl
      refine pure_ (i := 9) (N := some 19) (v := ?_) (a' := ?_) #[true, true, true, true, true, true, true, true, true, true, false] rfl rfl (by kernel_rfl) (fun _ _ _ h => h) (Or.inl ⟨by rfl, ?_⟩) ?_ ?_
      rotate_left
      · intro w'
        go_simp
        with_reducible rfl
      rotate_left
      · simp only [Act.put, List.setIfInBounds_toArray, List.set_cons_zero, List.set_cons_succ, i64_w, i32_w]
        rfl
      refine pure_ (i := 10) (N := some 2) (v := ?_) (a' := ?_) #[true, true, true, true, true, true, true, true, true, true, true] rfl rfl (by kernel_rfl) (fun _ _ _ h => h) (Or.inl ⟨by rfl, ?_⟩) ?_ ?_
      rotate_left
      · intro w'
        go_simp
        with_reducible rfl
      rotate_left
      · simp only [Act.put, List.setIfInBounds_toArray, List.set_cons_zero, List.set_cons_succ, i64_w, i32_w]
        rfl
      refine done_ (by kernel_rfl) ?_
      go_wp2_with fail
      go_ret
      exact ⟨rfl, HB.out⟩
    · skip
      have hcv := own_string (P := Tryd.prog) Tryd.underlying34 Tryd.underlying5 Tryd.underlying9 (Kd.own_of_R HO.out)
      refine value_ (w1 := ?_) (v := ?_) (by rfl) rfl ?_ ?_
      rotate_left 2
      · go_simp
        constructor
        · rfl
        · rfl
      clear hcv
      refine hK.out _ _ trivial (fun hHeld => ?_)
      clear hK K
      refine norm_ (a' := ?_) ?_ ?_
      rotate_left
      · show Act.put _ (some 18) _ = _
        simp only [Act.put, List.setIfInBounds_toArray, List.set_cons_zero, List.set_cons_succ, i64_w, i32_w]
        rfl
      refine one_ (i := 2) (N := some 12) #[true, true, true, true, true, true, true, true, true, false, false] rfl rfl (by kernel_rfl) (by decide) (fun K hK => ?_)
      refine goes_ Tryd.func12 (by kernel_rfl) rfl #[.int .i64 (q : Int)] (by rfl) rfl rfl (by (try simp only [List.map_toArray, List.map_cons, List.map_nil]); first | done | rfl) ?_
      refine (HQ.out _).mono ?_
      rintro e w5 ⟨rfl, hb⟩
      refine ⟨_, rfl, ?_⟩
      try replace HO := Aside0.mk (Kd.R_below HO.out hb)
      replace HB := Aside0.mk (below_then HB.out HB.out.size hb)
      clear hb
      refine hK.out _ _ trivial (fun hHeld => ?_)
      clear hK K
      refine norm_ (a' := ?_) ?_ ?_
      rotate_left
      · show Act.put _ (some 12) _ = _
        simp only [Act.put, List.setIfInBounds_toArray, List.set_cons_zero, List.set_cons_succ, i64_w, i32_w]
        rfl
      refine pure_ (i := 9) (N := some 19) (v := ?_) (a' := ?_) #[true, true, true, true, true, true, true, true, true, true, false] rfl rfl (by kernel_rfl) (fun _ _ _ h => h) (Or.inl ⟨by rfl, ?_⟩) ?_ ?_
      rotate_left
      · intro w'
        go_simp
        with_reducible rfl
      rotate_left
      · simp only [Act.put, List.setIfInBounds_toArray, List.set_cons_zero, List.set_cons_succ, i64_w, i32_w]
        rfl
      refine pure_ (i := 10) (N := some 2) (v := ?_) (a' := ?_) #[true, true, true, true, true, true, true, true, true, true, true] rfl rfl (by kernel_rfl) (fun _ _ _ h => h) (Or.inl ⟨by rfl, ?_⟩) ?_ ?_
      rotate_left
      · intro w'
        go_simp
        with_reducible rfl
      rotate_left
      · simp only [Act.put, List.setIfInBounds_toArray, List.set_cons_zero, List.set_cons_succ, i64_w, i32_w]
        rfl
      refine done_ (by kernel_rfl) ?_
      go_wp2_with fail
      go_ret
      exact ⟨rfl, HB.out⟩

theorem l1Num (n : Int) (w : World) (h0 : 1 ≤ n) (h1 : n ≤ 100) : Calls Tryd.prog 12 #[.int .i64 n] w fun e w' => e = .returned (.string (txt n)) ∧ Below w.heap.size w w' := by
  obtain ⟨m, rfl⟩ : ∃ m : Nat, n = (m : Int) := ⟨n.toNat, by omega⟩
  rw [← num_eq (by omega) (by omega)]
  unfold T
  by_cases a : m < 10
  · rw [if_pos a]; exact base m w a
  · rw [if_neg a]
    by_cases b : m < 100
    · rw [if_pos b]
      exact step m (dig (m / 10)) w (by omega) (by omega) (by rw [dig_size]; omega) (fun W => base (m / 10) W (by omega))
    · rw [if_neg b]
      obtain rfl : m = 100 := by omega
      exact step 100 (dig 1 ++ dig 0) w (by omega) (by omega) (by decide) (fun W => step 10 (dig 1) W (by omega) (by omega) (by decide) (fun W2 => base 1 W2 (by omega)))

abbrev boxC (cw cd : Int) : Obj := .cells #[.int .i64 cw, .int .i64 cd] 26
def text (cw cd : Int) : ByteArray := txt cw ++ (⟨#[120]⟩ : ByteArray) ++ txt cd
theorem st2_below {w0 W W' : World} {a1 a2 : Addr} {v1 v2 : Value} (h : W.cell? a1 = some v1 ∧ W.cell? a2 = some v2 ∧ Aside0 (Below w0.heap.size w0 W)) (hb : Below W.heap.size W W') :
    W'.cell? a1 = some v1 ∧ W'.cell? a2 = some v2 ∧ Aside0 (Below w0.heap.size w0 W') := ⟨pw_cell_below hb h.1, pw_cell_below hb h.2.1, ⟨below_then h.2.2.out h.2.2.out.size hb⟩⟩
set_option maxHeartbeats 4000000 in
set_option maxRecDepth 100000 in
theorem cnText (cw cd : Int) (w : World) (h1 : 1 ≤ cw) (h2 : cw ≤ 100) (h3 : 1 ≤ cd) (h4 : cd ≤ 100) :
    Calls Tryd.prog 8 #[.agg #[.int .i64 cw, .int .i64 cd]] w fun e w' => e = .returned (.string (text cw cd)) ∧ Below w.heap.size w w' := by
  have hu26 := Tryd.underlying26
  have z1 := txt_size h1 h2
  have z2 := txt_size h3 h4
  have c1 : ¬ 9223372036854775807 < (txt cw).size + 1 := by omega
  have c2 : ¬ 9223372036854775807 < (txt cw).size + 1 + (txt cd).size := by omega
  have c3 : (txt cw).size + 1 ≤ 9223372036854775807 := by omega
  have c4 : (txt cw).size + 1 + (txt cd).size ≤ 9223372036854775807 := by omega
  unfold text
  have BK := Aside0.mk (show (w.alloc (boxC cw cd)).heap[w.heap.size]? = some (boxC cw cd) from blk_new w _)
  have hSt : (w.alloc (boxC cw cd)).drew.cell? ⟨w.heap.size, 0, none⟩ = some (.int .i64 cw) ∧ (w.alloc (boxC cw cd)).drew.cell? ⟨w.heap.size, 1, none⟩ = some (.int .i64 cd) ∧ Aside0 (Below w.heap.size w (w.alloc (boxC cw cd)).drew) :=
    ⟨(blk_cell BK.out 0).trans rfl, (blk_cell BK.out 1).trans rfl, ⟨below_drew (below_alloc (Below.refl _ _) _)⟩⟩
  go_enter Tryd.func8, Tryd.ntmps8
  go_upto_region 1 with (fail)
  refine start_ (n := 9) (S := fun w' => w'.cell? ⟨w.heap.size, 0, none⟩ = some (.int .i64 cw) ∧ w'.cell? ⟨w.heap.size, 1, none⟩ = some (.int .i64 cd) ∧ Aside0 (Below w.heap.size w w')) (ds := []) #[false, false, false, false, false, false, false, false, false] (by kernel_rfl) rfl rfl hSt (fun hHeld => ?_)
  refine pure_ (i := 0) (N := some 3) (v := ?_) (a' := ?_) #[true, false, false, false, false, false, false, false, false] rfl rfl (by kernel_rfl) (fun _ _ _ h => h) (Or.inl ⟨by rfl, ?_⟩) ?_ ?_
  rotate_left
  · intro w'
    go_simp
    with_reducible rfl
  rotate_left
  · simp only [Act.put, List.setIfInBounds_toArray, List.set_cons_zero, List.set_cons_succ, i64_w, i32_w]
    rfl
  refine pure_ (i := 4) (N := some 7) (v := ?_) (a' := ?_) #[true, false, false, false, true, false, false, false, false] rfl rfl (by kernel_rfl) (fun _ _ _ h => h) (Or.inl ⟨by rfl, ?_⟩) ?_ ?_
  rotate_left
  · intro w'
    go_simp
    with_reducible rfl
  rotate_left
  · simp only [Act.put, List.setIfInBounds_toArray, List.set_cons_zero, List.set_cons_succ, i64_w, i32_w]
    rfl
  refine take_ (i := 1) (N := some 4) (v := ?_) (a' := ?_) #[true, true, false, false, true, false, false, false, false] rfl rfl (by kernel_rfl) (fun _ _ _ h => h) (Or.inl ⟨by rfl, ?_⟩) hHeld ?_ ?_
  rotate_left
  · rintro w' ⟨s0, s1, s2⟩
    go_simp
    with_reducible rfl
  rotate_left
  · simp only [Act.put, List.setIfInBounds_toArray, List.set_cons_zero, List.set_cons_succ, i64_w, i32_w]
    rfl
  refine take_ (i := 5) (N := some 8) (v := ?_) (a' := ?_) #[true, true, false, false, true, true, false, false, false] rfl rfl (by kernel_rfl) (fun _ _ _ h => h) (Or.inl ⟨by rfl, ?_⟩) hHeld ?_ ?_
  rotate_left
  · rintro w' ⟨s0, s1, s2⟩
    go_simp
    with_reducible rfl
  rotate_left
  · simp only [Act.put, List.setIfInBounds_toArray, List.set_cons_zero, List.set_cons_succ, i64_w, i32_w]
    rfl
  refine one_ (i := 2) (N := some 5) #[true, true, true, false, true, true, false, false, false] rfl rfl (by kernel_rfl) (by decide) (fun K hK => ?_)
  refine goes_ Tryd.func12 (by kernel_rfl) rfl #[.int .i64 cw] (by rfl) rfl rfl (by (try simp only [List.map_toArray, List.map_cons, List.map_nil]); first | done | rfl) ?_
  refine ((l1Num cw _ (by omega) (by omega))).mono ?_
  rintro e w5 ⟨rfl, hb⟩
  refine ⟨_, rfl, ?_⟩
  refine hK.out _ _ (st2_below hHeld hb) (fun hHeld => ?_)
  clear hK K
  refine norm_ (a' := ?_) ?_ ?_
  rotate_left
  · show Act.put _ (some 5) _ = _
    simp only [Act.put, List.setIfInBounds_toArray, List.set_cons_zero, List.set_cons_succ, i64_w, i32_w]
    rfl
  refine pure_ (i := 3) (N := some 6) (v := ?_) (a' := ?_) #[true, true, true, true, true, true, false, false, false] rfl rfl (by kernel_rfl) (fun _ _ _ h => h) (Or.inl ⟨by rfl, ?_⟩) ?_ ?_
  rotate_left
  · intro w'
    go_simp
    with_reducible rfl
  rotate_left
  · simp only [Act.put, List.setIfInBounds_toArray, List.set_cons_zero, List.set_cons_succ, i64_w, i32_w]
    rfl
  refine one_ (i := 6) (N := some 9) #[true, true, true, true, true, true, true, false, false] rfl rfl (by kernel_rfl) (by decide) (fun K hK => ?_)
  refine goes_ Tryd.func12 (by kernel_rfl) rfl #[.int .i64 cd] (by rfl) rfl rfl (by (try simp only [List.map_toArray, List.map_cons, List.map_nil]); first | done | rfl) ?_
  refine ((l1Num cd _ (by omega) (by omega))).mono ?_
  rintro e w6 ⟨rfl, hb⟩
  refine ⟨_, rfl, ?_⟩
  refine hK.out _ _ (st2_below hHeld hb) (fun hHeld => ?_)
  clear hK K
  refine norm_ (a' := ?_) ?_ ?_
  rotate_left
  · show Act.put _ (some 9) _ = _
    simp only [Act.put, List.setIfInBounds_toArray, List.set_cons_zero, List.set_cons_succ, i64_w, i32_w]
    rfl
  refine pure_ (i := 7) (N := some 10) (v := ?_) (a' := ?_) #[true, true, true, true, true, true, true, true, false] rfl rfl (by kernel_rfl) (fun _ _ _ h => h) (Or.inl ⟨by rfl, ?_⟩) ?_ ?_
  rotate_left
  · intro w'
    go_simp
    with_reducible rfl
  rotate_left
  · simp only [Act.put, List.setIfInBounds_toArray, List.set_cons_zero, List.set_cons_succ, i64_w, i32_w]
    rfl
  refine pure_ (i := 8) (N := some 2) (v := ?_) (a' := ?_) #[true, true, true, true, true, true, true, true, true] rfl rfl (by kernel_rfl) (fun _ _ _ h => h) (Or.inl ⟨by rfl, ?_⟩) ?_ ?_
  rotate_left
  · intro w'
    go_simp
    with_reducible rfl
  rotate_left
  · simp only [Act.put, List.setIfInBounds_toArray, List.set_cons_zero, List.set_cons_succ, i64_w, i32_w]
    rfl
  refine done_ (by kernel_rfl) ?_
  obtain ⟨_, _, HB⟩ := hHeld
  go_wp2_with fail
  go_ret
  exact ⟨rfl, HB.out⟩
set_option maxHeartbeats 4000000 in
set_option maxRecDepth 100000 in
theorem cornerText (cw cd : Int) (w : World) (h1 : 1 ≤ cw) (h2 : cw ≤ 100) (h3 : 1 ≤ cd) (h4 : cd ≤ 100) (ht : Tab w) :
    Calls Tryd.prog 10 #[.agg #[.int .i64 cw, .int .i64 cd]] w fun e w' => e = .returned (.string (text cw cd)) ∧ Below w.heap.size w w' := by
  have hu26 := Tryd.underlying26
  have HT := Aside0.mk ht
  have z1 := txt_size h1 h2
  have z2 := txt_size h3 h4
  have c1 : ¬ 9223372036854775807 < (txt cw).size + 1 := by omega
  have c2 : ¬ 9223372036854775807 < (txt cw).size + 1 + (txt cd).size := by omega
  have c3 : (txt cw).size + 1 ≤ 9223372036854775807 := by omega
  have c4 : (txt cw).size + 1 + (txt cd).size ≤ 9223372036854775807 := by omega
  unfold text
  have BK := Aside0.mk (show (w.alloc (boxC cw cd)).heap[w.heap.size]? = some (boxC cw cd) from blk_new w _)
  have hSt : (w.alloc (boxC cw cd)).drew.cell? ⟨w.heap.size, 0, none⟩ = some (.int .i64 cw) ∧ (w.alloc (boxC cw cd)).drew.cell? ⟨w.heap.size, 1, none⟩ = some (.int .i64 cd) ∧ Aside0 (Below w.heap.size w (w.alloc (boxC cw cd)).drew) :=
    ⟨(blk_cell BK.out 0).trans rfl, (blk_cell BK.out 1).trans rfl, ⟨below_drew (below_alloc (Below.refl _ _) _)⟩⟩
  go_enter Tryd.func10, Tryd.ntmps10
  go_upto_region 1 with (fail)
  refine start_ (n := 9) (S := fun w' => w'.cell? ⟨w.heap.size, 0, none⟩ = some (.int .i64 cw) ∧ w'.cell? ⟨w.heap.size, 1, none⟩ = some (.int .i64 cd) ∧ Aside0 (Below w.heap.size w w')) (ds := []) #[false, false, false, false, false, false, false, false, false] (by kernel_rfl) rfl rfl hSt (fun hHeld => ?_)
  refine pure_ (i := 0) (N := some 3) (v := ?_) (a' := ?_) #[true, false, false, false, false, false, false, false, false] rfl rfl (by kernel_rfl) (fun _ _ _ h => h) (Or.inl ⟨by rfl, ?_⟩) ?_ ?_
  rotate_left
  · intro w'
    go_simp
    with_reducible rfl
  rotate_left
  · simp only [Act.put, List.setIfInBounds_toArray, List.set_cons_zero, List.set_cons_succ, i64_w, i32_w]
    rfl
  refine pure_ (i := 4) (N := some 7) (v := ?_) (a' := ?_) #[true, false, false, false, true, false, false, false, false] rfl rfl (by kernel_rfl) (fun _ _ _ h => h) (Or.inl ⟨by rfl, ?_⟩) ?_ ?_
  rotate_left
  · intro w'
    go_simp
    with_reducible rfl
  rotate_left
  · simp only [Act.put, List.setIfInBounds_toArray, List.set_cons_zero, List.set_cons_succ, i64_w, i32_w]
    rfl
  refine take_ (i := 1) (N := some 4) (v := ?_) (a' := ?_) #[true, true, false, false, true, false, false, false, false] rfl rfl (by kernel_rfl) (fun _ _ _ h => h) (Or.inl ⟨by rfl, ?_⟩) hHeld ?_ ?_
  rotate_left
  · rintro w' ⟨s0, s1, s2⟩
    go_simp
    with_reducible rfl
  rotate_left
  · simp only [Act.put, List.setIfInBounds_toArray, List.set_cons_zero, List.set_cons_succ, i64_w, i32_w]
    rfl
  refine take_ (i := 5) (N := some 8) (v := ?_) (a' := ?_) #[true, true, false, false, true, true, false, false, false] rfl rfl (by kernel_rfl) (fun _ _ _ h => h) (Or.inl ⟨by rfl, ?_⟩) hHeld ?_ ?_
  rotate_left
  · rintro w' ⟨s0, s1, s2⟩
    go_simp
    with_reducible rfl
  rotate_left
  · simp only [Act.put, List.setIfInBounds_toArray, List.set_cons_zero, List.set_cons_succ, i64_w, i32_w]
    rfl
  refine one_ (i := 2) (N := some 5) #[true, true, true, false, true, true, false, false, false] rfl rfl (by kernel_rfl) (by decide) (fun K hK => ?_)
  refine goes_ Tryd.func14 (by kernel_rfl) rfl #[.int .i64 cw] (by rfl) rfl rfl (by (try simp only [List.map_toArray, List.map_cons, List.map_nil]); first | done | rfl) ?_
  refine ((itoa cw _ (by omega) (by omega) (tab HT.out hHeld.2.2.out))).mono ?_
  rintro e w5 ⟨rfl, hb⟩
  refine ⟨_, rfl, ?_⟩
  refine hK.out _ _ (st2_below hHeld hb) (fun hHeld => ?_)
  clear hK K
  refine norm_ (a' := ?_) ?_ ?_
  rotate_left
  · show Act.put _ (some 5) _ = _
    simp only [Act.put, List.setIfInBounds_toArray, List.set_cons_zero, List.set_cons_succ, i64_w, i32_w]
    rfl
  refine pure_ (i := 3) (N := some 6) (v := ?_) (a' := ?_) #[true, true, true, true, true, true, false, false, false] rfl rfl (by kernel_rfl) (fun _ _ _ h => h) (Or.inl ⟨by rfl, ?_⟩) ?_ ?_
  rotate_left
  · intro w'
    go_simp
    with_reducible rfl
  rotate_left
  · simp only [Act.put, List.setIfInBounds_toArray, List.set_cons_zero, List.set_cons_succ, i64_w, i32_w]
    rfl
  refine one_ (i := 6) (N := some 9) #[true, true, true, true, true, true, true, false, false] rfl rfl (by kernel_rfl) (by decide) (fun K hK => ?_)
  refine goes_ Tryd.func14 (by kernel_rfl) rfl #[.int .i64 cd] (by rfl) rfl rfl (by (try simp only [List.map_toArray, List.map_cons, List.map_nil]); first | done | rfl) ?_
  refine ((itoa cd _ (by omega) (by omega) (tab HT.out hHeld.2.2.out))).mono ?_
  rintro e w6 ⟨rfl, hb⟩
  refine ⟨_, rfl, ?_⟩
  refine hK.out _ _ (st2_below hHeld hb) (fun hHeld => ?_)
  clear hK K
  refine norm_ (a' := ?_) ?_ ?_
  rotate_left
  · show Act.put _ (some 9) _ = _
    simp only [Act.put, List.setIfInBounds_toArray, List.set_cons_zero, List.set_cons_succ, i64_w, i32_w]
    rfl
  refine pure_ (i := 7) (N := some 10) (v := ?_) (a' := ?_) #[true, true, true, true, true, true, true, true, false] rfl rfl (by kernel_rfl) (fun _ _ _ h => h) (Or.inl ⟨by rfl, ?_⟩) ?_ ?_
  rotate_left
  · intro w'
    go_simp
    with_reducible rfl
  rotate_left
  · simp only [Act.put, List.setIfInBounds_toArray, List.set_cons_zero, List.set_cons_succ, i64_w, i32_w]
    rfl
  refine pure_ (i := 8) (N := some 2) (v := ?_) (a' := ?_) #[true, true, true, true, true, true, true, true, true] rfl rfl (by kernel_rfl) (fun _ _ _ h => h) (Or.inl ⟨by rfl, ?_⟩) ?_ ?_
  rotate_left
  · intro w'
    go_simp
    with_reducible rfl
  rotate_left
  · simp only [Act.put, List.setIfInBounds_toArray, List.set_cons_zero, List.set_cons_succ, i64_w, i32_w]
    rfl
  refine done_ (by kernel_rfl) ?_
  obtain ⟨_, _, HB⟩ := hHeld
  go_wp2_with fail
  go_ret
  exact ⟨rfl, HB.out⟩
end Go.Proofs.YtcbjamkhnjpijaaDoor.Num
