/- slices.MinFunc of a row of slices, cmp.Compare, the comparison of BestSpot and impl.BestSpot at this program. Conditions: the two corners' numbers as the theorems say; the printed list of first spots is r, its elements have two numbers or more. -/
import Derived.Test.YtnnedicoapdkkaaSpots
namespace Go.Proofs.Ytnnedicoapdkkaa.Best
set_option linter.unusedVariables false
set_option linter.unusedSimpArgs false
open Go.Shelf Go.RowKit Go.Proofs.YtnnedicoapdkkaaW.PrintWords Go.Proofs.YtnnedicoapdkkaaW.PrintLast Go.Proofs.YtnnedicoapdkkaaW.PrintMore DF Clo Spots PFnExactBestSpot

/-- The first of the least. -/
def mn {α : Type} (lt : α → α → Bool) : α → List α → α
  | m, [] => m
  | m, x :: t => mn lt (if lt x m = true then x else m) t
theorem mn_mem {α : Type} (lt : α → α → Bool) : ∀ (t : List α) (m : α), mn lt m t = m ∨ mn lt m t ∈ t
  | [], m => .inl rfl
  | x :: t, m => by
    rw [mn]
    by_cases h : lt x m = true
    · rw [if_pos h]
      rcases mn_mem lt t x with h2 | h2
      · exact .inr (by rw [h2]; simp)
      · exact .inr (by simp [h2])
    · rw [if_neg h]
      rcases mn_mem lt t m with h2 | h2
      · exact .inl h2
      · exact .inr (by simp [h2])

set_option maxHeartbeats 4000000 in
set_option maxRecDepth 100000 in
theorem minFunc {α : Type} (d : Kd α) (hs : d.sz = 1) (cf : α → α → Int) (gf : Nat) (lb : Array Value) (A : Option Addr) (c : Nat) (x0 : α) (xs : List α) (w : World)
    (eg : ∀ args w, (callFunc gf args).run Try.prog w = .ok (.enter gf args) w)
    (hT : ∀ W x y u v, Below w.heap.size w W → x ∈ x0 :: xs → y ∈ x0 :: xs → d.K W x [u] → d.K W y [v] → Calls Try.prog gf (#[u, v] ++ lb) W fun e w' => e = .returned (.int .i64 (cf x y)) ∧ Below W.heap.size W w')
    (hC : d.C w A (x0 :: xs).length (x0 :: xs)) (hc : (x0 :: xs).length ≤ c) :
    Calls Try.prog 39 #[.slice A (x0 :: xs).length c, .func (.func gf) #[] lb] w fun e w' => ∃ u, e = .returned u ∧ d.K w' (mn (fun x m => decide (cf x m < 0)) x0 xs) [u] ∧ Below w.heap.size w w' := by
  obtain ⟨R, hR⟩ : ∃ R, mn (fun x m => decide (cf x m < 0)) x0 xs = R := ⟨_, rfl⟩
  rw [hR]
  obtain ⟨l, hl⟩ : ∃ l, x0 :: xs = l := ⟨_, rfl⟩
  have hR1 : Aside0 (mn (fun x m => decide (cf x m < 0)) x0 (l.drop 1) = R) := ⟨by rw [← hl]; exact hR⟩
  have h0 : 0 < l.length := by rw [← hl]; simp
  have hx0 : l[0] = x0 := by subst hl; rfl
  rw [hl] at hT hC hc ⊢
  obtain ⟨ad, u0, rfl, hK0, hc0⟩ := C_one hs hC 0 h0
  rw [hx0] at hK0
  rw [show ad.add 0 = ad by simp [Addr.add]] at hc0
  have hM0 : Aside0 (x0 ∈ l) := ⟨by rw [← hl]; simp⟩
  have hm : l.length ≤ 9223372036854775807 := hC.2.1
  have HT := Aside0.mk hT
  have HC := Aside0.mk hC
  have HK0 := Aside0.mk hK0
  have HB := Aside0.mk (Below.refl w.heap.size w)
  have hz : (0 : Int) < (l.length : Int) := by omega
  have hz1 : ¬ (l.length : Int) < 1 := by omega
  obtain ⟨A0, c0, rfl⟩ : ∃ y : {v : Value // v.oneCell' = true}, ∃ q : Unit, u0 = y.val := ⟨⟨u0, d.K_one hK0 u0 (by simp)⟩, (), rfl⟩
  clear hT hC hK0 hl hR hx0
  go_enter Try.func39, Try.ntmps39
  go_wp2
  go_loopw [5, 6] (fun v5 v6 wr => ∃ (i : Nat) (m : α) (u : {v : Value // v.oneCell' = true}), v5 = u.val ∧ v6 = .int .i64 i ∧ Aside0 (1 ≤ i) ∧ Aside0 (i ≤ l.length) ∧ Aside0 (m ∈ l) ∧ Aside0 (d.K wr m [u.val]) ∧ Aside0 (mn (fun x m => decide (cf x m < 0)) m (l.drop i) = R) ∧ Aside0 (Below w.heap.size w wr)) (fun _ v6 _ => l.length - (intOf v6).toNat)
  case atStart => exact ⟨1, x0, A0, rfl, rfl, ⟨Nat.le_refl _⟩, ⟨h0⟩, hM0, HK0, hR1, HB⟩
  case round =>
    clear HB HK0 hM0 hR1 hc0 h0 hz hz1
    obtain ⟨i, m, u, rfl, rfl, H1, HI, HM, HK, HR, HB⟩ := hrel
    by_cases hi : i < l.length
    · obtain ⟨ad', t, hA, hKi, hx⟩ := C_one hs (Kd.C_below HC.out HB.out) i hi
      cases hA
      obtain ⟨t, rfl⟩ : ∃ y : {v : Value // v.oneCell' = true}, t = y.val := ⟨⟨t, d.K_one hKi t (by simp)⟩, rfl⟩
      have hcall := HT.out wr l[i] m t.val u.val HB.out (List.getElem_mem hi) HM.out hKi HK.out
      have hiz : (i : Int) < (l.length : Int) := by omega
      have HI1 : Aside0 (i + 1 ≤ l.length) := ⟨hi⟩
      have H11 : Aside0 (1 ≤ i + 1) := ⟨by omega⟩
      have hr := HR.out
      rw [List.drop_eq_getElem_cons hi, mn] at hr
      by_cases hq : cf l[i] m < 0
      · rw [if_pos (decide_eq_true hq)] at hr
        have HQ := Aside0.mk hcall
        have HR1 := Aside0.mk hr
        have HMi := Aside0.mk (List.getElem_mem hi)
        have HKi := Aside0.mk hKi
        clear hcall hr hKi
        generalize l[i] = y at HQ HR1 HMi HKi hq
        generalize cf y m = z at HQ hq
        go_wp2_with fail
        refine HQ.out.mono ?_
        rintro e w1 ⟨rfl, hb1⟩
        have HB1 := Aside0.mk (below_then HB.out HB.out.size hb1)
        have HK1 := Aside0.mk (d.K_below hb1 HKi.out)
        have hx1 := pw_cell_below hb1 hx
        clear hb1 hx
        go_wp2
        go_roundw
        case rel => exact ⟨i + 1, y, t, rfl, by go_num, H11, HI1, HMi, HK1, HR1, HB1⟩
        case measure => simp [intOf]; omega
      · rw [if_neg (by simpa using hq)] at hr
        have HQ := Aside0.mk hcall
        have HR1 := Aside0.mk hr
        clear hcall hr hKi
        generalize l[i] = y at HQ hq
        generalize cf y m = z at HQ hq
        go_wp2_with fail
        refine HQ.out.mono ?_
        rintro e w1 ⟨rfl, hb1⟩
        have HB1 := Aside0.mk (below_then HB.out HB.out.size hb1)
        have HK1 := Aside0.mk (d.K_below hb1 HK.out)
        clear hb1 hx
        go_wp2
        go_roundw
        case rel => exact ⟨i + 1, m, u, rfl, by go_num, H11, HI1, HM, HK1, HR1, HB1⟩
        case measure => simp [intOf]; omega
    · have hiz : ¬ (i : Int) < (l.length : Int) := by omega
      have hmR : m = R := by have := HR.out; rw [List.drop_eq_nil_of_le (by omega)] at this; exact this
      have HKR : Aside0 (d.K wr R [u.val]) := ⟨by rw [← hmR]; exact HK.out⟩
      clear hmR
      go_wp2
      go_ret
      exact ⟨_, rfl, HKR.out, HB.out⟩

theorem isNaN (a : Int) (w : World) : Calls Try.prog 61 #[.int .i64 a] w fun e w' => e = .returned (.bool false) ∧ w = w' := by
  have h : (a != a) = false := by simp
  go_enter Try.func61, Try.ntmps61
  go_wp2
  go_ret
  exact ⟨rfl, rfl⟩
def cm (x y : Int) : Int := if x < y then -1 else if y < x then 1 else 0
theorem cm_neg (x y : Int) : cm x y < 0 ↔ x < y := by
  unfold cm
  by_cases h : x < y
  · rw [if_pos h]; simp [h]
  · rw [if_neg h]
    by_cases h2 : y < x
    · rw [if_pos h2]; simp [h]
    · rw [if_neg h2]; simp [h]
set_option maxHeartbeats 2000000 in
theorem compare (a b : Int) (w : World) : Calls Try.prog 42 #[.int .i64 a, .int .i64 b] w fun e w' => e = .returned (.int .i64 (cm a b)) ∧ w = w' := by
  unfold cm
  by_cases h1 : a < b
  · rw [if_pos h1]
    go_enter Try.func42, Try.ntmps42
    go_wp2_with fail
    refine (isNaN _ _).mono ?_
    rintro e w1 ⟨rfl, rfl⟩
    go_wp2_with fail
    refine (isNaN _ _).mono ?_
    rintro e w1 ⟨rfl, rfl⟩
    go_wp2
    go_ret
    exact ⟨rfl, rfl⟩
  · rw [if_neg h1]
    by_cases h2 : b < a
    · rw [if_pos h2]
      have h3 : a > b := h2
      go_enter Try.func42, Try.ntmps42
      go_wp2_with fail
      refine (isNaN _ _).mono ?_
      rintro e w1 ⟨rfl, rfl⟩
      go_wp2_with fail
      refine (isNaN _ _).mono ?_
      rintro e w1 ⟨rfl, rfl⟩
      go_wp2
      go_ret
      exact ⟨rfl, rfl⟩
    · rw [if_neg h2]
      have h3 : ¬ a > b := h2
      go_enter Try.func42, Try.ntmps42
      go_wp2_with fail
      refine (isNaN _ _).mono ?_
      rintro e w1 ⟨rfl, rfl⟩
      go_wp2_with fail
      refine (isNaN _ _).mono ?_
      rintro e w1 ⟨rfl, rfl⟩
      go_wp2
      go_ret
      exact ⟨rfl, rfl⟩

theorem st_below2 {w0 W W' : World} {a1 a2 a3 a4 a5 a6 : Addr} {v1 v2 v3 v4 v5 v6 : Value}
    (h : W.cell? a1 = some v1 ∧ W.cell? a2 = some v2 ∧ W.cell? a3 = some v3 ∧ W.cell? a4 = some v4 ∧ W.cell? a5 = some v5 ∧ W.cell? a6 = some v6 ∧ Aside0 (Below w0.heap.size w0 W)) (hb : Below W.heap.size W W') :
    W'.cell? a1 = some v1 ∧ W'.cell? a2 = some v2 ∧ W'.cell? a3 = some v3 ∧ W'.cell? a4 = some v4 ∧ W'.cell? a5 = some v5 ∧ W'.cell? a6 = some v6 ∧ Aside0 (Below w0.heap.size w0 W') :=
  ⟨pw_cell_below hb h.1, pw_cell_below hb h.2.1, pw_cell_below hb h.2.2.1, pw_cell_below hb h.2.2.2.1, pw_cell_below hb h.2.2.2.2.1, pw_cell_below hb h.2.2.2.2.2.1, ⟨below_then h.2.2.2.2.2.2.out h.2.2.2.2.2.2.out.size hb⟩⟩
theorem st_same {w0 W W' : World} {a1 a2 a3 a4 a5 a6 : Addr} {v1 v2 v3 v4 v5 v6 : Value}
    (h : W.cell? a1 = some v1 ∧ W.cell? a2 = some v2 ∧ W.cell? a3 = some v3 ∧ W.cell? a4 = some v4 ∧ W.cell? a5 = some v5 ∧ W.cell? a6 = some v6 ∧ Aside0 (Below w0.heap.size w0 W)) (hb : W = W') :
    W'.cell? a1 = some v1 ∧ W'.cell? a2 = some v2 ∧ W'.cell? a3 = some v3 ∧ W'.cell? a4 = some v4 ∧ W'.cell? a5 = some v5 ∧ W'.cell? a6 = some v6 ∧ Aside0 (Below w0.heap.size w0 W') := by subst hb; exact h

def cfn (cw cd : Int) (x y : List Int) : Int := cm (nd cw cd (rd x 0) (rd x 1)) (nd cw cd (rd y 0) (rd y 1))
set_option maxHeartbeats 4000000 in
set_option maxRecDepth 100000 in
theorem clo41 (cw cd : Int) (gc : Nat) (x y : List Int) (u v : Value) (w : World) (hx : 2 ≤ x.length) (hy : 2 ≤ y.length) (hK : KL.K w x [u]) (hL : KL.K w y [v])
    (h1 : w.cell? ⟨gc, 0, none⟩ = some (.int .i64 cw)) (h2 : w.cell? ⟨gc, 1, none⟩ = some (.int .i64 cd)) :
    Calls Try.prog 41 (#[u, v] ++ #[.pointer (some ⟨gc, 0, none⟩)]) w fun e w' => e = .returned (.int .i64 (cfn cw cd x y)) ∧ Below w.heap.size w w' := by
  obtain ⟨ad, c, rfl, h3, h4⟩ := two hx hK
  obtain ⟨bd, c2, rfl, h5, h6⟩ := two hy hL
  have hl0 : (0 : Int) < (x.length : Int) := by omega
  have hl1 : (1 : Int) < (x.length : Int) := by omega
  have hln0 : 0 < x.length := by omega
  have hln1 : 1 < x.length := by omega
  have hm0 : (0 : Int) < (y.length : Int) := by omega
  have hm1 : (1 : Int) < (y.length : Int) := by omega
  have hmn0 : 0 < y.length := by omega
  have hmn1 : 1 < y.length := by omega
  have hu26 := Try.underlying26
  unfold cfn
  generalize rd x 0 = a at h3 ⊢
  generalize rd x 1 = b at h4 ⊢
  generalize rd y 0 = a2 at h5 ⊢
  generalize rd y 1 = b2 at h6 ⊢
  clear hK hL hx hy
  have HN := Aside0.mk (needs cw cd a b)
  have HN2 := Aside0.mk (needs cw cd a2 b2)
  generalize nd cw cd a b = n at HN ⊢
  generalize nd cw cd a2 b2 = n2 at HN2 ⊢
  have HCm := Aside0.mk (compare n n2)
  generalize cm n n2 = r at HCm ⊢
  have hSt : w.drew.cell? ⟨gc, 0, none⟩ = some (.int .i64 cw) ∧ w.drew.cell? ⟨gc, 1, none⟩ = some (.int .i64 cd) ∧ w.drew.cell? ad = some (.int .i64 a) ∧ w.drew.cell? ⟨ad.block, ad.off + 1, none⟩ = some (.int .i64 b) ∧ w.drew.cell? bd = some (.int .i64 a2) ∧ w.drew.cell? ⟨bd.block, bd.off + 1, none⟩ = some (.int .i64 b2) ∧ Aside0 (Below w.heap.size w w.drew) :=
    ⟨h1, h2, h3, h4, h5, h6, ⟨below_drew (Below.refl _ _)⟩⟩
  clear h1 h2 h3 h4 h5 h6
  go_enter Try.func41, Try.ntmps41
  go_upto_region 1 with (fail)
  refine start_ (n := 18) (S := fun w' => w'.cell? ⟨gc, 0, none⟩ = some (.int .i64 cw) ∧ w'.cell? ⟨gc, 1, none⟩ = some (.int .i64 cd) ∧ w'.cell? ad = some (.int .i64 a) ∧ w'.cell? ⟨ad.block, ad.off + 1, none⟩ = some (.int .i64 b) ∧ w'.cell? bd = some (.int .i64 a2) ∧ w'.cell? ⟨bd.block, bd.off + 1, none⟩ = some (.int .i64 b2) ∧ Aside0 (Below w.heap.size w w')) (ds := []) #[false, false, false, false, false, false, false, false, false, false, false, false, false, false, false, false, false, false] (by kernel_rfl) rfl rfl hSt (fun hHeld => ?_)
  refine pure_ (i := 1) (N := some 7) (v := ?_) (a' := ?_) #[false, true, false, false, false, false, false, false, false, false, false, false, false, false, false, false, false, false] rfl rfl (by kernel_rfl) (fun _ _ _ h => h) (Or.inl ⟨by rfl, ?_⟩) ?_ ?_
  rotate_left
  · intro w'
    go_simp
    with_reducible rfl
  rotate_left
  · simp only [Act.put, List.setIfInBounds_toArray, List.set_cons_zero, List.set_cons_succ, i64_w, i32_w]
    rfl
  refine pure_ (i := 2) (N := some 8) (v := ?_) (a' := ?_) #[false, true, true, false, false, false, false, false, false, false, false, false, false, false, false, false, false, false] rfl rfl (by kernel_rfl) (fun _ _ _ h => h) (Or.inl ⟨by rfl, ?_⟩) ?_ ?_
  rotate_left
  · intro w'
    go_simp
    with_reducible rfl
  rotate_left
  · simp only [Act.put, List.setIfInBounds_toArray, List.set_cons_zero, List.set_cons_succ, i64_w, i32_w]
    rfl
  refine pure_ (i := 4) (N := some 10) (v := ?_) (a' := ?_) #[false, true, true, false, true, false, false, false, false, false, false, false, false, false, false, false, false, false] rfl rfl (by kernel_rfl) (fun _ _ _ h => h) (Or.inl ⟨by rfl, ?_⟩) ?_ ?_
  rotate_left
  · intro w'
    go_simp
    with_reducible rfl
  rotate_left
  · simp only [Act.put, List.setIfInBounds_toArray, List.set_cons_zero, List.set_cons_succ, i64_w, i32_w]
    rfl
  refine pure_ (i := 5) (N := some 11) (v := ?_) (a' := ?_) #[false, true, true, false, true, true, false, false, false, false, false, false, false, false, false, false, false, false] rfl rfl (by kernel_rfl) (fun _ _ _ h => h) (Or.inl ⟨by rfl, ?_⟩) ?_ ?_
  rotate_left
  · intro w'
    go_simp
    with_reducible rfl
  rotate_left
  · simp only [Act.put, List.setIfInBounds_toArray, List.set_cons_zero, List.set_cons_succ, i64_w, i32_w]
    rfl
  refine pure_ (i := 9) (N := some 15) (v := ?_) (a' := ?_) #[false, true, true, false, true, true, false, false, false, true, false, false, false, false, false, false, false, false] rfl rfl (by kernel_rfl) (fun _ _ _ h => h) (Or.inl ⟨by rfl, ?_⟩) ?_ ?_
  rotate_left
  · intro w'
    go_simp
    with_reducible rfl
  rotate_left
  · simp only [Act.put, List.setIfInBounds_toArray, List.set_cons_zero, List.set_cons_succ, i64_w, i32_w]
    rfl
  refine pure_ (i := 10) (N := some 16) (v := ?_) (a' := ?_) #[false, true, true, false, true, true, false, false, false, true, true, false, false, false, false, false, false, false] rfl rfl (by kernel_rfl) (fun _ _ _ h => h) (Or.inl ⟨by rfl, ?_⟩) ?_ ?_
  rotate_left
  · intro w'
    go_simp
    with_reducible rfl
  rotate_left
  · simp only [Act.put, List.setIfInBounds_toArray, List.set_cons_zero, List.set_cons_succ, i64_w, i32_w]
    rfl
  refine pure_ (i := 12) (N := some 18) (v := ?_) (a' := ?_) #[false, true, true, false, true, true, false, false, false, true, true, false, true, false, false, false, false, false] rfl rfl (by kernel_rfl) (fun _ _ _ h => h) (Or.inl ⟨by rfl, ?_⟩) ?_ ?_
  rotate_left
  · intro w'
    go_simp
    with_reducible rfl
  rotate_left
  · simp only [Act.put, List.setIfInBounds_toArray, List.set_cons_zero, List.set_cons_succ, i64_w, i32_w]
    rfl
  refine pure_ (i := 13) (N := some 19) (v := ?_) (a' := ?_) #[false, true, true, false, true, true, false, false, false, true, true, false, true, true, false, false, false, false] rfl rfl (by kernel_rfl) (fun _ _ _ h => h) (Or.inl ⟨by rfl, ?_⟩) ?_ ?_
  rotate_left
  · intro w'
    go_simp
    with_reducible rfl
  rotate_left
  · simp only [Act.put, List.setIfInBounds_toArray, List.set_cons_zero, List.set_cons_succ, i64_w, i32_w]
    rfl
  refine take_ (i := 0) (N := some 6) (v := ?_) (a' := ?_) #[true, true, true, false, true, true, false, false, false, true, true, false, true, true, false, false, false, false] rfl rfl (by kernel_rfl) (fun _ _ _ h => h) (Or.inl ⟨by rfl, ?_⟩) hHeld ?_ ?_
  rotate_left
  · rintro w' ⟨s0, s1, s2, s3, s4, s5, s6⟩
    go_simp
    with_reducible rfl
  rotate_left
  · simp only [Act.put, List.setIfInBounds_toArray, List.set_cons_zero, List.set_cons_succ, i64_w, i32_w]
    rfl
  refine take_ (i := 3) (N := some 9) (v := ?_) (a' := ?_) #[true, true, true, true, true, true, false, false, false, true, true, false, true, true, false, false, false, false] rfl rfl (by kernel_rfl) (fun _ _ _ h => h) (Or.inl ⟨by rfl, ?_⟩) hHeld ?_ ?_
  rotate_left
  · rintro w' ⟨s0, s1, s2, s3, s4, s5, s6⟩
    go_simp
    with_reducible rfl
  rotate_left
  · simp only [Act.put, List.setIfInBounds_toArray, List.set_cons_zero, List.set_cons_succ, i64_w, i32_w]
    rfl
  refine take_ (i := 6) (N := some 12) (v := ?_) (a' := ?_) #[true, true, true, true, true, true, true, false, false, true, true, false, true, true, false, false, false, false] rfl rfl (by kernel_rfl) (fun _ _ _ h => h) (Or.inl ⟨by rfl, ?_⟩) hHeld ?_ ?_
  rotate_left
  · rintro w' ⟨s0, s1, s2, s3, s4, s5, s6⟩
    go_simp
    with_reducible rfl
  rotate_left
  · simp only [Act.put, List.setIfInBounds_toArray, List.set_cons_zero, List.set_cons_succ, i64_w, i32_w]
    rfl
  refine take_ (i := 8) (N := some 14) (v := ?_) (a' := ?_) #[true, true, true, true, true, true, true, false, true, true, true, false, true, true, false, false, false, false] rfl rfl (by kernel_rfl) (fun _ _ _ h => h) (Or.inl ⟨by rfl, ?_⟩) hHeld ?_ ?_
  rotate_left
  · rintro w' ⟨s0, s1, s2, s3, s4, s5, s6⟩
    go_simp
    with_reducible rfl
  rotate_left
  · simp only [Act.put, List.setIfInBounds_toArray, List.set_cons_zero, List.set_cons_succ, i64_w, i32_w]
    rfl
  refine take_ (i := 11) (N := some 17) (v := ?_) (a' := ?_) #[true, true, true, true, true, true, true, false, true, true, true, true, true, true, false, false, false, false] rfl rfl (by kernel_rfl) (fun _ _ _ h => h) (Or.inl ⟨by rfl, ?_⟩) hHeld ?_ ?_
  rotate_left
  · rintro w' ⟨s0, s1, s2, s3, s4, s5, s6⟩
    go_simp
    with_reducible rfl
  rotate_left
  · simp only [Act.put, List.setIfInBounds_toArray, List.set_cons_zero, List.set_cons_succ, i64_w, i32_w]
    rfl
  refine take_ (i := 14) (N := some 20) (v := ?_) (a' := ?_) #[true, true, true, true, true, true, true, false, true, true, true, true, true, true, true, false, false, false] rfl rfl (by kernel_rfl) (fun _ _ _ h => h) (Or.inl ⟨by rfl, ?_⟩) hHeld ?_ ?_
  rotate_left
  · rintro w' ⟨s0, s1, s2, s3, s4, s5, s6⟩
    go_simp
    with_reducible rfl
  rotate_left
  · simp only [Act.put, List.setIfInBounds_toArray, List.set_cons_zero, List.set_cons_succ, i64_w, i32_w]
    rfl
  refine one_ (i := 7) (N := some 13) #[true, true, true, true, true, true, true, true, true, true, true, true, true, true, true, false, false, false] rfl rfl (by kernel_rfl) (by decide) (fun K hK => ?_)
  refine goes_ Try.func43 (by kernel_rfl) rfl #[.agg #[.int .i64 cw, .int .i64 cd], .int .i64 a, .int .i64 b] (by rfl) rfl rfl (by (try simp only [List.map_toArray, List.map_cons, List.map_nil]); first | done | rfl) ?_
  refine (HN.out _).mono ?_
  rintro e w5 ⟨rfl, hb⟩
  refine ⟨_, rfl, ?_⟩
  refine hK.out _ _ (st_below2 hHeld hb) (fun hHeld => ?_)
  clear hK K
  refine norm_ (a' := ?_) ?_ ?_
  rotate_left
  · show Act.put _ (some 13) _ = _
    simp only [Act.put, List.setIfInBounds_toArray, List.set_cons_zero, List.set_cons_succ, i64_w, i32_w]
    rfl
  refine one_ (i := 15) (N := some 21) #[true, true, true, true, true, true, true, true, true, true, true, true, true, true, true, true, false, false] rfl rfl (by kernel_rfl) (by decide) (fun K hK => ?_)
  refine goes_ Try.func43 (by kernel_rfl) rfl #[.agg #[.int .i64 cw, .int .i64 cd], .int .i64 a2, .int .i64 b2] (by rfl) rfl rfl (by (try simp only [List.map_toArray, List.map_cons, List.map_nil]); first | done | rfl) ?_
  refine (HN2.out _).mono ?_
  rintro e w6 ⟨rfl, hb⟩
  refine ⟨_, rfl, ?_⟩
  refine hK.out _ _ (st_below2 hHeld hb) (fun hHeld => ?_)
  clear hK K
  refine norm_ (a' := ?_) ?_ ?_
  rotate_left
  · show Act.put _ (some 21) _ = _
    simp only [Act.put, List.setIfInBounds_toArray, List.set_cons_zero, List.set_cons_succ, i64_w, i32_w]
    rfl
  refine one_ (i := 16) (N := some 22) #[true, true, true, true, true, true, true, true, true, true, true, true, true, true, true, true, true, false] rfl rfl (by kernel_rfl) (by decide) (fun K hK => ?_)
  refine goes_ Try.func42 (by kernel_rfl) rfl #[.int .i64 n, .int .i64 n2] (by rfl) rfl rfl (by (try simp only [List.map_toArray, List.map_cons, List.map_nil]); first | done | rfl) ?_
  refine (HCm.out _).mono ?_
  rintro e w7 ⟨rfl, hb⟩
  refine ⟨_, rfl, ?_⟩
  refine hK.out _ _ (st_same hHeld hb) (fun hHeld => ?_)
  clear hK K
  refine norm_ (a' := ?_) ?_ ?_
  rotate_left
  · show Act.put _ (some 22) _ = _
    simp only [Act.put, List.setIfInBounds_toArray, List.set_cons_zero, List.set_cons_succ, i64_w, i32_w]
    rfl
  refine pure_ (i := 17) (N := some 5) (v := ?_) (a' := ?_) #[true, true, true, true, true, true, true, true, true, true, true, true, true, true, true, true, true, true] rfl rfl (by kernel_rfl) (fun _ _ _ h => h) (Or.inl ⟨by rfl, ?_⟩) ?_ ?_
  rotate_left
  · intro w'
    go_simp
    with_reducible rfl
  rotate_left
  · simp only [Act.put, List.setIfInBounds_toArray, List.set_cons_zero, List.set_cons_succ, i64_w, i32_w]
    rfl
  refine done_ (by kernel_rfl) ?_
  obtain ⟨_, _, _, _, _, _, HB⟩ := hHeld
  go_wp2_with fail
  go_ret
  exact ⟨rfl, HB.out⟩

theorem results_tmp4 {fn : Func} {t u v x : Tmp} (h : fn.results = #[.tmp t, .tmp u, .tmp v, .tmp x]) (tmps : Array Value) (P : Program) (w : World) :
    (results fn tmps).run P w = .ok (.tuple #[tmps.getD t undef, tmps.getD u undef, tmps.getD v undef, tmps.getD x undef]) w := by
  simp [results, h]
theorem st_below3 {w0 W W' : World} {a1 a2 a3 a4 : Addr} {v1 v2 v3 v4 : Value}
    (h : W.cell? a1 = some v1 ∧ W.cell? a2 = some v2 ∧ W.cell? a3 = some v3 ∧ W.cell? a4 = some v4 ∧ Aside0 (Below w0.heap.size w0 W)) (hb : Below W.heap.size W W') :
    W'.cell? a1 = some v1 ∧ W'.cell? a2 = some v2 ∧ W'.cell? a3 = some v3 ∧ W'.cell? a4 = some v4 ∧ Aside0 (Below w0.heap.size w0 W') :=
  ⟨pw_cell_below hb h.1, pw_cell_below hb h.2.1, pw_cell_below hb h.2.2.1, pw_cell_below hb h.2.2.2.1, ⟨below_then h.2.2.2.2.out h.2.2.2.2.out.size hb⟩⟩
def pick (cw cd : Int) (x0 : List Int) (r : List (List Int)) : List Int := mn (fun x m => decide (cfn cw cd x m < 0)) x0 r
theorem pick_two {cw cd : Int} {x0 : List Int} {r : List (List Int)} (hl : ∀ x ∈ x0 :: r, 2 ≤ x.length) : 2 ≤ (pick cw cd x0 r).length := by
  rcases mn_mem (fun x m => decide (cfn cw cd x m < 0)) r x0 with h | h
  · exact hl _ (by unfold pick; rw [h]; simp)
  · exact hl _ (by unfold pick; simp [h])

set_option maxHeartbeats 4000000 in
set_option maxRecDepth 100000 in
theorem best_yes (k : Nat) (cw cd pl : Int) (x0 : List Int) (r : List (List Int)) (w : World) (hI : impl_IsCorner.f cw cd = some true) (hP : impl_within.f pl 2 200 = some true) (h : impl_firsts.f k pl = some (x0 :: r)) (hl : ∀ x ∈ x0 :: r, 2 ≤ x.length) :
    Calls Try.prog 13 #[.agg #[.int .i64 cw, .int .i64 cd], .int .i64 pl] w fun e w' => e = .returned (.tuple #[.int .i64 (rd (pick cw cd x0 r) 0), .int .i64 (rd (pick cw cd x0 r) 1), .int .i64 (nd cw cd (rd (pick cw cd x0 r) 0) (rd (pick cw cd x0 r) 1)), .bool true]) ∧ Below w.heap.size w w' := by
  have hu26 := Try.underlying26
  have CI := Aside0.mk (fun W => impl_IsCorner.calls cw cd true W hI)
  have CP := Aside0.mk (fun W => impl_within.calls pl 2 200 true W hP)
  have HF := Aside0.mk (fun W => impl_firsts.calls k pl (x0 :: r) W h)
  have HL := Aside0.mk hl
  have H2 := pick_two (cw := cw) (cd := cd) hl
  clear hI hP h hl
  generalize hx : pick cw cd x0 r = x at H2 ⊢
  generalize ha : rd x 0 = a
  generalize hb : rd x 1 = b
  generalize hn : nd cw cd a b = n
  have HX := Aside0.mk hx
  have HA := Aside0.mk ha
  have HBb := Aside0.mk hb
  have HN : Aside0 (∀ w, Calls Try.prog 43 #[.agg #[.int .i64 cw, .int .i64 cd], .int .i64 a, .int .i64 b] w fun e w' => e = .returned (.int .i64 n) ∧ Below w.heap.size w w') := ⟨by rw [← hn]; exact needs cw cd a b⟩
  clear hx ha hb hn
  go_enter Try.func13, Try.ntmps13
  go_wp2_with fail
  refine (CI.out _).mono ?_
  rintro e w1 ⟨rfl, hb⟩
  have HB1 := Aside0.mk (below_step (below_alloc (Below.refl w.heap.size w) (boxC cw cd)) hb)
  have BK := Aside0.mk (box_kept hb)
  clear hb
  go_wp2_with fail
  refine (CP.out _).mono ?_
  rintro e wx ⟨rfl, ⟨nd, rfl⟩⟩
  have HB2 := Aside0.mk (pw_below_drewN HB1.out nd)
  have BK2 : Aside0 ((w1.drewN nd).heap[w.heap.size]? = some (boxC cw cd)) := ⟨BK.out⟩
  generalize w1.drewN nd = w2 at HB2 BK2 ⊢
  go_wp2_with fail
  refine (HF.out _).mono ?_
  rintro e w3 ⟨v, rfl, hS, hb⟩
  have HB3 := Aside0.mk (below_then HB2.out HB2.out.size hb)
  have BK3 : Aside0 (w3.heap[w.heap.size]? = some (boxC cw cd)) := ⟨blk_below BK2.out hb⟩
  obtain ⟨A, c, rfl⟩ := Kd.S_slice hS
  have HS := Aside0.mk hS
  clear hb hS
  go_wp2_with fail
  refine (minFunc KL rfl (cfn cw cd) 41 #[.pointer (some ⟨w.heap.size, 0, none⟩)] A c x0 r w3 (enters_of Try.func41 (by kernel_rfl) rfl) ?_ (Kd.S_reads' HS.out).2.2 (Kd.S_reads' HS.out).2.1).mono ?_
  · intro W x y u t hb hx hy hK hL
    have hc := blk_below BK3.out hb
    exact clo41 cw cd w.heap.size x y u t W (HL.out x hx) (HL.out y hy) hK hL (box0 hc) (box1 hc)
  · rintro e w4 ⟨u, rfl, hK, hb⟩
    have HB4 := Aside0.mk (below_then HB3.out HB3.out.size hb)
    have BK4 := blk_below BK3.out hb
    have hc0 := box0 BK4
    have hc1 := box1 BK4
    have hK' : KL.K w4 x [u] := by rw [← HX.out]; exact hK
    clear hb BK4 hK
    obtain ⟨ad, c2, rfl, h4, h5⟩ := two H2 hK'
    have hl0 : (0 : Int) < (x.length : Int) := by omega
    have hl1 : (1 : Int) < (x.length : Int) := by omega
    have hln0 : 0 < x.length := by omega
    have hln1 : 1 < x.length := by omega
    rw [HA.out] at h4
    rw [HBb.out] at h5
    clear hK' H2 HX HA HBb
    have hSt : w4.drew.cell? ⟨w.heap.size, 0, none⟩ = some (.int .i64 cw) ∧ w4.drew.cell? ⟨w.heap.size, 1, none⟩ = some (.int .i64 cd) ∧ w4.drew.cell? ad = some (.int .i64 a) ∧ w4.drew.cell? ⟨ad.block, ad.off + 1, none⟩ = some (.int .i64 b) ∧ Aside0 (Below w.heap.size w w4.drew) :=
      ⟨hc0, hc1, h4, h5, ⟨below_drew HB4.out⟩⟩
    clear hc0 hc1 h4 h5 HB4 HS HF CI CP HL HB3 HB2 HB1 BK BK2 BK3
    go_upto_region 4 with (fail)
    refine start_ (n := 18) (S := fun w' => w'.cell? ⟨w.heap.size, 0, none⟩ = some (.int .i64 cw) ∧ w'.cell? ⟨w.heap.size, 1, none⟩ = some (.int .i64 cd) ∧ w'.cell? ad = some (.int .i64 a) ∧ w'.cell? ⟨ad.block, ad.off + 1, none⟩ = some (.int .i64 b) ∧ Aside0 (Below w.heap.size w w')) (ds := []) #[false, false, false, false, false, false, false, false, false, false, false, false, false, false, false, false, false, false] (by kernel_rfl) rfl rfl hSt (fun hHeld => ?_)
    refine pure_ (i := 0) (N := some 21) (v := ?_) (a' := ?_) #[true, false, false, false, false, false, false, false, false, false, false, false, false, false, false, false, false, false] rfl rfl (by kernel_rfl) (fun _ _ _ h => h) (Or.inl ⟨by rfl, ?_⟩) ?_ ?_
    rotate_left
    · intro w'
      go_simp
      with_reducible rfl
    rotate_left
    · simp only [Act.put, List.setIfInBounds_toArray, List.set_cons_zero, List.set_cons_succ, i64_w, i32_w]
      rfl
    refine pure_ (i := 1) (N := some 22) (v := ?_) (a' := ?_) #[true, true, false, false, false, false, false, false, false, false, false, false, false, false, false, false, false, false] rfl rfl (by kernel_rfl) (fun _ _ _ h => h) (Or.inl ⟨by rfl, ?_⟩) ?_ ?_
    rotate_left
    · intro w'
      go_simp
      with_reducible rfl
    rotate_left
    · simp only [Act.put, List.setIfInBounds_toArray, List.set_cons_zero, List.set_cons_succ, i64_w, i32_w]
      rfl
    refine pure_ (i := 3) (N := some 24) (v := ?_) (a' := ?_) #[true, true, false, true, false, false, false, false, false, false, false, false, false, false, false, false, false, false] rfl rfl (by kernel_rfl) (fun _ _ _ h => h) (Or.inl ⟨by rfl, ?_⟩) ?_ ?_
    rotate_left
    · intro w'
      go_simp
      with_reducible rfl
    rotate_left
    · simp only [Act.put, List.setIfInBounds_toArray, List.set_cons_zero, List.set_cons_succ, i64_w, i32_w]
      rfl
    refine pure_ (i := 4) (N := some 25) (v := ?_) (a' := ?_) #[true, true, false, true, true, false, false, false, false, false, false, false, false, false, false, false, false, false] rfl rfl (by kernel_rfl) (fun _ _ _ h => h) (Or.inl ⟨by rfl, ?_⟩) ?_ ?_
    rotate_left
    · intro w'
      go_simp
      with_reducible rfl
    rotate_left
    · simp only [Act.put, List.setIfInBounds_toArray, List.set_cons_zero, List.set_cons_succ, i64_w, i32_w]
      rfl
    refine pure_ (i := 7) (N := some 28) (v := ?_) (a' := ?_) #[true, true, false, true, true, false, false, true, false, false, false, false, false, false, false, false, false, false] rfl rfl (by kernel_rfl) (fun _ _ _ h => h) (Or.inl ⟨by rfl, ?_⟩) ?_ ?_
    rotate_left
    · intro w'
      go_simp
      with_reducible rfl
    rotate_left
    · simp only [Act.put, List.setIfInBounds_toArray, List.set_cons_zero, List.set_cons_succ, i64_w, i32_w]
      rfl
    refine pure_ (i := 8) (N := some 29) (v := ?_) (a' := ?_) #[true, true, false, true, true, false, false, true, true, false, false, false, false, false, false, false, false, false] rfl rfl (by kernel_rfl) (fun _ _ _ h => h) (Or.inl ⟨by rfl, ?_⟩) ?_ ?_
    rotate_left
    · intro w'
      go_simp
      with_reducible rfl
    rotate_left
    · simp only [Act.put, List.setIfInBounds_toArray, List.set_cons_zero, List.set_cons_succ, i64_w, i32_w]
      rfl
    refine pure_ (i := 10) (N := some 31) (v := ?_) (a' := ?_) #[true, true, false, true, true, false, false, true, true, false, true, false, false, false, false, false, false, false] rfl rfl (by kernel_rfl) (fun _ _ _ h => h) (Or.inl ⟨by rfl, ?_⟩) ?_ ?_
    rotate_left
    · intro w'
      go_simp
      with_reducible rfl
    rotate_left
    · simp only [Act.put, List.setIfInBounds_toArray, List.set_cons_zero, List.set_cons_succ, i64_w, i32_w]
      rfl
    refine pure_ (i := 11) (N := some 32) (v := ?_) (a' := ?_) #[true, true, false, true, true, false, false, true, true, false, true, true, false, false, false, false, false, false] rfl rfl (by kernel_rfl) (fun _ _ _ h => h) (Or.inl ⟨by rfl, ?_⟩) ?_ ?_
    rotate_left
    · intro w'
      go_simp
      with_reducible rfl
    rotate_left
    · simp only [Act.put, List.setIfInBounds_toArray, List.set_cons_zero, List.set_cons_succ, i64_w, i32_w]
      rfl
    refine take_ (i := 2) (N := some 23) (v := ?_) (a' := ?_) #[true, true, true, true, true, false, false, true, true, false, true, true, false, false, false, false, false, false] rfl rfl (by kernel_rfl) (fun _ _ _ h => h) (Or.inl ⟨by rfl, ?_⟩) hHeld ?_ ?_
    rotate_left
    · rintro w' ⟨s0, s1, s2, s3, s4⟩
      go_simp
      with_reducible rfl
    rotate_left
    · simp only [Act.put, List.setIfInBounds_toArray, List.set_cons_zero, List.set_cons_succ, i64_w, i32_w]
      rfl
    refine take_ (i := 5) (N := some 26) (v := ?_) (a' := ?_) #[true, true, true, true, true, true, false, true, true, false, true, true, false, false, false, false, false, false] rfl rfl (by kernel_rfl) (fun _ _ _ h => h) (Or.inl ⟨by rfl, ?_⟩) hHeld ?_ ?_
    rotate_left
    · rintro w' ⟨s0, s1, s2, s3, s4⟩
      go_simp
      with_reducible rfl
    rotate_left
    · simp only [Act.put, List.setIfInBounds_toArray, List.set_cons_zero, List.set_cons_succ, i64_w, i32_w]
      rfl
    refine take_ (i := 6) (N := some 27) (v := ?_) (a' := ?_) #[true, true, true, true, true, true, true, true, true, false, true, true, false, false, false, false, false, false] rfl rfl (by kernel_rfl) (fun _ _ _ h => h) (Or.inl ⟨by rfl, ?_⟩) hHeld ?_ ?_
    rotate_left
    · rintro w' ⟨s0, s1, s2, s3, s4⟩
      go_simp
      with_reducible rfl
    rotate_left
    · simp only [Act.put, List.setIfInBounds_toArray, List.set_cons_zero, List.set_cons_succ, i64_w, i32_w]
      rfl
    refine take_ (i := 9) (N := some 30) (v := ?_) (a' := ?_) #[true, true, true, true, true, true, true, true, true, true, true, true, false, false, false, false, false, false] rfl rfl (by kernel_rfl) (fun _ _ _ h => h) (Or.inl ⟨by rfl, ?_⟩) hHeld ?_ ?_
    rotate_left
    · rintro w' ⟨s0, s1, s2, s3, s4⟩
      go_simp
      with_reducible rfl
    rotate_left
    · simp only [Act.put, List.setIfInBounds_toArray, List.set_cons_zero, List.set_cons_succ, i64_w, i32_w]
      rfl
    refine take_ (i := 12) (N := some 33) (v := ?_) (a' := ?_) #[true, true, true, true, true, true, true, true, true, true, true, true, true, false, false, false, false, false] rfl rfl (by kernel_rfl) (fun _ _ _ h => h) (Or.inl ⟨by rfl, ?_⟩) hHeld ?_ ?_
    rotate_left
    · rintro w' ⟨s0, s1, s2, s3, s4⟩
      go_simp
      with_reducible rfl
    rotate_left
    · simp only [Act.put, List.setIfInBounds_toArray, List.set_cons_zero, List.set_cons_succ, i64_w, i32_w]
      rfl
    refine one_ (i := 13) (N := some 34) #[true, true, true, true, true, true, true, true, true, true, true, true, true, true, false, false, false, false] rfl rfl (by kernel_rfl) (by decide) (fun K hK => ?_)
    refine goes_ Try.func43 (by kernel_rfl) rfl #[.agg #[.int .i64 cw, .int .i64 cd], .int .i64 a, .int .i64 b] (by rfl) rfl rfl (by (try simp only [List.map_toArray, List.map_cons, List.map_nil]); first | done | rfl) ?_
    refine (HN.out _).mono ?_
    rintro e w5 ⟨rfl, hb⟩
    refine ⟨_, rfl, ?_⟩
    refine hK.out _ _ (st_below3 hHeld hb) (fun hHeld => ?_)
    clear hK K
    refine norm_ (a' := ?_) ?_ ?_
    rotate_left
    · show Act.put _ (some 34) _ = _
      simp only [Act.put, List.setIfInBounds_toArray, List.set_cons_zero, List.set_cons_succ, i64_w, i32_w]
      rfl
    refine pure_ (i := 14) (N := some 4) (v := ?_) (a' := ?_) #[true, true, true, true, true, true, true, true, true, true, true, true, true, true, true, false, false, false] rfl rfl (by kernel_rfl) (fun _ _ _ h => h) (Or.inl ⟨by rfl, ?_⟩) ?_ ?_
    rotate_left
    · intro w'
      go_simp
      with_reducible rfl
    rotate_left
    · simp only [Act.put, List.setIfInBounds_toArray, List.set_cons_zero, List.set_cons_succ, i64_w, i32_w]
      rfl
    refine pure_ (i := 15) (N := some 5) (v := ?_) (a' := ?_) #[true, true, true, true, true, true, true, true, true, true, true, true, true, true, true, true, false, false] rfl rfl (by kernel_rfl) (fun _ _ _ h => h) (Or.inl ⟨by rfl, ?_⟩) ?_ ?_
    rotate_left
    · intro w'
      go_simp
      with_reducible rfl
    rotate_left
    · simp only [Act.put, List.setIfInBounds_toArray, List.set_cons_zero, List.set_cons_succ, i64_w, i32_w]
      rfl
    refine pure_ (i := 16) (N := some 6) (v := ?_) (a' := ?_) #[true, true, true, true, true, true, true, true, true, true, true, true, true, true, true, true, true, false] rfl rfl (by kernel_rfl) (fun _ _ _ h => h) (Or.inl ⟨by rfl, ?_⟩) ?_ ?_
    rotate_left
    · intro w'
      go_simp
      with_reducible rfl
    rotate_left
    · simp only [Act.put, List.setIfInBounds_toArray, List.set_cons_zero, List.set_cons_succ, i64_w, i32_w]
      rfl
    refine pure_ (i := 17) (N := some 7) (v := ?_) (a' := ?_) #[true, true, true, true, true, true, true, true, true, true, true, true, true, true, true, true, true, true] rfl rfl (by kernel_rfl) (fun _ _ _ h => h) (Or.inl ⟨by rfl, ?_⟩) ?_ ?_
    rotate_left
    · intro w'
      go_simp
      with_reducible rfl
    rotate_left
    · simp only [Act.put, List.setIfInBounds_toArray, List.set_cons_zero, List.set_cons_succ, i64_w, i32_w]
      rfl
    refine done_ (by kernel_rfl) ?_
    obtain ⟨_, _, _, _, HB⟩ := hHeld
    go_wp2_with fail
    (try simp only [Exit.inBlock, Exit.then])
    refine bodyPost_ret (results_tmp4 rfl _ _ _) rfl ?_
    exact ⟨rfl, HB.out⟩

set_option maxHeartbeats 4000000 in
set_option maxRecDepth 100000 in
theorem best_no (cw cd pl : Int) (b : Bool) (w : World) (hI : impl_IsCorner.f cw cd = some b) (hP : b = true → impl_within.f pl 2 200 = some false) :
    Calls Try.prog 13 #[.agg #[.int .i64 cw, .int .i64 cd], .int .i64 pl] w fun e w' => e = .returned (.tuple #[.int .i64 0, .int .i64 0, .int .i64 0, .bool false]) ∧ Below w.heap.size w w' := by
  have hu26 := Try.underlying26
  cases b with
  | false =>
    have CI := Aside0.mk (fun W => impl_IsCorner.calls cw cd false W hI)
    clear hI hP
    go_enter Try.func13, Try.ntmps13
    go_wp2_with fail
    refine (CI.out _).mono ?_
    rintro e w1 ⟨rfl, hb⟩
    have HB1 := Aside0.mk (below_step (below_alloc (Below.refl w.heap.size w) (boxC cw cd)) hb)
    clear hb
    go_wp2_with fail
    (try simp only [Exit.inBlock, Exit.then])
    refine bodyPost_ret (results_tmp4 rfl _ _ _) rfl ?_
    exact ⟨rfl, HB1.out⟩
  | true =>
    have CI := Aside0.mk (fun W => impl_IsCorner.calls cw cd true W hI)
    have CP := Aside0.mk (fun W => impl_within.calls pl 2 200 false W (hP rfl))
    clear hI hP
    go_enter Try.func13, Try.ntmps13
    go_wp2_with fail
    refine (CI.out _).mono ?_
    rintro e w1 ⟨rfl, hb⟩
    have HB1 := Aside0.mk (below_step (below_alloc (Below.refl w.heap.size w) (boxC cw cd)) hb)
    clear hb
    go_wp2_with fail
    refine (CP.out _).mono ?_
    rintro e wx ⟨rfl, ⟨nd, rfl⟩⟩
    have HB2 := Aside0.mk (pw_below_drewN HB1.out nd)
    generalize w1.drewN nd = w2 at HB2 ⊢
    go_wp2_with fail
    (try simp only [Exit.inBlock, Exit.then])
    refine bodyPost_ret (results_tmp4 rfl _ _ _) rfl ?_
    exact ⟨rfl, HB2.out⟩
end Go.Proofs.Ytnnedicoapdkkaa.Best
