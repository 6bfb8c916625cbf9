/- slices.Repeat of one number, few times, at this program: a row of that number. Condition: the row stands; from 1 to 16 times. -/
import Derived.Test.YteijbohbdhemoaaDoorMul
import Derived.Laws.CopyOwn
import Derived.Test.YteijbohbdhemoaaDoorPFnExactEarliestAtx0
namespace Go.Proofs.YteijbohbdhemoaaDoor.Sm
set_option linter.unusedVariables false
set_option linter.unusedSimpArgs false
open Go.RowKit Go.Proofs.YteijbohbdhemoaaDoorW.PrintWords Go.Proofs.YteijbohbdhemoaaDoorW.PrintLast Go.Proofs.YteijbohbdhemoaaDoorW.PrintMore Sh Cr
theorem w_sum {a b : Nat} (ha : a ≤ 100) (hb : b ≤ 100) : wrap64 ((a : Int) + (b : Int)) = ((a + b : Nat) : Int) := by unfold wrap64; omega
theorem info3 : (Tryd.prog.info? 3).map (fun i => (i.zero, i.size, i.bytes)) = some (some (.int .i64 0), 1, 8) := by kernel_rfl
theorem info4 : (Tryd.prog.info? 4).map (fun i => (i.zero, i.size, i.bytes)) = some (some (.bool false), 1, 1) := by kernel_rfl
set_option maxHeartbeats 8000000 in
set_option maxRecDepth 100000 in
theorem repeat_ (A0 : Option Addr) (c0 : Nat) (x : Int) (n : Nat) (w : World) (hr0 : Kd.C (Kd.int .i64) w A0 [x].length [x]) (hc0 : 1 ≤ c0) (hn1 : 1 ≤ n) (hn2 : n ≤ 16) :
    Calls Tryd.prog 52 #[.slice A0 1 c0, .int .i64 (n : Int)] w fun e w' => ∃ v0_ : Value, e = .returned (v0_) ∧ Kd.R (Kd.int .i64) 3 w' w.heap.size (fun _ => True) v0_ (List.replicate n x) ∧ Below w.heap.size w w' := by
  have hR := Kd.reads_of_C (d := (0 : Int)) hr0
  obtain ⟨ad, rfl, hx⟩ := hR.at_ 0 (by omega) (by simp)
  have hx0 : w.cell? (ad.add 0) = some (.int .i64 x) := hx
  have HB := Aside0.mk (Below.refl w.heap.size w)
  clear hr0 hx hR
  go_enter Tryd.func52, Tryd.ntmps52
  go_wp2_with (first
    | (go_at_call 56; refine (mul n _ hn2).mono ?_; rintro e w' ⟨rfl, rfl⟩)
    | (at_make; refine Kd.R_make (Kd.int .i64) _ 3 rfl (N := 30) rfl 25 _ _ rfl (n : Int) rfl rfl Tryd.underlying25 (.int .i64 0) 8 info3 rfl (by decide) (by omega) 0 (ok := fun _ => True) (okp := fun _ => True) rfl (fun _ hk => hk) trivial (by omega) (by omega) (Below.refl _ _) (Nat.le_refl _) ?_; intro v1 w5 ho hb hg_ hnew_; clear hg_ hnew_; obtain ⟨g, cap, cur, rfl, hgb, hcur, hcap1, hcap2, hsz, htk⟩ := (Kd.own_of_R ho).2.resolve_left (by rintro ⟨_, h0⟩; simp at h0; omega); obtain ⟨L, rfl⟩ : ∃ L : List Value, cur = L.toArray := ⟨cur.toList, by simp⟩; have HL := Aside0.mk (show L.length = cap by simpa using hsz); have HO := Aside0.mk hcur; have HG := Aside0.mk (show w.heap.size ≤ g from hgb); have HC1 := Aside0.mk (show n ≤ cap by simpa using hcap1); have HBw := Aside0.mk (show Below w.heap.size w w5 from hb); have hxw := (hb.cell (p := ad.add 0) (World.block_lt_of_cell? _ _ hx0)).trans hx0; have HX := Aside0.mk hxw; clear ho hb hcur htk hsz hgb hcap1 hxw)
    | ((with_reducible refine gate_builtin (b := .copy) rfl ?_); refine wpList_copy_splice rfl (.tmp 31) (.tmp 32) 25 25 rfl 3 Tryd.underlying25 (by kernel_rfl) (some ⟨g, 0, none⟩) (some ad) n cap 1 c0 rfl rfl g 0 L 3 HO.out [.int .i64 x] (Nat.min_eq_left hn1).symm (fun _ => ⟨rfl, ad, rfl, ?cells⟩) ?fit (by intro v hv; simp at hv; subst hv; rfl) w.heap.size w HBw.out HG.out ?_; (case cells => intro j v hj; match j, hj with | 0, hj => (simp at hj; subst hj; exact HX.out)); (case fit => (have := HL.out; have := HC1.out; simp; omega)); intro w6 hw6 hb6; have HO6 := Aside0.mk hw6.out; have HB6 := Aside0.mk hb6; clear hw6 hb6))
  go_loopw [8] (fun v wr => ∃ (m : Nat) (L' : List Value), v = .int .i64 (m : Int) ∧ Aside0 (1 ≤ m ∧ m ≤ n) ∧ Aside0 (L'.length = cap) ∧ Aside0 (∀ j, j < m → L'[j]? = some (.int .i64 x)) ∧ Aside0 (wr.heap[g]? = some (.cells L'.toArray 3 (0, 0))) ∧ Aside0 (Below w.heap.size w wr)) (fun v _ => n - (intOf v).toNat)
  case atStart =>
    refine ⟨1, splice L 0 [.int .i64 x], rfl, ⟨Nat.le_refl _, hn1⟩, ⟨?_⟩, ⟨fun j hj => ?_⟩, HO6, HB6⟩
    · have h5 := HL.out
      have h6 := HC1.out
      rw [length_splice _ _ _ (by simp; omega)]; exact h5
    · obtain rfl : j = 0 := by omega
      simp [splice]
  case round =>
    obtain ⟨m, L', rfl, HM, HL', HX', HO', HB'⟩ := hrel
    clear HO6 HB6
    have hm1 := HM.out.1
    have hm2 := HM.out.2
    have hcap := HC1.out
    by_cases hlt : m < n
    · have hmc : m < cap := by omega
      have hmc2 : m ≤ cap := by omega
      have hmc3 : ¬ (cap = m) := by omega
      have HCS : Aside0 (∃ cs : List Value, cs.length = Nat.min m (n - m) ∧ ∀ v ∈ cs, v = .int .i64 x) := ⟨⟨List.replicate (Nat.min m (n - m)) (.int .i64 x), by simp, fun v hv => List.eq_of_mem_replicate hv⟩⟩
      obtain ⟨cs, hcs1, hcs2⟩ := HCS.out
      have HC2 := Aside0.mk hcs1
      have HC3 := Aside0.mk hcs2
      have HK : Aside0 (cs.length ≤ m ∧ cs.length ≤ n - m) := ⟨by rw [hcs1]; exact ⟨Nat.min_le_left _ _, Nat.min_le_right _ _⟩⟩
      have HP : Aside0 (0 < cs.length) := ⟨by rw [hcs1]; exact Nat.lt_min.mpr ⟨by omega, by omega⟩⟩
      clear hcs1 hcs2 HCS
      have h2_ : (Tryd.prog.info? 3).map (·.size) = some 1 := by kernel_rfl
      have HQ : Aside0 (∀ (W : World), W.heap[g]? = some (.cells L'.toArray 3 (0, 0)) → ∀ (k : Nat) v, cs[k]? = some v → W.cell? ((⟨g, 0, none⟩ : Addr).add k) = some v) := by
        refine ⟨fun W hW k v hk => ?_⟩
        have hk1 : k < cs.length := (List.getElem?_eq_some_iff.mp hk).1
        have hv := HC3.out v (List.mem_of_getElem? hk)
        have hx2 := HX'.out k (by have := HK.out.1; omega)
        rw [add_plain, hv]
        simp [World.cell?, hW, hx2]
      have HF : Aside0 (m + cs.length ≤ L'.length) := ⟨by have := HK.out.2; have := HL'.out; omega⟩
      clear hcap
      go_wp2
      have HO2 := Aside0.mk (show wr.drew.heap[g]? = some (.cells L'.toArray 3 (0, 0)) from HO'.out)
      have HB2 := Aside0.mk (show Below w.heap.size w wr.drew from below_drew HB'.out)
      have HW := Aside0.mk (w_sum (a := m) (b := cs.length) (by omega) (by have := HK.out.1; omega))
      have hk16 : cs.length ≤ 16 := by have := HK.out.1; omega
      refine start_ (n := 10) (S := fun _ => True) (ds := [7]) #[false, false, false, false, false, false, false, false, false, false] (by kernel_rfl) rfl rfl trivial (fun hHeld => ?_)
      generalize wr.drew = w24 at HO2 HB2 ⊢
      refine pure_ (i := 0) (N := some 38) (v := ?_) (a' := ?_) #[true, false, false, false, false, false, false, false, false, false] rfl rfl (by kernel_rfl) (fun _ _ _ h => h) (Or.inl ⟨by rfl, ?_⟩) ?_ ?_
      rotate_left
      · intro w'
        go_simp
        with_reducible rfl
      rotate_left
      · simp only [Act.put, List.setIfInBounds_toArray, List.set_cons_zero, List.set_cons_succ, i64_w, i32_w]
        rfl
      refine pure_ (i := 1) (N := some 39) (v := ?_) (a' := ?_) #[true, true, false, false, false, false, false, false, false, false] rfl rfl (by kernel_rfl) (fun _ _ _ h => h) (Or.inl ⟨by rfl, ?_⟩) ?_ ?_
      rotate_left
      · intro w'
        go_simp
        with_reducible rfl
      rotate_left
      · simp only [Act.put, List.setIfInBounds_toArray, List.set_cons_zero, List.set_cons_succ, i64_w, i32_w]
        rfl
      refine pure_ (i := 2) (N := some 40) (v := ?_) (a' := ?_) #[true, true, true, false, false, false, false, false, false, false] rfl rfl (by kernel_rfl) (fun _ _ _ h => h) (Or.inl ⟨by rfl, ?_⟩) ?_ ?_
      rotate_left
      · intro w'
        go_simp
        with_reducible rfl
      rotate_left
      · simp only [Act.put, List.setIfInBounds_toArray, List.set_cons_zero, List.set_cons_succ, i64_w, i32_w]
        rfl
      refine pure_ (i := 3) (N := some 41) (v := ?_) (a' := ?_) #[true, true, true, true, false, false, false, false, false, false] rfl rfl (by kernel_rfl) (fun _ _ _ h => h) (Or.inl ⟨by rfl, ?_⟩) ?_ ?_
      rotate_left
      · intro w'
        go_simp
        with_reducible rfl
      rotate_left
      · simp only [Act.put, List.setIfInBounds_toArray, List.set_cons_zero, List.set_cons_succ, i64_w, i32_w]
        rfl
      refine pure_ (i := 4) (N := some 42) (v := ?_) (a' := ?_) #[true, true, true, true, true, false, false, false, false, false] rfl rfl (by kernel_rfl) (fun _ _ _ h => h) (Or.inl ⟨by rfl, ?_⟩) ?_ ?_
      rotate_left
      · intro w'
        go_simp
        with_reducible rfl
      rotate_left
      · simp only [Act.put, List.setIfInBounds_toArray, List.set_cons_zero, List.set_cons_succ, i64_w, i32_w]
        rfl
      refine pure_ (i := 5) (N := some 43) (v := ?_) (a' := ?_) #[true, true, true, true, true, true, false, false, false, false] rfl rfl (by kernel_rfl) (fun _ _ _ h => h) (Or.inl ⟨by rfl, ?_⟩) ?_ ?_
      rotate_left
      · intro w'
        go_simp
        with_reducible rfl
      rotate_left
      · simp only [Act.put, List.setIfInBounds_toArray, List.set_cons_zero, List.set_cons_succ, i64_w, i32_w]
        rfl
      refine pure_ (i := 6) (N := some 44) (v := ?_) (a' := ?_) #[true, true, true, true, true, true, true, false, false, false] rfl rfl (by kernel_rfl) (fun _ _ _ h => h) (Or.inl ⟨by rfl, ?_⟩) ?_ ?_
      rotate_left
      · intro w'
        go_simp
        with_reducible rfl
      rotate_left
      · simp only [Act.put, List.setIfInBounds_toArray, List.set_cons_zero, List.set_cons_succ, i64_w, i32_w]
        rfl
      refine last_ (i := 7) (N := some 45) #[true, true, true, true, true, true, true, true, false, false] rfl rfl (by kernel_rfl) (by decide) (fun K hK => ?_)
      refine step_copy_splice rfl (.tmp 41) (.tmp 44) 25 25 rfl 3 Tryd.underlying25 h2_ (some ⟨g, m, none⟩) (some ⟨g, 0, none⟩) (n - m) (cap - m) m cap rfl rfl g m L' 3 HO2.out cs HC2.out (fun _ => ⟨rfl, ⟨g, 0, none⟩, rfl, HQ.out _ HO2.out⟩) HF.out (fun v hv => by rw [HC3.out v hv]; rfl) w.heap.size w HB2.out HG.out ?_
      intro w7 hw7 hb7
      have HO7 := Aside0.mk hw7.out
      have HB7 := Aside0.mk hb7
      clear hw7 hb7
      change K (Act.put _ (some 45) (.int .i64 (cs.length : Int))) w7
      refine hK.out _ _ ?_
      clear hK K
      refine norm_ (a' := ?_) ?_ ?_
      rotate_left
      · simp only [Act.put, List.setIfInBounds_toArray, List.set_cons_zero, List.set_cons_succ]
        rfl
      refine pure_ (i := 8) (N := some 46) (v := ?_) (a' := ?_) #[true, true, true, true, true, true, true, true, true, false] rfl rfl (by kernel_rfl) (fun _ _ _ h => h) (Or.inl ⟨by rfl, ?_⟩) ?_ ?_
      rotate_left
      · intro w'
        go_simp
        with_reducible rfl
      rotate_left
      · simp only [Act.put, List.setIfInBounds_toArray, List.set_cons_zero, List.set_cons_succ, i64_w, i32_w]
        rfl
      refine pure_ (i := 9) (N := some 8) (v := ?_) (a' := ?_) #[true, true, true, true, true, true, true, true, true, true] rfl rfl (by kernel_rfl) (fun _ _ _ h => h) (Or.inl ⟨by rfl, ?_⟩) ?_ ?_
      rotate_left
      · intro w'
        go_simp
        with_reducible rfl
      rotate_left
      · simp only [Act.put, List.setIfInBounds_toArray, List.set_cons_zero, List.set_cons_succ, i64_w, i32_w]
        rfl
      refine done_ (by kernel_rfl) ?_
      try go_wp2
      go_roundw
      case rel =>
        refine ⟨m + cs.length, splice L' m cs, by rw [HW.out], ⟨?_⟩, ⟨?_⟩, ⟨fun j hj => ?_⟩, HO7, HB7⟩
        · have := HK.out; omega
        · rw [length_splice _ _ _ HF.out]; exact HL'.out
        · have hlm : m ≤ L'.length := by have := HF.out; omega
          unfold splice
          rcases Nat.lt_or_ge j m with h | h
          · rw [List.getElem?_append_left (by rw [List.length_take]; omega), List.getElem?_take_of_lt h]; exact HX'.out j h
          · rw [List.getElem?_append_right (by rw [List.length_take]; omega), List.length_take, Nat.min_eq_left hlm, List.getElem?_append_left (by omega), List.getElem?_eq_getElem (by omega)]
            exact congrArg some (HC3.out _ (List.getElem_mem _))
      case measure =>
        rw [HW.out]
        have h1 := HP.out
        have h2 := HK.out
        show n - (((m + cs.length : Nat) : Int)).toNat < n - ((m : Int)).toNat
        clear HW
        omega
    · go_wp2
      go_ret
      obtain rfl : m = n := by omega
      refine ⟨_, rfl, ?_, HB'.out⟩
      refine Kd.R_of_own ?_ (fun _ _ => trivial)
      refine ⟨by simp [encs], .inr ⟨g, cap, L'.toArray, ?_, HG.out, HO'.out, by simpa using hcap, hcap2, by simpa using HL'.out, ?_⟩⟩
      · simp
      · apply List.ext_getElem?
        intro j
        by_cases hj : j < m
        · rw [List.getElem?_take_of_lt (by simp; omega)]
          have := HX'.out j hj
          simp only [List.getElem?_toArray] at this ⊢
          rw [this]
          simp [encs, hj, rd]
        · rw [List.getElem?_eq_none (by simp; omega), List.getElem?_eq_none (by simp [encs]; omega)]
end Go.Proofs.YteijbohbdhemoaaDoor.Sm
