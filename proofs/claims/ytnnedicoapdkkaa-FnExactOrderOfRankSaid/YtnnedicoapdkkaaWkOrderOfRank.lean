/- impl.OrderOfRank at this program answers val: the order of a rank; a new slice, nothing that lay before is turned. No condition. -/
import Derived.Test.YtnnedicoapdkkaaDel
import Derived.IntWalk
namespace Go.Proofs.Ytnnedicoapdkkaa.WkOrderOfRank
set_option linter.unusedVariables false
set_option linter.unusedSimpArgs false
open Go.RowKit Go.Proofs.YtnnedicoapdkkaaW.PrintWords Go.Proofs.YtnnedicoapdkkaaW.PrintLast PFnExactOrderOfRank Del

def fct : Nat → Nat
  | 0 => 1
  | n + 1 => (n + 1) * fct n
def R (n : Nat) : List Int := (List.range n).map fun i => ((i + 1 : Nat) : Int)
def code : Nat → List Int → Nat → List Int
  | 0, _, _ => []
  | n + 1, l, q => rd l ((q / fct n : Nat) : Int) :: code n (gone l (q / fct n)) (q % fct n)
def val (a p : Int) : List Int × Bool := if 1 ≤ a ∧ a ≤ 8 ∧ 0 ≤ p ∧ p < (fct a.toNat : Int) then (code a.toNat (R a.toNat) p.toNat, true) else ([], false)
def lenOf : Value → Nat
  | .slice _ n _ => n
  | _ => 0
theorem fct_pos : ∀ n, 0 < fct n
  | 0 => by decide
  | n + 1 => Nat.mul_pos (Nat.succ_pos n) (fct_pos n)
theorem fct_le : ∀ n, n ≤ 8 → fct n ≤ 40320 := by decide
theorem fct_tab : (List.range 9).all (fun n => impl_factorial.f 20 (n : Int) == some (fct n : Int)) = true := by decide +kernel
theorem right_tab : (List.range 9).all (fun n => impl_right.f 20 (n : Int) == some (R n)) = true := by decide +kernel
theorem fct_eq {n : Nat} (h : n ≤ 8) : impl_factorial.f 20 (n : Int) = some (fct n : Int) := eq_of_beq (List.all_eq_true.mp fct_tab n (List.mem_range.mpr (by omega)))
theorem right_eq {n : Nat} (h : n ≤ 8) : impl_right.f 20 (n : Int) = some (R n) := eq_of_beq (List.all_eq_true.mp right_tab n (List.mem_range.mpr (by omega)))
theorem R_len (n : Nat) : (R n).length = n := by simp [R]
theorem boats_eq (a : Int) : impl_areBoats.f a = some (decide (1 ≤ a ∧ a ≤ 8)) := by
  unfold impl_areBoats.f impl_within.f
  by_cases h : 1 ≤ a
  · rw [if_pos h]; simp [h]
  · rw [if_neg h]; simp [h]
theorem within_eq (a lo hi : Int) : impl_within.f a lo hi = some (decide (lo ≤ a ∧ a ≤ hi)) := by
  unfold impl_within.f
  by_cases h : lo ≤ a
  · rw [if_pos h]; simp [h]
  · rw [if_neg h]; simp [h]

theorem cell_of {W : World} {base : Nat} {ok : Nat → Prop} {ad : Addr} {c : Nat} {l : List Int} {i : Nat} (h : Kd.R (Kd.int .i64) 3 W base ok (.slice (some ad) l.length c) l) (h0 : (0 : Int) ≤ (i : Int)) (h1 : (i : Int) < (l.length : Int)) : W.cell? (ad.add i) = some (.int .i64 (rd l (i : Int))) := by
  obtain ⟨ad2, e, hx⟩ := Kd.at_int (Kd.R_reads' h).2.2 (i : Int) h0 h1
  cases e
  rw [Int.toNat_natCast] at hx
  exact hx

set_option maxHeartbeats 4000000 in
set_option maxRecDepth 100000 in
theorem impl (a p : Int) (w : World) :
    Calls Try.prog 30 #[.int .i64 a, .int .i64 p] w fun e w' => ∃ v, e = .returned (.tuple #[v, .bool (val a p).2]) ∧ Kd.R (Kd.int .i64) 3 w' w.heap.size (fun _ => True) v (val a p).1 ∧ Below w.heap.size w w' := by
  unfold val
  have cB := fun W => impl_areBoats.calls a _ W (boats_eq a)
  by_cases h1 : 1 ≤ a ∧ a ≤ 8
  · rw [decide_eq_true h1] at cB
    obtain ⟨n, rfl⟩ : ∃ n : Nat, a = (n : Int) := ⟨a.toNat, by omega⟩
    rw [Int.toNat_natCast]
    have hn : n ≤ 8 := by omega
    have cF := fun W => impl_factorial.calls 20 (n : Int) _ W (fct_eq hn)
    have cW := fun W => impl_within.calls p 0 ((fct n : Int) - 1) _ W (within_eq _ _ _)
    have hfl := fct_le n hn
    have hfp := fct_pos n
    have B1 : Aside0 (IntKind.i64.wrap ((fct n : Int) - 1) = (fct n : Int) - 1) := ⟨IntWalk.i64_in _ (by omega) |>.trans (by omega)⟩
    by_cases h2 : 0 ≤ p ∧ p ≤ (fct n : Int) - 1
    · rw [decide_eq_true h2] at cW
      obtain ⟨q, rfl⟩ : ∃ q : Nat, p = (q : Int) := ⟨p.toNat, by omega⟩
      rw [if_pos ⟨h1.1, h1.2, h2.1, by omega⟩, Int.toNat_natCast]
      have hq : q < fct n := by omega
      have cR := fun W => impl_right.calls 20 (n : Int) _ W (right_eq hn)
      have HL : Aside0 (∃ l : List Int, l = R n ∧ l.length = n) := ⟨R n, rfl, R_len n⟩
      generalize hr : code n (R n) q = r
      have HR0 : Aside0 (([] : List Int) ++ code n (R n) q = r) := ⟨by simpa using hr⟩
      have b1 := B1.out
      clear h1 h2 hr hfl hfp
      have HQ := Aside0.mk hq
      clear hq
      go_enter Try.func30, Try.ntmps30
      go_wp2_with fail
      refine (cB _).mono ?_
      clear cB
      rintro e w1 ⟨rfl, ⟨nd, rfl⟩⟩
      have HB := Aside0.mk (pw_below_drewN (Below.refl w.heap.size w) nd)
      generalize w.drewN nd = wa at HB ⊢
      go_wp2_with fail
      refine (cF _).mono ?_
      clear cF
      rintro e w1 ⟨rfl, ⟨nd2, rfl⟩⟩
      replace HB := Aside0.mk (pw_below_drewN HB.out nd2)
      generalize wa.drewN nd2 = wb at HB ⊢
      go_wp2_with fail
      refine (cW _).mono ?_
      clear cW
      rintro e w1 ⟨rfl, ⟨nd3, rfl⟩⟩
      replace HB := Aside0.mk (pw_below_drewN HB.out nd3)
      generalize wb.drewN nd3 = wc at HB ⊢
      go_wp2_with fail
      refine (cR _).mono ?_
      clear cR
      rintro e w1 ⟨v, rfl, hv, hb⟩
      obtain ⟨A6, c6, rfl⟩ := Kd.R_slice hv
      have R6 := Aside0.mk (Kd.R_lower hv HB.out.size)
      replace HB := Aside0.mk (HB.out.trans (hb.mono HB.out.size))
      clear hv hb
      go_wp2_with ((with_reducible refine gate_dst (N := 23) rfl ?_); refine Kd.R_lit (Kd.int .i64) _ 3 ?hg (N := 23) ?hd (xs := ([] : List Int)) (inner := []) (ok := fun _ => True) (okp := fun _ => True) ?hr ?hp (fun _ hk => hk) trivial (Below.refl _ _) (Nat.le_refl _) (by simp) ?_; (case hd => rfl); (case hg => rfl); (case hr => first | (go_simp; done) | (go_simp; rfl)); (case hp => exact Reps.none _ _); intro v7 w3 h3 b3 _ hat; have R7 := Aside0.mk (Kd.R_lower h3 HB.out.size); have B3 := Aside0.mk (HB.out.trans (b3.mono HB.out.size)); have NE0 : Aside0 (∀ k_, some k_ = (Value.slice A6 (R n).length c6).ownBlock → ¬ some k_ = v7.ownBlock) := ⟨fun k_ e1 e2 => by obtain ⟨b_, hb1, hb2⟩ := hat; have := Kd.R_lt R6.out k_ e1.symm; rw [hb1] at e2; cases e2; omega⟩; have R63 := Aside0.mk (Kd.R_below R6.out b3); clear h3 b3 HB R6 hat)
      obtain ⟨l0, hl0, hl1⟩ := HL.out
      rw [← hl0] at HR0 R63 NE0 ⊢
      clear hl0 HL
      rw [← hl1] at HR0 HQ
      have HN : Aside0 (l0.length ≤ 8) := ⟨by rw [hl1]; exact hn⟩
      have HO : Aside0 (([] : List Int).length + l0.length ≤ 8) := ⟨by simpa using HN.out⟩
      clear b1 B1 hl1
      go_loopw [1, 6, 7] (fun v1 v6 v7 wr => ∃ (q : Nat) (A6 : Option Addr) (c6 : Nat) (left out : List Int), v1 = .int .i64 q ∧ v6 = .slice A6 left.length c6 ∧ Aside0 (out.length + left.length ≤ 8) ∧ Aside0 (q < fct left.length) ∧ Aside0 (out ++ code left.length left q = r) ∧ Aside0 (Kd.R (Kd.int .i64) 3 wr w.heap.size (fun _ => True) v6 left) ∧ Aside0 (Kd.R (Kd.int .i64) 3 wr w.heap.size (fun _ => True) v7 out) ∧ Aside0 (∀ k_, some k_ = v6.ownBlock → ¬ some k_ = v7.ownBlock) ∧ Aside0 (Below w.heap.size w wr)) (fun v1 v6 v7 _ => lenOf v6)
      case atStart => exact ⟨q, A6, c6, l0, [], rfl, rfl, HO, HQ, HR0, R63, R7, NE0, B3⟩
      case round =>
        clear HO HQ HR0 R63 R7 NE0 B3 HN
        obtain ⟨q, A6, c6, left, out, rfl, rfl, HO, HQ, HR, R6, R7, NE, HB⟩ := hrel
        by_cases h0 : 0 < left.length
        · obtain ⟨m, hm⟩ : ∃ m, left.length = m + 1 := ⟨left.length - 1, by omega⟩
          have hm8 : m ≤ 8 := by have := HO.out; omega
          have cF := Aside0.mk (fun W => impl_factorial.calls 20 (m : Int) _ W (fct_eq hm8))
          have hfl := fct_le m hm8
          have hb0 := fct_pos m
          have hq : q < (m + 1) * fct m := by have := HQ.out; rw [hm] at this; exact this
          have HR1 : Aside0 (out ++ rd left ((q / fct m : Nat) : Int) :: code m (gone left (q / fct m)) (q % fct m) = r) := ⟨by have := HR.out; rw [hm] at this; exact this⟩
          have HQ1 : Aside0 (q % fct m < fct m) := ⟨Nat.mod_lt _ hb0⟩
          have hi : q / fct m < m + 1 := Nat.div_lt_of_lt_mul (by rw [Nat.mul_comm]; exact hq)
          have hqu : q ≤ 400000 := by have : (m + 1) * fct m ≤ 9 * 40320 := Nat.mul_le_mul (by omega) hfl; omega
          have HGm : Aside0 ((gone left (q / fct m)).length = m) := ⟨by rw [gone_len (by omega), hm]; rfl⟩
          have d1 := Aside0.mk (show (q : Int) / (fct m : Int) = ((q / fct m : Nat) : Int) from rfl)
          have d3 := Aside0.mk (show (q : Int) % (fct m : Int) = ((q % fct m : Nat) : Int) from rfl)
          have d9 := Aside0.mk (show Int.tmod (q : Int) (fct m : Int) = ((q % fct m : Nat) : Int) from rfl)
          have hiq : q / fct m ≤ q := Nat.div_le_self _ _
          have hq2 : q % fct m ≤ q := Nat.mod_le _ _
          have D8 := Aside0.mk (show out.length ≤ 8 by have := HO.out; omega)
          clear HR HQ hfl hq
          generalize hbb : fct m = b at cF HR1 HQ1 hi HGm d1 d3 d9 hiq hq2 hb0
          generalize q / b = i at HR1 hi HGm d1 hiq
          generalize q % b = q2 at HR1 HQ1 d3 d9 hq2
          have d2 : Aside0 (wrap64 (i : Int) = (i : Int)) := ⟨by unfold wrap64; omega⟩
          have d4 : Aside0 (wrap64 (q2 : Int) = (q2 : Int)) := ⟨by unfold wrap64; omega⟩
          have d5 : Aside0 (wrap64 ((i : Int) + 1) = (i : Int) + 1) := ⟨by unfold wrap64; omega⟩
          have d6 : Aside0 (IntKind.i64.wrap (i : Int) = (i : Int)) := ⟨IntWalk.i64_in _ (by omega)⟩
          have d7 : Aside0 (IntKind.i64.wrap (q2 : Int) = (q2 : Int)) := ⟨IntWalk.i64_in _ (by omega)⟩
          have d8 : Aside0 (IntKind.i64.wrap ((i : Int) + 1) = (i : Int) + 1) := ⟨IntWalk.i64_in _ (by omega)⟩
          have g1 : ((b : Int) == 0) = false := by rw [beq_eq_false_iff_ne]; omega
          have g2 : ¬ (b : Int) = 0 := by omega
          have g3 : ¬ b = 0 := by omega
          have f1 : Aside0 (IntKind.i64.wrap ((left.length : Int) - 1) = (m : Int)) := ⟨(IntWalk.i64_in _ (by omega)).trans (by omega)⟩
          have g4 : (0 : Int) < (left.length : Int) := by omega
          have g5 : (i : Int) < (left.length : Int) := by omega
          have g6 : i < left.length := by omega
          have g7 : (0 : Int) ≤ (i : Int) := by omega
          have HM := Aside0.mk hm
          have HBb := Aside0.mk hbb
          clear hm hbb hm8 hi hb0 hiq hq2 hqu
          replace d1 := d1.out
          replace d2 := d2.out
          replace d3 := d3.out
          replace d4 := d4.out
          replace d9 := d9.out
          replace d5 := d5.out
          replace d6 := d6.out
          replace d7 := d7.out
          replace d8 := d8.out
          replace f1 := f1.out
          go_wp2_with fail
          refine (cF.out _).mono ?_
          clear cF
          rintro e wx ⟨rfl, ⟨nd, rfl⟩⟩
          replace HB := Aside0.mk (pw_below_drewN HB.out nd)
          replace R6 := Aside0.mk (Kd.R_drewN R6.out nd)
          replace R7 := Aside0.mk (Kd.R_drewN R7.out nd)
          generalize wr.drewN nd = w4 at HB R6 R7 ⊢
          go_upto_region 7 with (fail)
          obtain ⟨ad, e6, hx⟩ := Kd.at_int (Kd.R_reads' R6.out).2.2 (i : Int) g7 g5
          cases e6
          rw [Int.toNat_natCast] at hx
          have hSt : w4.drew.cell? (ad.add i) = some (.int .i64 (rd left (i : Int))) := hx
          replace HB := Aside0.mk (below_drew1 HB.out)
          replace R6 := Aside0.mk (Kd.R_drew R6.out)
          replace R7 := Aside0.mk (Kd.R_drew R7.out)
          clear hx
          refine start_ (n := 12) (S := fun w' => w'.cell? (ad.add i) = some (.int .i64 (rd left (i : Int)))) (ds := []) #[false, false, false, false, false, false, false, false, false, false, false, false] (by kernel_rfl) rfl rfl hSt (fun hHeld => ?_)
          refine pure_ (i := 0) (N := some 34) (v := ?_) (a' := ?_) #[true, false, false, false, false, false, false, false, false, false, false, false] rfl rfl (by kernel_rfl) (fun _ _ _ h => h) (Or.inl ⟨by rfl, ?_⟩) ?_ ?_
          rotate_left
          · intro w'
            go_simp
            with_reducible rfl
          rotate_left
          · simp only [Act.put, List.setIfInBounds_toArray, List.set_cons_zero, List.set_cons_succ, i64_w, i32_w]
            rfl
          refine pure_ (i := 1) (N := some 35) (v := ?_) (a' := ?_) #[true, true, false, false, false, false, false, false, false, false, false, false] rfl rfl (by kernel_rfl) (fun _ _ _ h => h) (Or.inl ⟨by rfl, ?_⟩) ?_ ?_
          rotate_left
          · intro w'
            go_simp
            with_reducible rfl
          rotate_left
          · simp only [Act.put, List.setIfInBounds_toArray, List.set_cons_zero, List.set_cons_succ, i64_w, i32_w]
            rfl
          refine pure_ (i := 2) (N := some 36) (v := ?_) (a' := ?_) #[true, true, true, false, false, false, false, false, false, false, false, false] rfl rfl (by kernel_rfl) (fun _ _ _ h => h) (Or.inl ⟨by rfl, ?_⟩) ?_ ?_
          rotate_left
          · intro w'
            go_simp
            with_reducible rfl
          rotate_left
          · simp only [Act.put, List.setIfInBounds_toArray, List.set_cons_zero, List.set_cons_succ, i64_w, i32_w]
            rfl
          refine pure_ (i := 3) (N := some 37) (v := ?_) (a' := ?_) #[true, true, true, true, false, false, false, false, false, false, false, false] rfl rfl (by kernel_rfl) (fun _ _ _ h => h) (Or.inl ⟨by rfl, ?_⟩) ?_ ?_
          rotate_left
          · intro w'
            go_simp
            with_reducible rfl
          rotate_left
          · simp only [Act.put, List.setIfInBounds_toArray, List.set_cons_zero, List.set_cons_succ, i64_w, i32_w]
            rfl
          refine pure_ (i := 7) (N := some 41) (v := ?_) (a' := ?_) #[true, true, true, true, false, false, false, true, false, false, false, false] rfl rfl (by kernel_rfl) (fun _ _ _ h => h) (Or.inl ⟨by rfl, ?_⟩) ?_ ?_
          rotate_left
          · intro w'
            go_simp
            with_reducible rfl
          rotate_left
          · simp only [Act.put, List.setIfInBounds_toArray, List.set_cons_zero, List.set_cons_succ, i64_w, i32_w]
            rfl
          refine pure_ (i := 8) (N := some 42) (v := ?_) (a' := ?_) #[true, true, true, true, false, false, false, true, true, false, false, false] rfl rfl (by kernel_rfl) (fun _ _ _ h => h) (Or.inl ⟨by rfl, ?_⟩) ?_ ?_
          rotate_left
          · intro w'
            go_simp
            with_reducible rfl
          rotate_left
          · simp only [Act.put, List.setIfInBounds_toArray, List.set_cons_zero, List.set_cons_succ, i64_w, i32_w]
            rfl
          refine pure_ (i := 9) (N := some 43) (v := ?_) (a' := ?_) #[true, true, true, true, false, false, false, true, true, true, false, false] rfl rfl (by kernel_rfl) (fun _ _ _ h => h) (Or.inl ⟨by rfl, ?_⟩) ?_ ?_
          rotate_left
          · intro w'
            go_simp
            with_reducible rfl
          rotate_left
          · simp only [Act.put, List.setIfInBounds_toArray, List.set_cons_zero, List.set_cons_succ, i64_w, i32_w]
            rfl
          refine take_ (i := 4) (N := some 38) (v := ?_) (a' := ?_) #[true, true, true, true, true, false, false, true, true, true, false, false] rfl rfl (by kernel_rfl) (fun _ _ _ h => h) (Or.inl ⟨by rfl, ?_⟩) hHeld ?_ ?_
          rotate_left
          · rintro w' s0
            go_simp
            with_reducible rfl
          rotate_left
          · simp only [Act.put, List.setIfInBounds_toArray, List.set_cons_zero, List.set_cons_succ, i64_w, i32_w]
            rfl
          refine one_ (i := 5) (N := some 39) #[true, true, true, true, true, true, false, true, true, true, false, false] rfl rfl (by kernel_rfl) (by decide) (fun K hK => ?_)
          rw [if_pos (by rfl)]
          go_simp
          refine hK.out _ _ (((below_alloc (Below.refl _ w4.drew) _).cell (World.block_lt_of_cell? _ _ hHeld)).trans hHeld) (fun hHeld => ?_)
          clear hK K
          refine one_ (i := 6) (N := some 40) #[true, true, true, true, true, true, true, true, true, true, false, false] rfl rfl (by kernel_rfl) (by decide) (fun K hK => ?_)
          refine Kd.R_append_step (Kd.int .i64) (w0 := w) w.heap.size (by rfl) (.tmp 34) (.tmp 39) 40 3 (.int .i64 0) 8 rfl Try.underlying40 info3 rfl (by decide) (by omega) u7 out (rd left (i : Int)) [.int .i64 (rd left (i : Int))] (fun _ => True) (fun _ => False) rfl ?aX rfl (fun _ hk => hk.elim) (fun _ _ => trivial) R7.out HB.out HB.out.size (by have := D8.out; omega) ?_
          case aX => (show Value.slice (some ⟨w4.drew.heap.size, 0, none⟩) 1 1 = _; simp)
          intro v8 w8 h8 b8 hg8 hat8
          have NE8 : Aside0 (∀ k_, some k_ = (Value.slice (some ad) left.length c6).ownBlock → ¬ some k_ = v8.ownBlock) := ⟨fun k_ e1 e2 => hat8.elim (fun h_ => NE.out k_ e1 (e2.trans h_)) (fun ⟨b_, hb1, hb2⟩ => by have := Kd.R_lt R6.out k_ e1.symm; rw [hb1] at e2; cases e2; omega)⟩
          have R68 := Aside0.mk (Kd.R_grown2 R6.out rfl hg8 (fun k_ h_ e_ => NE.out k_ e_ h_.symm))
          have R78 := Aside0.mk h8
          have HB8 := Aside0.mk b8
          clear h8 b8 hg8 hat8
          refine hK.out _ _ (cell_of R68.out g7 g5) (fun hHeld => ?_)
          clear hK K
          refine norm_ (a' := ?_) ?_ ?_
          rotate_left
          · show Act.put _ (some 40) _ = _
            simp only [Act.put, List.setIfInBounds_toArray, List.set_cons_zero, List.set_cons_succ, i64_w, i32_w]
            rfl
          refine pure_ (i := 10) (N := some 7) (v := ?_) (a' := ?_) #[true, true, true, true, true, true, true, true, true, true, true, false] rfl rfl (by kernel_rfl) (fun _ _ _ h => h) (Or.inl ⟨by rfl, ?_⟩) ?_ ?_
          rotate_left
          · intro w'
            go_simp
            with_reducible rfl
          rotate_left
          · simp only [Act.put, List.setIfInBounds_toArray, List.set_cons_zero, List.set_cons_succ, i64_w, i32_w]
            rfl
          refine pure_ (i := 11) (N := some 1) (v := ?_) (a' := ?_) #[true, true, true, true, true, true, true, true, true, true, true, true] rfl rfl (by kernel_rfl) (fun _ _ _ h => h) (Or.inl ⟨by rfl, ?_⟩) ?_ ?_
          rotate_left
          · intro w'
            go_simp
            with_reducible rfl
          rotate_left
          · simp only [Act.put, List.setIfInBounds_toArray, List.set_cons_zero, List.set_cons_succ, i64_w, i32_w]
            rfl
          refine done_ (by kernel_rfl) ?_
          have HGi : Aside0 (i < left.length) := ⟨g6⟩
          clear R6 R7 HB hHeld
          go_wp2_with fail
          have HL8 : Aside0 (left.length ≤ 1048576) := ⟨by have := HO.out; omega⟩
          refine (del w.heap.size (fun _ => True) _ left i w _ R68.out HGi.out HL8.out HB8.out (Nat.le_refl _)).mono ?_
          rintro e w9 ⟨v9, rfl, hob, h9, b9, k9⟩
          obtain ⟨A9, c9, rfl⟩ := Kd.R_slice h9
          have R79 := Aside0.mk (Kd.R_kept (Kd.R_tight rfl R78.out) k9 (fun k_ h_ e_ => NE8.out k_ e_ h_))
          have R79' : Aside0 (Kd.R (Kd.int .i64) 3 w9 w.heap.size (fun _ => True) v8 (out ++ [rd left (i : Int)])) := ⟨Kd.R_mono R79.out (fun _ _ => trivial)⟩
          have NE9 : Aside0 (∀ k_, some k_ = (Value.slice A9 (gone left i).length c9).ownBlock → ¬ some k_ = v8.ownBlock) := ⟨fun k_ e1 e2 => NE8.out k_ (e1.trans hob) e2⟩
          have HR9 : Aside0 ((out ++ [rd left (i : Int)]) ++ code (gone left i).length (gone left i) q2 = r) := ⟨by rw [HGm.out, List.append_assoc]; exact HR1.out⟩
          have HQ9 : Aside0 (q2 < fct (gone left i).length) := ⟨by rw [HGm.out, HBb.out]; exact HQ1.out⟩
          have HO9 : Aside0 ((out ++ [rd left (i : Int)]).length + (gone left i).length ≤ 8) := ⟨by rw [HGm.out, List.length_append]; have := HO.out; rw [HM.out] at this; simp; omega⟩
          have HM9 : Aside0 ((gone left i).length < left.length) := ⟨by rw [HGm.out, HM.out]; omega⟩
          have R69 := Aside0.mk h9
          have HB9 := Aside0.mk b9
          clear h9 b9 k9 hob R79
          go_wp2_with fail
          go_roundw
          case rel => first
            | exact ⟨q2, A9, c9, gone left i, out ++ [rd left (i : Int)], rfl, rfl, HO9, HQ9, HR9, R69, R79', NE9, HB9⟩
            | (repeat apply Exists.intro
               exact ⟨⟨q2, A9, c9, gone left i, out ++ [rd left (i : Int)], rfl, rfl, HO9, HQ9, HR9, R69, R79', NE9, HB9⟩, rfl⟩)
          case measure => exact HM9.out
        · have h00 : left.length = 0 := by omega
          have HR2 : Aside0 (out = r) := ⟨by have := HR.out; rw [h00] at this; simpa [code] using this⟩
          have g4 : ¬ (0 : Int) < (left.length : Int) := by omega
          clear HR HQ h00
          go_wp2_with fail
          obtain rfl := HR2.out
          go_ret2
          exact ⟨_, rfl, R7.out, HB.out⟩
    · rw [decide_eq_false h2] at cW
      rw [if_neg (fun q => h2 ⟨q.2.2.1, by have := q.2.2.2; omega⟩)]
      have b1 := B1.out
      clear h1 h2 hfl hfp
      go_enter Try.func30, Try.ntmps30
      go_wp2_with fail
      refine (cB _).mono ?_
      clear cB
      rintro e w1 ⟨rfl, ⟨nd, rfl⟩⟩
      have HB := Aside0.mk (pw_below_drewN (Below.refl w.heap.size w) nd)
      generalize w.drewN nd = wa at HB ⊢
      go_wp2_with fail
      refine (cF _).mono ?_
      clear cF
      rintro e w1 ⟨rfl, ⟨nd2, rfl⟩⟩
      replace HB := Aside0.mk (pw_below_drewN HB.out nd2)
      generalize wa.drewN nd2 = wb at HB ⊢
      go_wp2_with fail
      refine (cW _).mono ?_
      clear cW
      rintro e w1 ⟨rfl, ⟨nd3, rfl⟩⟩
      replace HB := Aside0.mk (pw_below_drewN HB.out nd3)
      generalize wb.drewN nd3 = wc at HB ⊢
      go_wp2_with fail
      go_ret2
      exact ⟨_, rfl, Kd.R_nil _ _ _ _ _, HB.out⟩
  · rw [decide_eq_false h1] at cB
    rw [if_neg (fun q => h1 ⟨q.1, q.2.1⟩)]
    clear h1
    go_enter Try.func30, Try.ntmps30
    go_wp2_with fail
    refine (cB _).mono ?_
    clear cB
    rintro e w1 ⟨rfl, ⟨nd, rfl⟩⟩
    have HB := Aside0.mk (pw_below_drewN (Below.refl w.heap.size w) nd)
    generalize w.drewN nd = wa at HB ⊢
    go_wp2_with fail
    go_ret2
    exact ⟨_, rfl, Kd.R_nil _ _ _ _ _, HB.out⟩
end Go.Proofs.Ytnnedicoapdkkaa.WkOrderOfRank
