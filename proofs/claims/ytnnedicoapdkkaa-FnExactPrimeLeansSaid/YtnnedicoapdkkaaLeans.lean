/- impl.root, impl.leans at this program, in plain Lean: the whole square root, the whole leans of a plank. Conditions: the numbers as told in the theorems. -/
import Derived.Test.YtnnedicoapdkkaaSp
namespace Go.Proofs.Ytnnedicoapdkkaa.Leans
set_option linter.unusedVariables false
set_option linter.unusedSimpArgs false
open Go.RowKit Go.Proofs.YtnnedicoapdkkaaW.PrintWords Go.Proofs.YtnnedicoapdkkaaW.PrintLast Go.Proofs.YtnnedicoapdkkaaW.PrintMore Spots Sp PFnExactSpotsFor

def sq : Nat → Nat
  | 0 => 0
  | n + 1 => if (sq n + 1) * (sq n + 1) ≤ n + 1 then sq n + 1 else sq n
theorem mul_lt {a b : Nat} (h : a < b) : a * a < b * b := Nat.mul_lt_mul'' h h
theorem sq_spec : ∀ n, sq n * sq n ≤ n ∧ n < (sq n + 1) * (sq n + 1)
  | 0 => by decide
  | n + 1 => by
    have ih := sq_spec n
    rw [sq]
    by_cases h : (sq n + 1) * (sq n + 1) ≤ n + 1
    · rw [if_pos h]
      refine ⟨h, ?_⟩
      have := mul_lt (show sq n + 1 < sq n + 1 + 1 by omega)
      omega
    · rw [if_neg h]
      exact ⟨by omega, by omega⟩
theorem sq_lt {n m : Nat} (h : n < m * m) : sq n < m := by
  have := (sq_spec n).1
  rcases Nat.lt_or_ge (sq n) m with h1 | h1
  · exact h1
  · have := Nat.mul_le_mul h1 h1; omega
def ln (p a : Nat) : List (List Int) := if a ≤ sq (p * p - a * a) ∧ a * a + sq (p * p - a * a) * sq (p * p - a * a) = p * p then [[(a : Int), (sq (p * p - a * a) : Int), (p : Int)]] else []
def Ls (p : Nat) : Nat → List (List Int)
  | 0 => []
  | n + 1 => Ls p n ++ ln p (n + 1)
theorem ln_len (p a : Nat) : (ln p a).length ≤ 1 := by unfold ln; split <;> simp
theorem Ls_len (p : Nat) : ∀ n, (Ls p n).length ≤ n
  | 0 => by simp [Ls]
  | n + 1 => by rw [Ls, List.length_append]; have := Ls_len p n; have := ln_len p (n + 1); omega

set_option maxHeartbeats 4000000 in
set_option maxRecDepth 100000 in
theorem root (n : Int) (s : Nat) (w : World) (h1 : ((s * s : Nat) : Int) ≤ n) (h2 : n < (((s + 1) * (s + 1) : Nat) : Int)) (h3 : s ≤ 200) (h4 : n ≤ 40000) :
    Calls Try.prog 63 #[.int .i64 n] w fun e w' => e = .returned (.int .i64 (s : Int)) ∧ w = w' := by
  have H1 := Aside0.mk h1
  have H2 := Aside0.mk h2
  clear h1 h2
  go_enter Try.func63, Try.ntmps63
  go_wp2
  go_loop [3] (fun v3 => ∃ i : Nat, v3 = .int .i64 i ∧ Aside0 (i ≤ s)) (fun v3 => s - (intOf v3).toNat)
  case atStart => exact ⟨0, rfl, ⟨Nat.zero_le _⟩⟩
  case round =>
    obtain ⟨i, rfl, HI⟩ := hrel
    have hi := HI.out
    obtain ⟨q, hq⟩ : ∃ q : Nat, (i + 1) * (i + 1) = q := ⟨_, rfl⟩
    have hqz : ((i : Int) + 1) * ((i : Int) + 1) = (q : Int) := by rw [← hq]; simp
    have hq2 : q ≤ 50000 := by have := Nat.mul_le_mul (show i + 1 ≤ 201 by omega) (show i + 1 ≤ 201 by omega); omega
    by_cases hlt : i < s
    · have hqn : (q : Int) ≤ n := by have := Nat.mul_le_mul (show i + 1 ≤ s by omega) (show i + 1 ≤ s by omega); have := H1.out; omega
      have HI1 : Aside0 (i + 1 ≤ s) := ⟨hlt⟩
      clear hq
      go_wp2
      go_round
      case rel => exact ⟨i + 1, by go_num, HI1⟩
      case measure => simp [intOf]; omega
    · obtain rfl : i = s := by omega
      have hqn : ¬ (q : Int) ≤ n := by have := H2.out; omega
      clear hq
      go_wp2
      go_ret
      exact ⟨rfl, rfl⟩

set_option maxHeartbeats 4000000 in
set_option maxRecDepth 100000 in
theorem leans (p : Nat) (w : World) (h1 : 1 ≤ p) (h2 : p ≤ 200) :
    Calls Try.prog 48 #[.int .i64 (p : Int)] w fun e w' => ∃ v, e = .returned v ∧ Kd.S KL 40 w' w.heap.size (fun _ => True) v (Ls p (p - 1)) ∧ Below w.heap.size w w' := by
  have HB := Aside0.mk (Below.refl w.heap.size w)
  obtain ⟨P2, hP2⟩ : ∃ q : Nat, p * p = q := ⟨_, rfl⟩
  have hPz : (p : Int) * (p : Int) = (P2 : Int) := by rw [← hP2]; simp
  have hPb : P2 ≤ 40000 := by have := Nat.mul_le_mul h2 h2; omega
  have HP2 := Aside0.mk hP2
  clear hP2
  go_enter Try.func48, Try.ntmps48
  go_wp2_with (((with_reducible refine gate_dst (N := 6) rfl ?_); refine Kd.S_lit (Kd.slice 3 (Kd.int .i64)) _ 40 ?hg (N := 6) ?hd (xs := ([] : List (List Int))) (inner := []) (ok := fun _ => True) (okp := fun _ => True) ?hr ?hp (fun _ hk => hk) trivial (Below.refl _ _) (Nat.le_refl _) (by simp) ?_; (case hd => rfl); (case hg => rfl); (case hr => first | (go_simp; done) | (go_simp; rfl)); (case hp => exact (Reps.none _ _)); intro v_S3 w_S3 ho3 hb hg_ hnew_; clear hg_ hnew_; have S3 := Aside0.mk (Kd.S_lower ho3 (below_size (by repeat (first | (with_reducible first | exact HB.out | apply below_alloc | apply pw_below_drewN | apply below_drew1) | exact HB.out)))); have n1_ := Aside0.mk (below_step (by repeat (first | (with_reducible first | exact HB.out | apply below_alloc | apply pw_below_drewN | apply below_drew1) | exact HB.out)) hb); clear HB; have HB := n1_; clear n1_; clear hb ho3))
  go_loopw [3, 4] (fun v3 v4 wr => ∃ a : Nat, v4 = .int .i64 (a : Int) ∧ Aside0 (1 ≤ a ∧ a ≤ p) ∧ Aside0 (Kd.S KL 40 wr w.heap.size (fun _ => True) v3 (Ls p (a - 1))) ∧ Aside0 (Below w.heap.size w wr)) (fun _ v4 _ => p - (intOf v4).toNat)
  case atStart => exact ⟨1, rfl, ⟨⟨Nat.le_refl _, h1⟩⟩, S3, HB⟩
  case round =>
    clear S3 HB
    obtain ⟨a, rfl, HA, S3, HB⟩ := hrel
    have ha1 := HA.out.1
    have ha2 := HA.out.2
    by_cases hlt : a < p
    · obtain ⟨A2, hA2⟩ : ∃ q : Nat, a * a = q := ⟨_, rfl⟩
      have hAz : (a : Int) * (a : Int) = (A2 : Int) := by rw [← hA2]; simp
      have hAP : A2 < P2 := by rw [← hA2, ← HP2.out]; exact mul_lt hlt
      obtain ⟨b, hb⟩ : ∃ b, sq (P2 - A2) = b := ⟨_, rfl⟩
      have hs := sq_spec (P2 - A2)
      have hb200 : b ≤ 200 := by have := sq_lt (n := P2 - A2) (m := 201) (by omega); omega
      rw [hb] at hs
      obtain ⟨B2, hB2⟩ : ∃ q : Nat, b * b = q := ⟨_, rfl⟩
      have hBz : (b : Int) * (b : Int) = (B2 : Int) := by rw [← hB2]; simp
      have hBb : B2 ≤ 40000 := by rw [hB2] at hs; omega
      have HR := Aside0.mk (fun W => root ((P2 : Int) - (A2 : Int)) b W (by omega) (by omega) hb200 (by omega))
      have HLN : Aside0 (ln p a = if a ≤ b ∧ A2 + B2 = P2 then [[(a : Int), (b : Int), (p : Int)]] else []) := ⟨by unfold ln; rw [HP2.out, hA2, hb, hB2]⟩
      have HL1 : Aside0 (Ls p (a + 1 - 1) = Ls p (a - 1) ++ ln p a) := ⟨by obtain ⟨m, rfl⟩ : ∃ m, a = m + 1 := ⟨a - 1, by omega⟩; rfl⟩
      have HA1 : Aside0 (1 ≤ a + 1 ∧ a + 1 ≤ p) := ⟨⟨by omega, hlt⟩⟩
      have LB : Aside0 ((Ls p (a - 1)).length ≤ 200) := ⟨by have := Ls_len p (a - 1); omega⟩
      clear hA2 hb hs hB2 HA
      by_cases c1 : a ≤ b
      · by_cases c2 : A2 + B2 = P2
        · obtain ⟨y, hy⟩ : ∃ y : List Int, y = [(a : Int), (b : Int), (p : Int)] := ⟨_, rfl⟩
          have Ny := Aside0.mk hy
          have NL : Aside0 (Ls p (a + 1 - 1) = Ls p (a - 1) ++ [y]) := ⟨by rw [HL1.out, HLN.out, if_pos ⟨c1, c2⟩, hy]⟩
          have c2z : (A2 : Int) + (B2 : Int) = (P2 : Int) := by omega
          have c2b : (((A2 : Int) + (B2 : Int)) == (P2 : Int)) = true := by rw [c2z]; simp
          have c2c := Aside0.mk c2z
          clear hy HLN HL1 c2 c2z
          go_wp2_with fail
          refine (HR.out _).mono ?_
          rintro e w1 ⟨rfl, rfl⟩
          go_wp2_with (first | ((with_reducible refine gate_dst (N := 40) rfl ?_); refine Kd.R_lit (Kd.int .i64) _ 3 ?hg (N := 40) ?hd (xs := ([(a : Int), (b : Int), (p : Int)] : List Int)) (inner := [.int .i64 (a : Int), .int .i64 (b : Int), .int .i64 (p : Int)]) (ok := fun _ => True) (okp := fun _ => True) ?hr ?hp (fun _ hk => hk) trivial (Below.refl _ _) (Nat.le_refl _) (by simp) ?_; (case hd => rfl); (case hg => rfl); (case hr => first | (go_simp; done) | (go_simp; rfl)); (case hp => exact (Reps.one (show Kd.M (Kd.int .i64) _ _ _ ((a : Int)) [.int .i64 ((a : Int))] from rfl) (Reps.one (show Kd.M (Kd.int .i64) _ _ _ ((b : Int)) [.int .i64 ((b : Int))] from rfl) (Reps.one (show Kd.M (Kd.int .i64) _ _ _ ((p : Int)) [.int .i64 ((p : Int))] from rfl) (Reps.none _ _))))); intro v_RY w_RY ho8 hb hg_ hnew_; clear hg_ hnew_; rw [← Ny.out] at ho8; have n_S3 := Aside0.mk (Kd.S_elder' (by (with_reducible repeat (first | apply Kd.S_alloc | apply Kd.S_drewN | apply Kd.S_drew)); exact S3.out) (Kd.R_base ho8) hb); have RY := Aside0.mk (Kd.R_lower ho8 (below_size (by repeat (first | (with_reducible first | exact HB.out | apply below_alloc | apply pw_below_drewN | apply below_drew1) | exact HB.out)))); have n2_ := Aside0.mk (below_step (by repeat (first | (with_reducible first | exact HB.out | apply below_alloc | apply pw_below_drewN | apply below_drew1) | exact HB.out)) hb); clear S3; have S3 := n_S3; clear n_S3; clear HB; have HB := n2_; clear n2_; clear hb ho8; obtain ⟨A_RY, c_RY, e_RY⟩ := Kd.R_slice RY.out; subst e_RY) | ((with_reducible refine gate_builtin (b := .append) (xs := #[.tmp 36, .tmp 41]) rfl ?_); at_builtin; refine Kd.S_append (Kd.slice 3 (Kd.int .i64)) (w0 := w) w.heap.size rfl (.tmp 36) (.tmp 41) 33 40 (.slice none 0 0) 24 rfl Try.underlying33 info40 rfl (by decide) (by omega) u3 (Ls p (a - 1)) y [.slice A_RY y.length c_RY] (fun _ => True) (fun k_ => some k_ = (.slice A_RY y.length c_RY : Value).ownBlock) rfl rfl ?aP (fun k_ hk_ => ((Kd.R_mono (ok' := fun k_ => ((fun _ => True)) k_ ∧ some k_ ≠ (u3 : Value).ownBlock) (Kd.R_apart' (RY.out) (Kd.S_typed S3.out) (by decide)) (fun k_ hk => ⟨trivial, hk.2⟩))).1 k_ hk_.symm) ?aF ?aO ?aB ?aS ?aL ?_; (case aP => exact Kd.M_row (Kd.R_mono (Kd.R_tight rfl (Kd.R_mono (ok' := fun k_ => ((fun _ => True)) k_ ∧ some k_ ≠ (u3 : Value).ownBlock) (Kd.R_apart' (RY.out) (Kd.S_typed S3.out) (by decide)) (fun k_ hk => ⟨trivial, hk.2⟩))) (fun _ h_ => h_))); (case aB => exact (by repeat (first | (with_reducible first | exact HB.out | apply below_alloc | apply pw_below_drewN | apply below_drew1) | exact HB.out))); (case aF => exact (fun _ _ => trivial)); (case aO => exact (by (with_reducible repeat (first | apply Kd.S_alloc | apply Kd.S_drewN | apply Kd.S_drew)); exact Kd.S_mono S3.out (fun k_ hk => ⟨trivial, fun e_ => hk.2 e_⟩))); (case aS => exact (below_size (by repeat (first | (with_reducible first | exact HB.out | apply below_alloc | apply pw_below_drewN | apply below_drew1) | exact HB.out)))); (case aL => exact (by have := LB.out; omega)); intro v_S4 w_S4 ho hb hg hat; rw [← NL.out] at ho; have n1_ := Aside0.mk (hb); have n2_ := Aside0.mk (ho); clear HB; clear S3; clear RY; have HB := n1_; have S4 := n2_; clear n1_ n2_; clear ho hb hg hat))
          go_roundw
          case rel => exact ⟨a + 1, by go_num, HA1, S4, HB⟩
          case measure => simp [intOf]; omega
        · have c2b : (((A2 : Int) + (B2 : Int)) == (P2 : Int)) = false := beq_eq_false_iff_ne.2 (by omega)
          have NL : Aside0 (Kd.S KL 40 wr w.heap.size (fun _ => True) u3 (Ls p (a + 1 - 1))) := ⟨by rw [HL1.out, HLN.out, if_neg (fun q => c2 q.2), List.append_nil]; exact S3.out⟩
          clear HLN HL1 c2
          go_wp2_with fail
          refine (HR.out _).mono ?_
          rintro e w1 ⟨rfl, rfl⟩
          go_wp2
          go_roundw
          case rel => exact ⟨a + 1, by go_num, HA1, NL, HB⟩
          case measure => simp [intOf]; omega
      · have NL : Aside0 (Kd.S KL 40 wr w.heap.size (fun _ => True) u3 (Ls p (a + 1 - 1))) := ⟨by rw [HL1.out, HLN.out, if_neg (fun q => c1 q.1), List.append_nil]; exact S3.out⟩
        clear HLN HL1
        go_wp2_with fail
        refine (HR.out _).mono ?_
        rintro e w1 ⟨rfl, rfl⟩
        go_wp2
        go_roundw
        case rel => exact ⟨a + 1, by go_num, HA1, NL, HB⟩
        case measure => simp [intOf]; omega
    · obtain rfl : a = p := by omega
      clear HA
      go_wp2
      go_ret
      exact ⟨_, rfl, S3.out, HB.out⟩
end Go.Proofs.Ytnnedicoapdkkaa.Leans
