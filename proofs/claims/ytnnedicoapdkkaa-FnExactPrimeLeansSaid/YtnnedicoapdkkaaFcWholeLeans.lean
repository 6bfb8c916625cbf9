/- The whole leans of a plank by the reference's printed function: the same as the program's, in plain Lean. Condition: the plank is 1 to 200 long. -/
import Derived.Test.YtnnedicoapdkkaaLeans
import Derived.Test.YtnnedicoapdkkaaPFnExactWholeLeansx1
namespace Go.Proofs.Ytnnedicoapdkkaa.FcWholeLeans
set_option linter.unusedVariables false
set_option linter.unusedSimpArgs false
open Go.RowKit Go.Proofs.YtnnedicoapdkkaaW.PrintWords Go.Proofs.YtnnedicoapdkkaaW.PrintLast Go.Proofs.YtnnedicoapdkkaaW.PrintMore Sp Leans PFnExactWholeLeans

theorem sq_mono {n m : Nat} (h : n ≤ m) : sq n ≤ sq m := by
  have h1 := (sq_spec n).1
  have h2 := (sq_spec m).2
  rcases Nat.lt_or_ge (sq m) (sq n) with hl | hl
  · have := Nat.mul_le_mul (show sq m + 1 ≤ sq n by omega) (show sq m + 1 ≤ sq n by omega); omega
  · exact hl
/-- The first two numbers of each lean. -/
def Ws (p n : Nat) : List (List Int) := (Ls p n).map (List.take 2)
theorem Ws_succ (p n : Nat) : Ws p (n + 1) = Ws p n ++ (ln p (n + 1)).map (List.take 2) := by unfold Ws; rw [Ls, List.map_append]
theorem ln_none {p a : Nat} (h : sq (p * p - a * a) < a) : ln p a = [] := by unfold ln; rw [if_neg (fun q => by omega)]
theorem Ws_tail {p a : Nat} (h : ∀ x, a < x → sq (p * p - x * x) < x) : ∀ d, Ws p (a + d) = Ws p a
  | 0 => rfl
  | d + 1 => by rw [show a + (d + 1) = (a + d) + 1 by omega, Ws_succ, ln_none (h (a + d + 1) (by omega)), Ws_tail h d]; simp
/-- What stands behind the inner loop. -/
def body (k : Nat) (p : Int) (out : List (List Int)) (s a : Int) : Option (List (List Int)) :=
  if a ≤ s then (if a * a + s * s = p * p then spec_cnLeans.l0 k p (out ++ [[a, s]]) s (a + 1) else spec_cnLeans.l0 k p out s (a + 1)) else spec_cnLeans.l0 k p out s (a + 1)
theorem s_l1 {p a : Nat} (ha1 : 1 ≤ a) (ha : a ≤ p) (hp : p ≤ 200) (out : List (List Int)) (ho : out.length ≤ 1000) (r : List (List Int)) (hr : Ev (fun k => body k p out (sq (p * p - a * a) : Int) a) r) : ∀ (d b : Nat), b = sq (p * p - a * a) + d → b ≤ 200 → Ev (fun k => spec_cnLeans.l1 k p out (b : Int) (a : Int)) r := by
  have hs := sq_spec (p * p - a * a)
  have hap := Nat.mul_le_mul ha ha
  intro d
  induction d with
  | zero =>
    intro b hb hb2
    have ht := Aside0.mk (test_eq (pl := (p : Int)) (a := (a : Int)) (b := (b : Int)) (by omega) (by omega) (by omega) (by omega) (by omega) (by omega))
    rw [Nat.add_zero] at hb
    rw [← hb] at hr hs
    have hle : ¬ (a : Int) * (a : Int) + (b : Int) * (b : Int) > (p : Int) * (p : Int) := by
      rw [← Int.natCast_mul, ← Int.natCast_mul, ← Int.natCast_mul, ← Int.natCast_add]; exact fun q => absurd (Int.ofNat_lt.mp q) (by omega)
    refine ev_step (fun k => ?_) hr
    simp only [spec_cnLeans.l1, body]
    rw [ht.out.1, ht.out.2, if_neg hle, if_pos (show out.length < 5864062014805 by omega), w_id (x := (a : Int) + 1) (by omega) (by omega)]
  | succ d ih =>
    intro b hb hb2
    have ht := Aside0.mk (test_eq (pl := (p : Int)) (a := (a : Int)) (b := (b : Int)) (by omega) (by omega) (by omega) (by omega) (by omega) (by omega))
    have hgt : (a : Int) * (a : Int) + (b : Int) * (b : Int) > (p : Int) * (p : Int) := by
      have := Nat.mul_le_mul (show sq (p * p - a * a) + 1 ≤ b by omega) (show sq (p * p - a * a) + 1 ≤ b by omega)
      rw [← Int.natCast_mul, ← Int.natCast_mul, ← Int.natCast_mul, ← Int.natCast_add]; exact Int.ofNat_lt.mpr (by omega)
    refine ev_step (fun k => ?_) (ih (b - 1) (by omega) (by omega))
    simp only [spec_cnLeans.l1]
    rw [ht.out.1, ht.out.2, if_pos hgt, w_id (x := (b : Int) - 1) (by omega) (by omega), show (b : Int) - 1 = ((b - 1 : Nat) : Int) by omega]
theorem s_l0 {p : Nat} (hp : p ≤ 200) : ∀ (d a b : Nat), a + d = p + 1 → 1 ≤ a → sq (p * p - a * a) ≤ b → b ≤ p → Ev (fun k => spec_cnLeans.l0 k p (Ws p (a - 1)) (b : Int) (a : Int)) (Ws p p)
  | 0, a, b, hd, ha, hb, hb2 => by
    refine ev_end (fun k => ?_)
    simp only [spec_cnLeans.l0]
    rw [if_neg (by omega), show a - 1 = p by omega]
  | d + 1, a, b, hd, ha, hb, hb2 => by
    obtain ⟨n, rfl⟩ : ∃ n, a = n + 1 := ⟨a - 1, by omega⟩
    rw [show n + 1 - 1 = n from rfl]
    by_cases hab : n + 1 ≤ b
    · have hwl : (Ws p n).length ≤ 1000 := by unfold Ws; rw [List.length_map]; have := Ls_len p n; omega
      have hi := s_l0 hp d (n + 2) (sq (p * p - (n + 1) * (n + 1))) (by omega) (by omega) (sq_mono (by have := Nat.mul_le_mul (show n + 1 ≤ n + 2 by omega) (show n + 1 ≤ n + 2 by omega); omega)) (by omega)
      rw [show n + 2 - 1 = n + 1 from rfl, Ws_succ] at hi
      refine ev_step (g' := fun k => spec_cnLeans.l1 k p (Ws p n) (b : Int) ((n + 1 : Nat) : Int)) (fun k => ?_) (s_l1 (p := p) (a := n + 1) (by omega) (by omega) hp (Ws p n) hwl _ ?_ (b - sq (p * p - (n + 1) * (n + 1))) b (by omega) (by omega))
      · simp only [spec_cnLeans.l0]
        rw [if_pos (by omega)]
      · have e2 : ((n + 1 : Nat) : Int) + 1 = ((n + 2 : Nat) : Int) := by omega
        unfold body ln at *
        by_cases c1 : n + 1 ≤ sq (p * p - (n + 1) * (n + 1))
        · by_cases c2 : (n + 1) * (n + 1) + sq (p * p - (n + 1) * (n + 1)) * sq (p * p - (n + 1) * (n + 1)) = p * p
          · rw [if_pos ⟨c1, c2⟩] at hi
            have c2z : ((n + 1 : Nat) : Int) * ((n + 1 : Nat) : Int) + (sq (p * p - (n + 1) * (n + 1)) : Int) * (sq (p * p - (n + 1) * (n + 1)) : Int) = (p : Int) * (p : Int) := by
              rw [← Int.natCast_mul, ← Int.natCast_mul, ← Int.natCast_mul, ← Int.natCast_add, c2]
            simp only [if_pos (show ((n + 1 : Nat) : Int) ≤ (sq (p * p - (n + 1) * (n + 1)) : Int) by omega), if_pos c2z]
            rw [e2]
            exact hi
          · rw [if_neg (fun q => c2 q.2)] at hi
            have c2z : ¬ ((n + 1 : Nat) : Int) * ((n + 1 : Nat) : Int) + (sq (p * p - (n + 1) * (n + 1)) : Int) * (sq (p * p - (n + 1) * (n + 1)) : Int) = (p : Int) * (p : Int) := by
              rw [← Int.natCast_mul, ← Int.natCast_mul, ← Int.natCast_mul]; omega
            simp only [if_pos (show ((n + 1 : Nat) : Int) ≤ (sq (p * p - (n + 1) * (n + 1)) : Int) by omega), if_neg c2z]
            rw [e2]
            simpa using hi
        · rw [if_neg (fun q => c1 q.1)] at hi
          simp only [if_neg (show ¬ ((n + 1 : Nat) : Int) ≤ (sq (p * p - (n + 1) * (n + 1)) : Int) by omega)]
          rw [e2]
          simpa using hi
    · have hw : Ws p n = Ws p p := by
        have := Ws_tail (p := p) (a := n) (fun x hx => by
          have h1 := sq_mono (n := p * p - x * x) (m := p * p - (n + 1) * (n + 1)) (by have := Nat.mul_le_mul (show n + 1 ≤ x by omega) (show n + 1 ≤ x by omega); omega)
          omega) (p - n)
        rw [show n + (p - n) = p by omega] at this
        exact this.symm
      rw [hw]
      refine ev_end (fun k => ?_)
      simp only [spec_cnLeans.l0]
      rw [if_neg (by omega)]
theorem Ws_last {p : Nat} (h1 : 1 ≤ p) : Ws p p = Ws p (p - 1) := by
  obtain ⟨n, rfl⟩ : ∃ n, p = n + 1 := ⟨p - 1, by omega⟩
  rw [Ws_succ, ln_none (by rw [Nat.sub_self]; show 0 < n + 1; omega)]
  simp
theorem cnLeans {p : Nat} (h1 : 1 ≤ p) (hp : p ≤ 200) : ∃ k, spec_cnLeans.f k p = some (Ws p (p - 1)) := by
  have h := s_l0 hp p 1 p (by omega) (Nat.le_refl _) (by have := sq_lt (n := p * p - 1 * 1) (m := p) (by have := Nat.mul_le_mul h1 h1; omega); omega) (Nat.le_refl _)
  rw [Ws_last h1] at h
  exact h.rounds
end Go.Proofs.Ytnnedicoapdkkaa.FcWholeLeans
