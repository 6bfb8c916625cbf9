/- impl.factorial, impl.RankOfOrder, impl.CountInverted and the reference's RankOfOrder, CountInverted at this program: the walks. Condition: the slice is no longer than 2^20. -/
import Derived.Test.YtbfgiccfbaobnaaInv
namespace Go.Proofs.Ytbfgiccfbaobnaa.Inv
set_option linter.unusedVariables false
set_option linter.unusedSimpArgs false
open Go.RowKit Go.Proofs.YtbfgiccfbaobnaaW.PrintWords Go.Proofs.YtbfgiccfbaobnaaW.PrintLast Go.Proofs.YtbfgiccfbaobnaaW.PrintMore

def fact : Nat → Nat
  | 0 => 1
  | k + 1 => (k + 1) * fact k
theorem fact_le8 : ∀ m, m < 9 → fact m ≤ 40320 := by decide
set_option maxHeartbeats 1000000 in
theorem factorial (n : Nat) (w : World) (hn : n ≤ 8) : Calls Try.prog 42 #[.int .i64 (n : Int)] w fun e w' => e = .returned (.int .i64 (fact n : Nat)) ∧ w' = w := by
  go_enter Try.func42, Try.ntmps42
  go_wp2
  go_loop [3, 4] (fun s i => ∃ k p : Nat, 1 ≤ k ∧ (k ≤ n ∨ k = 1) ∧ i = .int .i64 ((k + 1 : Nat) : Int) ∧ s = .int .i64 p ∧ Aside0 (p = fact k)) (fun _ i => 10 - (intOf i).toNat)
  case atStart => exact ⟨1, 1, by omega, by omega, rfl, rfl, ⟨rfl⟩⟩
  case round =>
    obtain ⟨k, p, hk, hk2, rfl, rfl, HP⟩ := hrel
    have hp := fact_le8 k (by omega)
    rw [← HP.out] at hp
    have hk8 : k ≤ 8 := by omega
    by_cases hlt : k + 1 ≤ n
    · have hm : p * (k + 1) ≤ 40320 * 9 := Nat.mul_le_mul hp (by omega)
      have hme : ((p : Int) * ((k : Int) + 1)) = ((p * (k + 1) : Nat) : Int) := by rw [Int.natCast_mul]; rfl
      have hm2 : (0 : Int) ≤ (p : Int) * ((k : Int) + 1) := by rw [hme]; omega
      have hm3 : (p : Int) * ((k : Int) + 1) ≤ 400000 := by rw [hme]; omega
      have HME := Aside0.mk hme
      clear hme
      simp only [Int.natCast_add, Int.natCast_one]
      go_wp2
      go_round
      case rel => exact ⟨k + 1, p * (k + 1), by omega, by omega, by first | rfl | go_num, by rw [HME.out], ⟨by rw [HP.out]; simp only [fact]; exact Nat.mul_comm _ _⟩⟩
      case measure => simp [intOf]; omega
    · have HN : Aside0 (fact k = fact n) := ⟨by
        by_cases h : k = n
        · rw [h]
        · have h1 : k = 1 := by omega
          have h0 : n = 0 := by omega
          rw [h1, h0]; rfl⟩
      simp only [Int.natCast_add, Int.natCast_one]
      go_wp2
      go_ret
      exact ⟨by rw [← HN.out, ← HP.out]; rfl, rfl⟩
/-- The program's rank of the first k. -/
def ri (l : List Int) : Nat → Nat
  | 0 => 0
  | k + 1 => ri l k + cnt (rd l (k : Int)) (l.drop (k + 1)) * fact (l.length - 1 - k)
theorem ri_bound (l : List Int) (hl : l.length ≤ 8) : ∀ k, k ≤ l.length → ri l k ≤ 322560 * k
  | 0, _ => by simp [ri]
  | k + 1, hk => by
    have h1 := ri_bound l hl k (by omega)
    have h2 := cnt_le (rd l (k : Int)) (l.drop (k + 1))
    rw [List.length_drop] at h2
    have h3 := fact_le8 (l.length - 1 - k) (by omega)
    have h4 : cnt (rd l (k : Int)) (l.drop (k + 1)) * fact (l.length - 1 - k) ≤ 8 * 40320 := Nat.mul_le_mul (by omega) h3
    simp only [ri]
    omega
theorem horner (l : List Int) : ∀ k, k ≤ l.length → rk l k * fact (l.length - k) = ri l k
  | 0, _ => by simp [rk, ri]
  | k + 1, hk => by
    have h1 := horner l k (by omega)
    simp only [rk, ri]
    rw [← h1, Nat.add_mul]
    congr 1
    · rw [show l.length - k = (l.length - (k + 1)) + 1 by omega]
      simp only [fact]
      rw [Nat.mul_assoc]
    · rw [show l.length - (k + 1) = l.length - 1 - k by omega]
theorem rank_eq (l : List Int) : rk l l.length = ri l l.length := by
  have := horner l l.length (Nat.le_refl _)
  rw [Nat.sub_self] at this
  simpa [fact] using this
theorem ri_step {l : List Int} {k q s : Nat} (h : k < l.length) (hq : q = l.length - (k + 1)) (hs : s = cnt (rd l (k : Int)) ((l.drop (k + 1)).take q)) : ri l k + s * fact (l.length - 1 - k) = ri l (k + 1) := by
  simp only [ri]
  rw [hs, List.take_of_length_le (by rw [List.length_drop]; omega)]
set_option maxHeartbeats 4000000 in
set_option maxRecDepth 100000 in
theorem implRank (A : Option Addr) (c : Nat) (l : List Int) (w : World) (hr : Kd.C (Kd.int .i64) w A l.length l) (hc : l.length ≤ c) (hl : l.length ≤ 8) (ho : Ord.ord l = true) :
    Calls Try.prog 26 #[.slice A l.length c] w fun e w' => e = .returned (.tuple #[.int .i64 (ri l l.length : Nat), .bool true]) ∧ Below w.heap.size w w' := by
  have hl2 : l.length ≤ 9223372036854775807 := by omega
  have cI := Seq.isOrder A c l w hr (by omega)
  rw [ho] at cI
  clear ho
  have HR := Aside0.mk hr
  clear hr
  go_enter Try.func26, Try.ntmps26
  go_wp2_with (go_at_call 13; refine cI.mono ?_; clear cI; rintro e w1 ⟨rfl, hb⟩; have HB := Aside0.mk hb; clear hb)
  have HI := Aside0.mk (Seq.ints_of_C (c := c) (Kd.C_below HR.out HB.out))
  clear HR
  go_loop [4, 15] (fun s i => ∃ k p : Nat, k ≤ l.length ∧ i = .int .i64 k ∧ s = .int .i64 p ∧ Aside0 (p = ri l k)) (fun _ i => l.length - (intOf i).toNat)
  case atStart => exact ⟨0, 0, Nat.zero_le _, rfl, rfl, ⟨rfl⟩⟩
  case round =>
    obtain ⟨k, p, hk, rfl, rfl, HP⟩ := hrel
    by_cases hlt : k < l.length
    · obtain ⟨b, off, cap, e1, _, hcell⟩ := HI.out.resolve_left (by rintro ⟨_, _, _, rfl⟩; simp at hlt)
      injection e1 with e1 e2 e3
      subst e1 e3
      have HC := Aside0.mk hcell
      have hx1 := hcell k hlt
      have hxr : l[k]?.getD 0 = rd l (k : Int) := by rw [rd_nat hlt, List.getElem?_eq_getElem hlt]; rfl
      rw [hxr] at hx1
      clear hcell hxr e2
      have HS := Aside0.mk (fun (q s : Nat) (y : Int) => lstep_yes (l := l) (k := k) (q := q) (s := s) (y := y))
      have HN := Aside0.mk (fun (q s : Nat) (y : Int) => lstep_no (l := l) (k := k) (q := q) (s := s) (y := y))
      have HE := Aside0.mk (fun (q s : Nat) => lstep_le (l := l) (k := k) (q := q) (s := s))
      have HF := Aside0.mk (fun (q s : Nat) => ri_step (l := l) (k := k) (q := q) (s := s) hlt)
      have hp : ri l k ≤ 3000000 := by have := ri_bound l (by omega) k (by omega); omega
      rw [← HP.out] at hp
      have H0 : Aside0 (0 = cnt (rd l (k : Int)) ((l.drop (k + 1)).take 0)) := ⟨by simp [cnt]⟩
      generalize rd l (k : Int) = x at hx1 HS HN HE HF H0
      obtain ⟨n, hn⟩ : ∃ n, l.length - (k + 1) = n := ⟨_, rfl⟩
      have HNn := Aside0.mk hn
      have hnl : n ≤ 1048576 := by omega
      by_cases hcap : c = k + 1
      all_goals
        first | (subst hcap; have HN0 : Aside0 (n ≤ 0) := ⟨by omega⟩) | have HN0 : Aside0 True := ⟨trivial⟩
        go_wp2
        clear hn
        go_loop [7, 25] (fun s i => ∃ q s' : Nat, q ≤ n ∧ i = .int .i64 q ∧ s = .int .i64 s' ∧ Aside0 (s' = cnt x ((l.drop (k + 1)).take q))) (fun _ i => n - (intOf i).toNat)
        case atStart => exact ⟨0, 0, Nat.zero_le _, rfl, rfl, H0⟩
        case round =>
          obtain ⟨q, s, hq, rfl, rfl, HQ⟩ := hrel
          clear H0
          have hsl := HE.out q s HQ.out
          by_cases hqn : q < n
          · first
              | (exfalso; have := HN0.out; omega)
              | (obtain ⟨y, hy⟩ : ∃ y, l[k + 1 + q]?.getD 0 = y := ⟨_, rfl⟩
                 have hcy := HC.out (k + 1 + q) (by have := HNn.out; omega)
                 rw [hy] at hcy
                 have hcy2 : w1.cell? ⟨b, off + (k + 1) + q, none⟩ = some (.int .i64 y) := by rw [Nat.add_assoc off]; exact hcy
                 have HY := Aside0.mk hy
                 clear hy
                 by_cases hxy : y < x
                 · go_wp2_with (go_at_call 41; refine (bitc _ _).mono ?_; rintro e w' ⟨rfl, rfl⟩)
                   go_round
                   case rel => exact ⟨q + 1, s + 1, by omega, by go_num, by go_num, ⟨HS.out q s y HQ.out (by rw [HNn.out]; exact hqn) HY.out hxy⟩⟩
                   case measure => simp [intOf]; omega
                 · go_wp2_with (go_at_call 41; refine (bitc _ _).mono ?_; rintro e w' ⟨rfl, rfl⟩)
                   go_round
                   case rel => exact ⟨q + 1, s, by omega, by go_num, by first | rfl | go_num, ⟨HN.out q s y HQ.out (by rw [HNn.out]; exact hqn) HY.out (by omega)⟩⟩
                   case measure => simp [intOf]; omega)
          · have hf8 := fact_le8 (l.length - 1 - k) (by omega)
            have cF := factorial (l.length - 1 - k) w1 (by omega)
            have eF : (((l.length - 1 - k : Nat)) : Int) = (l.length : Int) - 1 - (k : Int) := by omega
            rw [eF] at cF
            clear eF
            have HRI := Aside0.mk (HF.out q s (by have := HNn.out; omega) HQ.out)
            generalize fact (l.length - 1 - k) = u at cF hf8 HRI
            have hm : s * u ≤ 8 * 40320 := Nat.mul_le_mul (by omega) hf8
            have hme : ((s : Int) * (u : Int)) = ((s * u : Nat) : Int) := by rw [Int.natCast_mul]
            have hm2 : (0 : Int) ≤ (s : Int) * (u : Int) := by rw [hme]; omega
            have hm3 : (s : Int) * (u : Int) ≤ 800000000 := by rw [hme]; omega
            have HME := Aside0.mk hme
            clear hme
            go_wp2_with (go_at_call 42; refine cF.mono ?_; clear cF; rintro e w' ⟨rfl, rfl⟩)
            go_round
            case rel => exact ⟨k + 1, p + s * u, by omega, by go_num, by have := HME.out; rw [this]; go_num, ⟨by rw [HP.out]; exact HRI.out⟩⟩
            case measure => simp [intOf]; omega
    · obtain rfl : k = l.length := by omega
      go_wp2
      go_ret2
      exact ⟨by rw [← HP.out]; rfl, HB.out⟩
end Go.Proofs.Ytbfgiccfbaobnaa.Inv
