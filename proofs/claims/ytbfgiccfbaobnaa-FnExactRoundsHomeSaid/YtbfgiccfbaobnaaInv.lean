/- spec.ptInverted, impl.inverted: how many two are inverted; spec.ptRank; the walks. Condition: the slice is no longer than 2^20. -/
import Derived.Test.YtbfgiccfbaobnaaIsOrd

namespace Go.Proofs.Ytbfgiccfbaobnaa.Inv
set_option linter.unusedVariables false
set_option linter.unusedSimpArgs false
open Go.RowKit Go.Proofs.YtbfgiccfbaobnaaW.PrintWords Go.Proofs.YtbfgiccfbaobnaaW.PrintLast Go.Proofs.YtbfgiccfbaobnaaW.PrintMore

/-- How many of t are less than a. -/
def cnt (a : Int) (t : List Int) : Nat := (t.filter fun b => decide (b < a)).length
theorem cnt_le (a : Int) (t : List Int) : cnt a t ≤ t.length := List.length_filter_le _ _
theorem rd_nat {l : List Int} {i : Nat} (h : i < l.length) : rd l (i : Int) = l[i] := by
  unfold rd
  rw [List.getD_eq_getElem?_getD, show ((i : Int)).toNat = i by omega, List.getElem?_eq_getElem h]
  rfl
theorem cnt_snoc (a : Int) (t : List Int) (j : Nat) (h : j < t.length) : cnt a (t.take (j + 1)) = cnt a (t.take j) + (if rd t (j : Int) < a then 1 else 0) := by
  unfold cnt
  rw [List.take_succ_eq_append_getElem h, List.filter_append, List.length_append, rd_nat h]
  by_cases hc : t[j] < a <;> simp [hc]
/-- How many are inverted with one of the first k. -/
def pre (l : List Int) : Nat → Nat
  | 0 => 0
  | k + 1 => pre l k + cnt (rd l (k : Int)) (l.drop (k + 1))
theorem pre_le (l : List Int) : ∀ k, pre l k ≤ k * l.length
  | 0 => by simp [pre]
  | k + 1 => by
    have h1 := pre_le l k
    have h2 := cnt_le (rd l (k : Int)) (l.drop (k + 1))
    rw [List.length_drop] at h2
    simp only [pre]
    rw [Nat.add_mul]
    omega

theorem pre_step {l : List Int} {k q : Nat} (h : k < l.length) (hq : q = l.length - (k + 1)) : pre l k + cnt (rd l (k : Int)) ((l.drop (k + 1)).take q) = pre l (k + 1) := by
  simp only [pre]
  rw [List.take_of_length_le (by rw [List.length_drop]; omega)]
theorem pre_bound (l : List Int) (hl : l.length ≤ 1048576) (k : Nat) (hk : k ≤ l.length) : pre l k ≤ 1099511627776 := by
  have h := pre_le l k
  have h2 : k * l.length ≤ 1048576 * 1048576 := Nat.mul_le_mul (by omega) hl
  omega
/-- One round of the inner loop. -/
theorem step_yes {l : List Int} {k q s : Nat} {y : Int} (hs : s = pre l k + cnt (rd l (k : Int)) ((l.drop (k + 1)).take q)) (hq : q < l.length - (k + 1)) (hy : l[k + 1 + q]?.getD 0 = y) (h : y < rd l (k : Int)) :
    s + 1 = pre l k + cnt (rd l (k : Int)) ((l.drop (k + 1)).take (q + 1)) := by
  have e : rd (l.drop (k + 1)) (q : Int) = y := by
    rw [rd_nat (by rw [List.length_drop]; omega), ← hy, List.getElem_drop, List.getElem?_eq_getElem (by omega)]
    rfl
  rw [cnt_snoc _ _ _ (by rw [List.length_drop]; omega), e, if_pos h]; omega
theorem step_no {l : List Int} {k q s : Nat} {y : Int} (hs : s = pre l k + cnt (rd l (k : Int)) ((l.drop (k + 1)).take q)) (hq : q < l.length - (k + 1)) (hy : l[k + 1 + q]?.getD 0 = y) (h : ¬ y < rd l (k : Int)) :
    s = pre l k + cnt (rd l (k : Int)) ((l.drop (k + 1)).take (q + 1)) := by
  have e : rd (l.drop (k + 1)) (q : Int) = y := by
    rw [rd_nat (by rw [List.length_drop]; omega), ← hy, List.getElem_drop, List.getElem?_eq_getElem (by omega)]
    rfl
  rw [cnt_snoc _ _ _ (by rw [List.length_drop]; omega), e, if_neg h]; omega
theorem step_le {l : List Int} {k q s : Nat} (hl : l.length ≤ 1048576) (hk : k < l.length) (hs : s = pre l k + cnt (rd l (k : Int)) ((l.drop (k + 1)).take q)) : s ≤ 2000000000000 := by
  have h1 := pre_bound l hl k (by omega)
  have h2 := cnt_le (rd l (k : Int)) ((l.drop (k + 1)).take q)
  rw [List.length_take, List.length_drop] at h2
  omega

theorem bitc (x : Bool) (w : World) : Calls Try.prog 41 #[.bool x] w fun e w' => e = .returned (.int .i64 (if x = true then 1 else 0)) ∧ w' = w := by
  cases x with
  | true =>
    go_enter Try.func41, Try.ntmps41
    go_wp2
    go_ret
    exact ⟨rfl, rfl⟩
  | false =>
    go_enter Try.func41, Try.ntmps41
    go_wp2
    go_ret
    exact ⟨rfl, rfl⟩
/-- The reference's rank of the first k. -/
def rk (l : List Int) : Nat → Nat
  | 0 => 0
  | k + 1 => rk l k * (l.length - k) + cnt (rd l (k : Int)) (l.drop (k + 1))
theorem rk_le (l : List Int) (hl : l.length ≤ 8) : ∀ k, rk l k + 2 ≤ 2 * 9 ^ k
  | 0 => by simp [rk]
  | k + 1 => by
    have h1 := rk_le l hl k
    have h2 := cnt_le (rd l (k : Int)) (l.drop (k + 1))
    rw [List.length_drop] at h2
    simp only [rk]
    have h3 : rk l k * (l.length - k) ≤ rk l k * 8 := Nat.mul_le_mul_left _ (by omega)
    rw [Nat.pow_succ]
    omega
theorem rk_bound (l : List Int) (hl : l.length ≤ 8) (k : Nat) (hk : k ≤ 8) : rk l k ≤ 100000000 := by
  have h := rk_le l hl k
  have h2 : (9 : Nat) ^ k ≤ 9 ^ 8 := Nat.pow_le_pow_right (by omega) hk
  have h3 : (9 : Nat) ^ 8 = 43046721 := by decide
  omega
theorem lstep_yes {l : List Int} {k q s : Nat} {y : Int} (hs : s = cnt (rd l (k : Int)) ((l.drop (k + 1)).take q)) (hq : q < l.length - (k + 1)) (hy : l[k + 1 + q]?.getD 0 = y) (h : y < rd l (k : Int)) :
    s + 1 = cnt (rd l (k : Int)) ((l.drop (k + 1)).take (q + 1)) := by
  have := step_yes (l := l) (k := k) (q := q) (s := pre l k + s) (y := y) (by omega) hq hy h
  omega
theorem lstep_no {l : List Int} {k q s : Nat} {y : Int} (hs : s = cnt (rd l (k : Int)) ((l.drop (k + 1)).take q)) (hq : q < l.length - (k + 1)) (hy : l[k + 1 + q]?.getD 0 = y) (h : ¬ y < rd l (k : Int)) :
    s = cnt (rd l (k : Int)) ((l.drop (k + 1)).take (q + 1)) := by
  have := step_no (l := l) (k := k) (q := q) (s := pre l k + s) (y := y) (by omega) hq hy h
  omega
theorem lstep_le {l : List Int} {k q s : Nat} (hs : s = cnt (rd l (k : Int)) ((l.drop (k + 1)).take q)) : s ≤ l.length := by
  have h2 := cnt_le (rd l (k : Int)) ((l.drop (k + 1)).take q)
  rw [List.length_take, List.length_drop] at h2
  omega
theorem rk_step {l : List Int} {k q s : Nat} (h : k < l.length) (hq : q = l.length - (k + 1)) (hs : s = cnt (rd l (k : Int)) ((l.drop (k + 1)).take q)) : rk l k * (l.length - k) + s = rk l (k + 1) := by
  simp only [rk]
  rw [hs, List.take_of_length_le (by rw [List.length_drop]; omega)]
set_option maxHeartbeats 4000000 in
set_option maxRecDepth 100000 in
theorem ptInverted (A : Option Addr) (c : Nat) (l : List Int) (w : World) (hr : Kd.C (Kd.int .i64) w A l.length l) (hc : l.length ≤ c) (hl : l.length ≤ 1048576) :
    Calls Try.prog 35 #[.slice A l.length c] w fun e w' => e = .returned (.int .i64 (pre l l.length : Nat)) ∧ w' = w := by
  have hl2 : l.length ≤ 9223372036854775807 := by omega
  have HI := Aside0.mk (Seq.ints_of_C (c := c) hr)
  clear hr
  go_enter Try.func35, Try.ntmps35
  go_wp2
  go_loop [3, 10] (fun s i => ∃ k p : Nat, k ≤ l.length ∧ i = .int .i64 k ∧ s = .int .i64 p ∧ Aside0 (p = pre l k)) (fun _ i => l.length - (intOf i).toNat)
  case atStart => exact ⟨0, 0, Nat.zero_le _, rfl, rfl, ⟨rfl⟩⟩
  case round =>
    obtain ⟨k, p, hk, rfl, rfl, HP⟩ := hrel
    by_cases hlt : k < l.length
    · obtain ⟨b, off, cap, e1, _, hcell⟩ := HI.out.resolve_left (by rintro ⟨_, _, _, rfl⟩; simp at hlt)
      injection e1 with e1 e2 e3
      subst e1 e3
      have HC := Aside0.mk hcell
      have hx1 := hcell k hlt
      have hxr : l[k]?.getD 0 = rd l (k : Int) := by rw [rd_nat hlt, List.getElem?_eq_getElem hlt]; rfl
      rw [hxr] at hx1
      clear hcell hxr e2
      have HS := Aside0.mk (fun (q s : Nat) (y : Int) => step_yes (l := l) (k := k) (q := q) (s := s) (y := y))
      have HN := Aside0.mk (fun (q s : Nat) (y : Int) => step_no (l := l) (k := k) (q := q) (s := s) (y := y))
      have HE := Aside0.mk (fun (q s : Nat) => step_le (l := l) (k := k) (q := q) (s := s) (by omega) hlt)
      have HF := Aside0.mk (fun (q : Nat) => pre_step (l := l) (k := k) (q := q) hlt)
      have H0 : Aside0 (p = pre l k + cnt (rd l (k : Int)) ((l.drop (k + 1)).take 0)) := ⟨by rw [HP.out]; simp [cnt]⟩
      generalize rd l (k : Int) = x at hx1 HS HN HE HF H0
      obtain ⟨n, hn⟩ : ∃ n, l.length - (k + 1) = n := ⟨_, rfl⟩
      have HNn := Aside0.mk hn
      have hnl : n ≤ 1048576 := by omega
      by_cases hcap : c = k + 1
      all_goals
        first | (subst hcap; have HN0 : Aside0 (n ≤ 0) := ⟨by omega⟩) | have HN0 : Aside0 True := ⟨trivial⟩
        go_wp2
        clear hn
        go_loop [3, 20] (fun s i => ∃ q s' : Nat, q ≤ n ∧ i = .int .i64 q ∧ s = .int .i64 s' ∧ Aside0 (s' = pre l k + cnt x ((l.drop (k + 1)).take q))) (fun _ i => n - (intOf i).toNat)
        case atStart => exact ⟨0, p, Nat.zero_le _, rfl, rfl, H0⟩
        case round =>
          obtain ⟨q, s, hq, rfl, rfl, HQ⟩ := hrel
          clear H0
          have hsl := HE.out q s HQ.out
          by_cases hqn : q < n
          · first
              | (exfalso; have := HN0.out; omega)
              | (obtain ⟨y, hy⟩ : ∃ y, l[k + 1 + q]?.getD 0 = y := ⟨_, rfl⟩
                 have hcy := HC.out (k + 1 + q) (by have := HNn.out; omega)
                 rw [hy] at hcy
                 have hcy2 : w.cell? ⟨b, off + (k + 1) + q, none⟩ = some (.int .i64 y) := by rw [Nat.add_assoc off]; exact hcy
                 have HY := Aside0.mk hy
                 clear hy
                 by_cases hxy : y < x
                 · go_wp2
                   go_round
                   case rel => exact ⟨q + 1, s + 1, by omega, by go_num, by go_num, ⟨HS.out q s y HQ.out (by rw [HNn.out]; exact hqn) HY.out hxy⟩⟩
                   case measure => simp [intOf]; omega
                 · go_wp2
                   go_round
                   case rel => exact ⟨q + 1, s, by omega, by go_num, by first | rfl | go_num, ⟨HN.out q s y HQ.out (by rw [HNn.out]; exact hqn) HY.out (by omega)⟩⟩
                   case measure => simp [intOf]; omega)
          · go_wp2
            go_round
            case rel => exact ⟨k + 1, s, by omega, by go_num, rfl, ⟨by rw [HQ.out]; exact HF.out q (by have := HNn.out; omega)⟩⟩
            case measure => simp [intOf]; omega
    · obtain rfl : k = l.length := by omega
      go_wp2
      go_ret
      exact ⟨by rw [← HP.out]; rfl, rfl⟩
set_option maxHeartbeats 4000000 in
set_option maxRecDepth 100000 in
theorem inverted (A : Option Addr) (c : Nat) (l : List Int) (w : World) (hr : Kd.C (Kd.int .i64) w A l.length l) (hc : l.length ≤ c) (hl : l.length ≤ 1048576) :
    Calls Try.prog 36 #[.slice A l.length c] w fun e w' => e = .returned (.int .i64 (pre l l.length : Nat)) ∧ w' = w := by
  have hl2 : l.length ≤ 9223372036854775807 := by omega
  have HI := Aside0.mk (Seq.ints_of_C (c := c) hr)
  clear hr
  go_enter Try.func36, Try.ntmps36
  go_wp2
  go_loop [3, 10] (fun s i => ∃ k p : Nat, k ≤ l.length ∧ i = .int .i64 k ∧ s = .int .i64 p ∧ Aside0 (p = pre l k)) (fun _ i => l.length - (intOf i).toNat)
  case atStart => exact ⟨0, 0, Nat.zero_le _, rfl, rfl, ⟨rfl⟩⟩
  case round =>
    obtain ⟨k, p, hk, rfl, rfl, HP⟩ := hrel
    by_cases hlt : k < l.length
    · obtain ⟨b, off, cap, e1, _, hcell⟩ := HI.out.resolve_left (by rintro ⟨_, _, _, rfl⟩; simp at hlt)
      injection e1 with e1 e2 e3
      subst e1 e3
      have HC := Aside0.mk hcell
      have hx1 := hcell k hlt
      have hxr : l[k]?.getD 0 = rd l (k : Int) := by rw [rd_nat hlt, List.getElem?_eq_getElem hlt]; rfl
      rw [hxr] at hx1
      clear hcell hxr e2
      have HS := Aside0.mk (fun (q s : Nat) (y : Int) => step_yes (l := l) (k := k) (q := q) (s := s) (y := y))
      have HN := Aside0.mk (fun (q s : Nat) (y : Int) => step_no (l := l) (k := k) (q := q) (s := s) (y := y))
      have HE := Aside0.mk (fun (q s : Nat) => step_le (l := l) (k := k) (q := q) (s := s) (by omega) hlt)
      have HF := Aside0.mk (fun (q : Nat) => pre_step (l := l) (k := k) (q := q) hlt)
      have H0 : Aside0 (p = pre l k + cnt (rd l (k : Int)) ((l.drop (k + 1)).take 0)) := ⟨by rw [HP.out]; simp [cnt]⟩
      generalize rd l (k : Int) = x at hx1 HS HN HE HF H0
      obtain ⟨n, hn⟩ : ∃ n, l.length - (k + 1) = n := ⟨_, rfl⟩
      have HNn := Aside0.mk hn
      have hnl : n ≤ 1048576 := by omega
      by_cases hcap : c = k + 1
      all_goals
        first | (subst hcap; have HN0 : Aside0 (n ≤ 0) := ⟨by omega⟩) | have HN0 : Aside0 True := ⟨trivial⟩
        go_wp2
        clear hn
        go_loop [3, 20] (fun s i => ∃ q s' : Nat, q ≤ n ∧ i = .int .i64 q ∧ s = .int .i64 s' ∧ Aside0 (s' = pre l k + cnt x ((l.drop (k + 1)).take q))) (fun _ i => n - (intOf i).toNat)
        case atStart => exact ⟨0, p, Nat.zero_le _, rfl, rfl, H0⟩
        case round =>
          obtain ⟨q, s, hq, rfl, rfl, HQ⟩ := hrel
          clear H0
          have hsl := HE.out q s HQ.out
          by_cases hqn : q < n
          · first
              | (exfalso; have := HN0.out; omega)
              | (obtain ⟨y, hy⟩ : ∃ y, l[k + 1 + q]?.getD 0 = y := ⟨_, rfl⟩
                 have hcy := HC.out (k + 1 + q) (by have := HNn.out; omega)
                 rw [hy] at hcy
                 have hcy2 : w.cell? ⟨b, off + (k + 1) + q, none⟩ = some (.int .i64 y) := by rw [Nat.add_assoc off]; exact hcy
                 have HY := Aside0.mk hy
                 clear hy
                 by_cases hxy : y < x
                 · go_wp2_with (go_at_call 41; refine (bitc _ _).mono ?_; rintro e w' ⟨rfl, rfl⟩)
                   go_round
                   case rel => exact ⟨q + 1, s + 1, by omega, by go_num, by go_num, ⟨HS.out q s y HQ.out (by rw [HNn.out]; exact hqn) HY.out hxy⟩⟩
                   case measure => simp [intOf]; omega
                 · go_wp2_with (go_at_call 41; refine (bitc _ _).mono ?_; rintro e w' ⟨rfl, rfl⟩)
                   go_round
                   case rel => exact ⟨q + 1, s, by omega, by go_num, by first | rfl | go_num, ⟨HN.out q s y HQ.out (by rw [HNn.out]; exact hqn) HY.out (by omega)⟩⟩
                   case measure => simp [intOf]; omega)
          · go_wp2
            go_round
            case rel => exact ⟨k + 1, s, by omega, by go_num, rfl, ⟨by rw [HQ.out]; exact HF.out q (by have := HNn.out; omega)⟩⟩
            case measure => simp [intOf]; omega
    · obtain rfl : k = l.length := by omega
      go_wp2
      go_ret
      exact ⟨by rw [← HP.out]; rfl, rfl⟩
set_option maxHeartbeats 4000000 in
set_option maxRecDepth 100000 in
theorem ptRank (A : Option Addr) (c : Nat) (l : List Int) (w : World) (hr : Kd.C (Kd.int .i64) w A l.length l) (hc : l.length ≤ c) (hl : l.length ≤ 8) :
    Calls Try.prog 40 #[.slice A l.length c] w fun e w' => e = .returned (.int .i64 (rk l l.length : Nat)) ∧ w' = w := by
  have hl2 : l.length ≤ 9223372036854775807 := by omega
  have HI := Aside0.mk (Seq.ints_of_C (c := c) hr)
  clear hr
  go_enter Try.func40, Try.ntmps40
  go_wp2
  go_loop [3, 11] (fun s i => ∃ k p : Nat, k ≤ l.length ∧ i = .int .i64 k ∧ s = .int .i64 p ∧ Aside0 (p = rk l k)) (fun _ i => l.length - (intOf i).toNat)
  case atStart => exact ⟨0, 0, Nat.zero_le _, rfl, rfl, ⟨rfl⟩⟩
  case round =>
    obtain ⟨k, p, hk, rfl, rfl, HP⟩ := hrel
    by_cases hlt : k < l.length
    · obtain ⟨b, off, cap, e1, _, hcell⟩ := HI.out.resolve_left (by rintro ⟨_, _, _, rfl⟩; simp at hlt)
      injection e1 with e1 e2 e3
      subst e1 e3
      have HC := Aside0.mk hcell
      have hx1 := hcell k hlt
      have hxr : l[k]?.getD 0 = rd l (k : Int) := by rw [rd_nat hlt, List.getElem?_eq_getElem hlt]; rfl
      rw [hxr] at hx1
      clear hcell hxr e2
      have HS := Aside0.mk (fun (q s : Nat) (y : Int) => lstep_yes (l := l) (k := k) (q := q) (s := s) (y := y))
      have HN := Aside0.mk (fun (q s : Nat) (y : Int) => lstep_no (l := l) (k := k) (q := q) (s := s) (y := y))
      have HE := Aside0.mk (fun (q s : Nat) => lstep_le (l := l) (k := k) (q := q) (s := s))
      have HF := Aside0.mk (fun (q s : Nat) => rk_step (l := l) (k := k) (q := q) (s := s) hlt)
      have hp := rk_bound l (by omega) k (by omega)
      rw [← HP.out] at hp
      have H0 : Aside0 (0 = cnt (rd l (k : Int)) ((l.drop (k + 1)).take 0)) := ⟨by simp [cnt]⟩
      generalize rd l (k : Int) = x at hx1 HS HN HE HF H0
      obtain ⟨n, hn⟩ : ∃ n, l.length - (k + 1) = n := ⟨_, rfl⟩
      have HNn := Aside0.mk hn
      have hnl : n ≤ 1048576 := by omega
      by_cases hcap : c = k + 1
      all_goals
        first | (subst hcap; have HN0 : Aside0 (n ≤ 0) := ⟨by omega⟩) | have HN0 : Aside0 True := ⟨trivial⟩
        go_wp2
        clear hn
        go_loop [6, 21] (fun s i => ∃ q s' : Nat, q ≤ n ∧ i = .int .i64 q ∧ s = .int .i64 s' ∧ Aside0 (s' = cnt x ((l.drop (k + 1)).take q))) (fun _ i => n - (intOf i).toNat)
        case atStart => exact ⟨0, 0, Nat.zero_le _, rfl, rfl, H0⟩
        case round =>
          obtain ⟨q, s, hq, rfl, rfl, HQ⟩ := hrel
          clear H0
          have hsl := HE.out q s HQ.out
          by_cases hqn : q < n
          · first
              | (exfalso; have := HN0.out; omega)
              | (obtain ⟨y, hy⟩ : ∃ y, l[k + 1 + q]?.getD 0 = y := ⟨_, rfl⟩
                 have hcy := HC.out (k + 1 + q) (by have := HNn.out; omega)
                 rw [hy] at hcy
                 have hcy2 : w.cell? ⟨b, off + (k + 1) + q, none⟩ = some (.int .i64 y) := by rw [Nat.add_assoc off]; exact hcy
                 have HY := Aside0.mk hy
                 clear hy
                 by_cases hxy : y < x
                 · go_wp2
                   go_round
                   case rel => exact ⟨q + 1, s + 1, by omega, by go_num, by go_num, ⟨HS.out q s y HQ.out (by rw [HNn.out]; exact hqn) HY.out hxy⟩⟩
                   case measure => simp [intOf]; omega
                 · go_wp2
                   go_round
                   case rel => exact ⟨q + 1, s, by omega, by go_num, by first | rfl | go_num, ⟨HN.out q s y HQ.out (by rw [HNn.out]; exact hqn) HY.out (by omega)⟩⟩
                   case measure => simp [intOf]; omega)
          · have hm : p * (l.length - k) ≤ 100000000 * 8 := Nat.mul_le_mul hp (by omega)
            have hme : ((p : Int) * ((l.length : Int) - (k : Int))) = ((p * (l.length - k) : Nat) : Int) := by rw [Int.natCast_mul, Int.natCast_sub (by omega)]
            have hm2 : (0 : Int) ≤ (p : Int) * ((l.length : Int) - (k : Int)) := by rw [hme]; omega
            have hm3 : (p : Int) * ((l.length : Int) - (k : Int)) ≤ 800000000 := by rw [hme]; omega
            have HME := Aside0.mk hme
            clear hme
            go_wp2
            go_round
            case rel => exact ⟨k + 1, p * (l.length - k) + s, by omega, by go_num, by have := HME.out; rw [this]; go_num, ⟨by rw [HP.out]; exact HF.out q s (by have := HNn.out; omega) HQ.out⟩⟩
            case measure => simp [intOf]; omega
    · obtain rfl : k = l.length := by omega
      go_wp2
      go_ret
      exact ⟨by rw [← HP.out]; rfl, rfl⟩
end Go.Proofs.Ytbfgiccfbaobnaa.Inv
