/- impl.RaiseStone and the reference's at this program: the text with one digit raised. Condition: the text lies within the reach. -/
import Derived.Test.YthglhfhepooggaaDoorWkHighestHour
import Derived.RegionTactic
import Derived.ChangeAlike
import Derived.BigRegion
import Derived.Deep.RegionWith
namespace Go.Proofs.YthglhfhepooggaaDoor.WkRaiseStone
set_option linter.unusedVariables false
set_option linter.unusedSimpArgs false
open Go.Sort
open Go.RowKit Go.Proofs.YthglhfhepooggaaDoorW.PrintWords Go.Proofs.YthglhfhepooggaaDoorW.PrintLast Go.Proofs.YthglhfhepooggaaDoorW.PrintMore Sh WkMirrorShore WkHighestHour

theorem one_at (W : World) (g : Nat) (x : Int) (c : UInt8) (hx : x = (c.toNat : Int)) (h : W.cell? ⟨g, 0, none⟩ = some (.int .u8 x)) : (convert 40 9 (.slice (some ⟨g, 0, none⟩) 1 1)).run Tryd.prog W = .ok (.string ⟨#[c]⟩) W := by
  refine run_convert_bytes_back _ 40 9 5 ⟨g, 0, none⟩ 1 [c] Tryd.underlying40 Tryd.underlying5 Tryd.underlying9 (fun j hj => ?_)
  obtain rfl : j = 0 := by simpa using hj
  have : (⟨g, 0, none⟩ : Addr).add 0 = ⟨g, 0, none⟩ := by unfold Addr.add; split <;> simp_all
  rw [this, h, hx]
  rfl
theorem one_new (w : World) (x : Int) : (w.alloc (.cells #[.int .u8 x] 5)).cell? ⟨w.heap.size, 0, none⟩ = some (.int .u8 x) := by
  simp [World.cell?, World.alloc, -World.alloc_eq]
theorem one_byte (w : World) (x : Int) (c : UInt8) (hx : x = (c.toNat : Int)) : (convert 40 9 (.slice (some ⟨w.heap.size, 0, none⟩) 1 1)).run Tryd.prog (w.alloc (.cells #[.int .u8 x] 5)) = .ok (.string ⟨#[c]⟩) (w.alloc (.cells #[.int .u8 x] 5)) := one_at _ _ x c hx (one_new w x)
theorem one_byte_d (w : World) (x : Int) (c : UInt8) (hx : x = (c.toNat : Int)) : (convert 40 9 (.slice (some ⟨w.heap.size, 0, none⟩) 1 1)).run Tryd.prog (w.alloc (.cells #[.int .u8 x] 5)).drew = .ok (.string ⟨#[c]⟩) (w.alloc (.cells #[.int .u8 x] 5)).drew := one_at _ _ x c hx (one_new w x)
/-- The digit n. -/
def dig (n : Nat) : UInt8 := (48 + n).toUInt8
theorem dig_nat {n : Nat} (h : n ≤ 9) : ((dig n).toNat : Int) = 48 + (n : Int) := by
  unfold dig; simp; omega

set_option maxHeartbeats 1000000 in
set_option maxRecDepth 100000 in
theorem num (n : Nat) (w : World) (hn : n ≤ 9) : Calls Tryd.prog 56 #[.int .i64 (n : Int)] w fun e w' => e = .returned (.string ⟨#[dig n]⟩) ∧ Below w.heap.size w w' := by
  have hc := one_byte w (48 + (n : Int)) (dig n) (dig_nat hn).symm
  go_enter Tryd.func56, Tryd.ntmps56
  go_wp2_with fail
  go_ret
  exact ⟨rfl, (Below.refl _ _).alloc (Nat.le_refl _) _⟩

set_option maxHeartbeats 1000000 in
set_option maxRecDepth 100000 in
theorem put (s : ByteArray) (p : Nat) (x : Int) (c : UInt8) (w : World) (hs : s.size ≤ 14) (hp : 1 ≤ p) (hp2 : p ≤ s.size) (hx : x = (c.toNat : Int)) : Calls Tryd.prog 58 #[.string s, .int .i64 (p : Int), .int .u8 x] w fun e w' => e = .returned (.string (s.extract 0 (p - 1) ++ ⟨#[c]⟩ ++ s.extract p s.size)) ∧ Below w.heap.size w w' := by
  obtain ⟨q, rfl⟩ : ∃ q, p = q + 1 := ⟨p - 1, by omega⟩
  have hc := one_byte w x c hx
  have hc2 := one_byte_d w x c hx
  have hq : q < s.size := by omega
  have hsz1 : (s.extract 0 q).size = q := by rw [ByteArray.size_extract]; omega
  have hsz2 : (s.extract (q + 1) s.size).size = s.size - (q + 1) := by rw [ByteArray.size_extract]; omega
  rw [Nat.add_sub_cancel]
  clear hx
  go_enter Tryd.func58, Tryd.ntmps58
  go_wp2_with fail
  go_region
  all_goals
    go_wp2_with fail
    go_ret
    exact ⟨rfl, below_drew1 ((Below.refl _ _).alloc (Nat.le_refl _) _)⟩

theorem idx_byte (s : ByteArray) (q : Nat) (h : q < s.size) : s[q].toNat = at_ s.data.toList q := by
  unfold at_
  rw [List.getD_eq_getElem?_getD, List.getElem?_eq_getElem (by rw [size_list]; exact h)]
  rfl
theorem l1In_any (a lo hi : Int) (w : World) : Calls Tryd.prog 54 #[.int .i64 a, .int .i64 lo, .int .i64 hi] w fun e w' => e = .returned (.bool (decide (lo ≤ a ∧ a ≤ hi))) ∧ w' = w := by
  by_cases h1 : lo ≤ a
  · by_cases h2 : a ≤ hi
    · rw [decide_eq_true ⟨h1, h2⟩]
      go_enter Tryd.func54, Tryd.ntmps54
      go_wp2
      go_ret
      exact ⟨rfl, rfl⟩
    · rw [decide_eq_false (fun h => h2 h.2)]
      have h3 : hi < a := by omega
      clear h2
      go_enter Tryd.func54, Tryd.ntmps54
      go_wp2
      go_ret
      exact ⟨by first | rfl | (simp; omega), rfl⟩
  · rw [decide_eq_false (fun h => h1 h.1)]
    have h3 : a < lo := by omega
    clear h1
    go_enter Tryd.func54, Tryd.ntmps54
    go_wp2
    go_ret
    exact ⟨rfl, rfl⟩
set_option maxHeartbeats 1000000 in
theorem bears (s : ByteArray) (q d : Nat) (w : World) (hs : s.size ≤ 14) (hq : q < s.size) (hd : at_ s.data.toList q = 48 + d) (hd9 : d ≤ 9) : Calls Tryd.prog 57 #[.string s, .int .i64 ((q : Int) + 1)] w fun e w' => e = .returned (.int .i64 (d : Int)) ∧ w' = w := by
  have hb : s[q].toNat = 48 + d := by rw [idx_byte s q hq, hd]
  have HB := Aside0.mk hb
  clear hb hd
  go_enter Tryd.func57, Tryd.ntmps57
  go_wp2_with fail
  go_ret
  exact ⟨by
    have h2 : (((s[q].toNat : Nat) : Int) - 48) % 256 = (d : Int) := by rw [HB.out]; omega
    exact congrArg (fun z => Ending.returned (.int .i64 z)) h2, rfl⟩

/-- Whether the stone can be raised. -/
def can (s : ByteArray) (p b : Int) : Prop := okShore s = true ∧ (1 ≤ p ∧ p ≤ (s.size : Int)) ∧ (1 ≤ b ∧ b ≤ 9) ∧ (at_ s.data.toList (p - 1).toNat : Int) - 48 + b ≤ 9
instance (s : ByteArray) (p b : Int) : Decidable (can s p b) := by unfold can; infer_instance
def val (s : ByteArray) (p b : Int) : ByteArray × Bool := if can s p b then (s.extract 0 (p.toNat - 1) ++ ⟨#[dig (((at_ s.data.toList (p - 1).toNat : Int) - 48 + b).toNat)]⟩ ++ s.extract p.toNat s.size, true) else (⟨#[]⟩, false)

set_option maxHeartbeats 4000000 in
set_option maxRecDepth 100000 in
theorem impl (s : ByteArray) (p b : Int) (w : World) (hs : s.size ≤ 140737488351232) : Calls Tryd.prog 24 #[.string s, .int .i64 p, .int .i64 b] w fun e w' => e = .returned (.tuple #[.string (val s p b).1, .bool (val s p b).2]) ∧ Below w.heap.size w w' := by
  have c1 := isShore s w hs
  have hs2 : s.size ≤ 9223372036854775807 := by omega
  unfold val
  cases h1 : okShore s with
  | false =>
    rw [h1] at c1
    rw [if_neg (by unfold can; rw [h1]; simp)]
    clear h1
    go_enter Tryd.func24, Tryd.ntmps24
    go_wp2_with fail
    refine c1.mono ?_
    clear c1
    rintro e w1 ⟨rfl, hb⟩
    have HB := Aside0.mk hb
    clear hb
    go_wp2_with fail
    go_ret2
    exact ⟨rfl, HB.out⟩
  | true =>
    have hz := okShore_size h1
    have hz1 : 1 ≤ s.size := hz.1
    have hz2 : s.size ≤ 14 := hz.2
    have hdg : digs s = true := by unfold okShore at h1; simp only [Bool.and_eq_true] at h1; exact h1.2
    rw [h1] at c1
    by_cases h2 : 1 ≤ p ∧ p ≤ (s.size : Int)
    · have E2 := Aside0.mk (decide_eq_true h2)
      obtain ⟨q, rfl⟩ : ∃ q : Nat, p = ((q + 1 : Nat) : Int) := ⟨(p - 1).toNat, by omega⟩
      have hq : q < s.size := by omega
      by_cases h3 : 1 ≤ b ∧ b ≤ 9
      · have E3 := Aside0.mk (decide_eq_true h3)
        have hd := dig_at hdg q hq
        obtain ⟨d, hd2⟩ : ∃ d, at_ s.data.toList q = 48 + d := ⟨at_ s.data.toList q - 48, by omega⟩
        have hd9 : d ≤ 9 := by omega
        obtain ⟨n, rfl⟩ : ∃ n : Nat, b = (n : Int) := ⟨b.toNat, by omega⟩
        have hn9 : n ≤ 9 := by omega
        have hn1 : 1 ≤ n := by omega
        have eq1 : (((q + 1 : Nat) : Int) - 1).toNat = q := by omega
        have CB := Aside0.mk (fun W => bears s q d W hz2 hq hd2 hd9)
        by_cases h4 : d + n ≤ 9
        · rw [if_pos (by unfold can; rw [eq1, hd2]; exact ⟨h1, h2, h3, by omega⟩), eq1, hd2]
          have eq2 : ((((48 + d : Nat) : Int) - 48) + (n : Int)).toNat = d + n := by omega
          rw [eq2]
          have CP := Aside0.mk (fun W => put s (q + 1) (48 + (d : Int) + (n : Int)) (dig (d + n)) W hz2 (by omega) (by omega) (by rw [dig_nat h4]; omega))
          have HBy : Aside0 (s[q].toNat = 48 + d) := ⟨by rw [idx_byte s q hq, hd2]⟩
          rw [show ((q + 1 : Nat) : Int).toNat = q + 1 by omega, Nat.add_sub_cancel]
          rw [Nat.add_sub_cancel] at CP
          clear h1 hz hdg h2 h3 hd hd2 eq1 eq2
          rw [show ((q + 1 : Nat) : Int) = (q : Int) + 1 by omega] at E2 CP ⊢
          go_enter Tryd.func24, Tryd.ntmps24
          go_wp2_with fail
          refine c1.mono ?_
          clear c1
          rintro e w1 ⟨rfl, hb⟩
          have HB := Aside0.mk hb
          clear hb
          go_wp2_with fail
          refine (within_any _ _ _ _).mono ?_
          rw [E2.out]
          rintro e w2 ⟨rfl, rfl⟩
          go_wp2_with fail
          refine (within_any _ _ _ _).mono ?_
          rw [E3.out]
          rintro e w3 ⟨rfl, rfl⟩
          go_wp2_with fail
          refine (CB.out _).mono ?_
          rintro e w4 ⟨rfl, rfl⟩
          go_wp2_with fail
          have hx : (((s[q].toNat : Nat) : Int) + (n : Int)) % 256 = 48 + (d : Int) + (n : Int) := by rw [HBy.out]; omega
          rw [hx]
          refine (CP.out _).mono ?_
          rintro e w5 ⟨rfl, hb⟩
          have HB2 := Aside0.mk (HB.out.trans (hb.mono HB.out.size))
          clear hb
          go_wp2_with fail
          go_ret2
          exact ⟨rfl, HB2.out⟩
        · rw [if_neg (by unfold can; rw [eq1, hd2]; intro hh; have := hh.2.2.2; omega)]
          clear h1 hz hdg h2 h3 hd hd2 eq1
          rw [show ((q + 1 : Nat) : Int) = (q : Int) + 1 by omega] at E2 ⊢
          have h5 : (9 : Int) < (d : Int) + (n : Int) := by omega
          clear h4
          go_enter Tryd.func24, Tryd.ntmps24
          go_wp2_with fail
          refine c1.mono ?_
          clear c1
          rintro e w1 ⟨rfl, hb⟩
          have HB := Aside0.mk hb
          clear hb
          go_wp2_with fail
          refine (within_any _ _ _ _).mono ?_
          rw [E2.out]
          rintro e w2 ⟨rfl, rfl⟩
          go_wp2_with fail
          refine (within_any _ _ _ _).mono ?_
          rw [E3.out]
          rintro e w3 ⟨rfl, rfl⟩
          go_wp2_with fail
          refine (CB.out _).mono ?_
          rintro e w4 ⟨rfl, rfl⟩
          go_wp2_with fail
          go_ret2
          exact ⟨rfl, HB.out⟩
      · rw [if_neg (by unfold can; intro hh; exact h3 hh.2.2.1)]
        have E3 := Aside0.mk (decide_eq_false h3)
        clear h1 hz hdg h2 h3
        rw [show ((q + 1 : Nat) : Int) = (q : Int) + 1 by omega] at E2 ⊢
        go_enter Tryd.func24, Tryd.ntmps24
        go_wp2_with fail
        refine c1.mono ?_
        clear c1
        rintro e w1 ⟨rfl, hb⟩
        have HB := Aside0.mk hb
        clear hb
        go_wp2_with fail
        refine (within_any _ _ _ _).mono ?_
        rw [E2.out]
        rintro e w2 ⟨rfl, rfl⟩
        go_wp2_with fail
        refine (within_any _ _ _ _).mono ?_
        rw [E3.out]
        rintro e w3 ⟨rfl, rfl⟩
        go_wp2_with fail
        go_ret2
        exact ⟨rfl, HB.out⟩
    · rw [if_neg (by unfold can; intro hh; exact h2 hh.2.1)]
      have E2 := Aside0.mk (decide_eq_false h2)
      clear h1 hz hdg h2
      go_enter Tryd.func24, Tryd.ntmps24
      go_wp2_with fail
      refine c1.mono ?_
      clear c1
      rintro e w1 ⟨rfl, hb⟩
      have HB := Aside0.mk hb
      clear hb
      go_wp2_with fail
      refine (within_any _ _ _ _).mono ?_
      rw [E2.out]
      rintro e w2 ⟨rfl, rfl⟩
      go_wp2_with fail
      go_ret2
      exact ⟨rfl, HB.out⟩
set_option maxHeartbeats 4000000 in
set_option maxRecDepth 100000 in
theorem spec (s : ByteArray) (p b : Int) (w : World) (hs : s.size ≤ 140737488351232) (cT : Calls Tryd.prog 51 #[.string s, .int .i64 14] w fun e w' => e = .returned (.bool (okShore s)) ∧ Below w.heap.size w w') : Calls Tryd.prog 23 #[.string s, .int .i64 p, .int .i64 b] w fun e w' => e = .returned (.tuple #[.string (val s p b).1, .bool (val s p b).2]) ∧ Below w.heap.size w w' := by
  have c1 := cT
  clear cT
  have hs2 : s.size ≤ 9223372036854775807 := by omega
  unfold val
  cases h1 : okShore s with
  | false =>
    rw [h1] at c1
    rw [if_neg (by unfold can; rw [h1]; simp)]
    clear h1
    go_enter Tryd.func23, Tryd.ntmps23
    go_wp2_with fail
    refine c1.mono ?_
    clear c1
    rintro e w1 ⟨rfl, hb⟩
    have HB := Aside0.mk hb
    clear hb
    go_wp2_with fail
    go_ret2
    exact ⟨rfl, HB.out⟩
  | true =>
    have hz := okShore_size h1
    have hz1 : 1 ≤ s.size := hz.1
    have hz2 : s.size ≤ 14 := hz.2
    have hdg : digs s = true := by unfold okShore at h1; simp only [Bool.and_eq_true] at h1; exact h1.2
    rw [h1] at c1
    by_cases h2 : 1 ≤ p ∧ p ≤ (s.size : Int)
    · have E2 := Aside0.mk (decide_eq_true h2)
      obtain ⟨q, rfl⟩ : ∃ q : Nat, p = ((q + 1 : Nat) : Int) := ⟨(p - 1).toNat, by omega⟩
      have hq : q < s.size := by omega
      by_cases h3 : 1 ≤ b ∧ b ≤ 9
      · have E3 := Aside0.mk (decide_eq_true h3)
        have hd := dig_at hdg q hq
        obtain ⟨d, hd2⟩ : ∃ d, at_ s.data.toList q = 48 + d := ⟨at_ s.data.toList q - 48, by omega⟩
        have hd9 : d ≤ 9 := by omega
        obtain ⟨n, rfl⟩ : ∃ n : Nat, b = (n : Int) := ⟨b.toNat, by omega⟩
        have hn9 : n ≤ 9 := by omega
        have hn1 : 1 ≤ n := by omega
        have eq1 : (((q + 1 : Nat) : Int) - 1).toNat = q := by omega
        have CB := Aside0.mk (fun W => bears s q d W hz2 hq hd2 hd9)
        by_cases h4 : d + n ≤ 9
        · rw [if_pos (by unfold can; rw [eq1, hd2]; exact ⟨h1, h2, h3, by omega⟩), eq1, hd2]
          have eq2 : ((((48 + d : Nat) : Int) - 48) + (n : Int)).toNat = d + n := by omega
          rw [eq2]
          have HBy : Aside0 (s[q].toNat = 48 + d) := ⟨by rw [idx_byte s q hq, hd2]⟩
          rw [show ((q + 1 : Nat) : Int).toNat = q + 1 by omega, Nat.add_sub_cancel]
          clear h1 hz hdg h2 h3 hd hd2 eq1 eq2
          rw [show ((q + 1 : Nat) : Int) = (q : Int) + 1 by omega] at E2 ⊢
          go_enter Tryd.func23, Tryd.ntmps23
          go_wp2_with fail
          refine c1.mono ?_
          clear c1
          rintro e w1 ⟨rfl, hb⟩
          have HB := Aside0.mk hb
          clear hb
          go_wp2_with fail
          refine (l1In_any _ _ _ _).mono ?_
          rw [E2.out]
          rintro e w2 ⟨rfl, rfl⟩
          go_wp2_with fail
          refine (l1In_any _ _ _ _).mono ?_
          rw [E3.out]
          rintro e w3 ⟨rfl, rfl⟩
          have hx : (((s[q].toNat : Nat) : Int) - 48) % 256 = (d : Int) := by rw [HBy.out]; omega
          have CN := Aside0.mk (fun W => num (d + n) W h4)
          have hsz1 : (s.extract 0 q).size = q := by rw [ByteArray.size_extract]; omega
          have hsz2 : (s.extract (q + 1) s.size).size = s.size - (q + 1) := by rw [ByteArray.size_extract]; omega
          rw [show (((d + n : Nat)) : Int) = (d : Int) + (n : Int) by omega] at CN
          go_wp2_with fail
          have f1 : (0 : Int) ≤ (q : Int) + 1 := by omega
          have f2 : (q : Int) + 1 ≤ (s.size : Int) := by omega
          have f3 : (q : Int) ≤ (s.size : Int) := by omega
          have f4 : ((q : Int) + 1).toNat = q + 1 := by omega
          have f5 : IntKind.i64.wrap (q : Int) = (q : Int) := IntWalk.i64_in _ (by omega)
          have f6 : q + 1 ≤ 9223372036854775807 := by omega
          have f7 : q + 1 + (s.size - (q + 1)) ≤ 9223372036854775807 := by omega
          go_region_with (go_at_call 56; refine (CN.out _).mono ?_; rintro e wn ⟨rfl, hb⟩; have HBn := Aside0.mk hb; clear hb)
          all_goals (go_wp2_with fail)
          all_goals
            (try simp only [Act.put, List.setIfInBounds_toArray, List.set_cons_zero, List.set_cons_succ])
            go_ret2
            exact ⟨rfl, (below_drew1 HB.out).trans (HBn.out.mono (below_drew1 HB.out).size)⟩
        · rw [if_neg (by unfold can; rw [eq1, hd2]; intro hh; have := hh.2.2.2; omega)]
          have HBy : Aside0 (s[q].toNat = 48 + d) := ⟨by rw [idx_byte s q hq, hd2]⟩
          clear h1 hz hdg h2 h3 hd hd2 eq1
          rw [show ((q + 1 : Nat) : Int) = (q : Int) + 1 by omega] at E2 ⊢
          have h5 : (9 : Int) < (d : Int) + (n : Int) := by omega
          clear h4
          go_enter Tryd.func23, Tryd.ntmps23
          go_wp2_with fail
          refine c1.mono ?_
          clear c1
          rintro e w1 ⟨rfl, hb⟩
          have HB := Aside0.mk hb
          clear hb
          go_wp2_with fail
          refine (l1In_any _ _ _ _).mono ?_
          rw [E2.out]
          rintro e w2 ⟨rfl, rfl⟩
          go_wp2_with fail
          refine (l1In_any _ _ _ _).mono ?_
          rw [E3.out]
          rintro e w3 ⟨rfl, rfl⟩
          have hx : (((s[q].toNat : Nat) : Int) - 48) % 256 = (d : Int) := by rw [HBy.out]; omega
          go_wp2_with fail
          go_ret2
          exact ⟨rfl, HB.out⟩
      · rw [if_neg (by unfold can; intro hh; exact h3 hh.2.2.1)]
        have E3 := Aside0.mk (decide_eq_false h3)
        clear h1 hz hdg h2 h3
        rw [show ((q + 1 : Nat) : Int) = (q : Int) + 1 by omega] at E2 ⊢
        go_enter Tryd.func23, Tryd.ntmps23
        go_wp2_with fail
        refine c1.mono ?_
        clear c1
        rintro e w1 ⟨rfl, hb⟩
        have HB := Aside0.mk hb
        clear hb
        go_wp2_with fail
        refine (l1In_any _ _ _ _).mono ?_
        rw [E2.out]
        rintro e w2 ⟨rfl, rfl⟩
        go_wp2_with fail
        refine (l1In_any _ _ _ _).mono ?_
        rw [E3.out]
        rintro e w3 ⟨rfl, rfl⟩
        go_wp2_with fail
        go_ret2
        exact ⟨rfl, HB.out⟩
    · rw [if_neg (by unfold can; intro hh; exact h2 hh.2.1)]
      have E2 := Aside0.mk (decide_eq_false h2)
      clear h1 hz hdg h2
      go_enter Tryd.func23, Tryd.ntmps23
      go_wp2_with fail
      refine c1.mono ?_
      clear c1
      rintro e w1 ⟨rfl, hb⟩
      have HB := Aside0.mk hb
      clear hb
      go_wp2_with fail
      refine (l1In_any _ _ _ _).mono ?_
      rw [E2.out]
      rintro e w2 ⟨rfl, rfl⟩
      go_wp2_with fail
      go_ret2
      exact ⟨rfl, HB.out⟩
end Go.Proofs.YthglhfhepooggaaDoor.WkRaiseStone
