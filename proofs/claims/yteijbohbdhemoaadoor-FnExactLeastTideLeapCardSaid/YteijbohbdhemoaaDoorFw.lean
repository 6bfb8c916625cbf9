/- FewestHours at this program, spec and impl alike. Condition: the texts lie within the reach. -/
import Derived.Test.YteijbohbdhemoaaDoorAsk
import Derived.Test.YteijbohbdhemoaaDoorNd
namespace Go.Proofs.YteijbohbdhemoaaDoor.Fw
set_option linter.unusedVariables false
set_option linter.unusedSimpArgs false
open Go.RowKit Go.Proofs.YteijbohbdhemoaaDoorW.PrintWords Go.Proofs.YteijbohbdhemoaaDoorW.PrintLast Go.Proofs.YteijbohbdhemoaaDoorW.PrintMore Sh Cr Sm Tb Pl Arr Aq Nd

/-- The least number that is not negative among the first n, and its first place. -/
def few (f : Nat → Int) : Nat → Int × Int
  | 0 => (-1, 0)
  | n + 1 => if 0 ≤ f n ∧ ((few f n).1 < 0 ∨ f n < (few f n).1) then (f n, (n : Int)) else few f n
theorem few_skip {f : Nat → Int} {k : Nat} {b a : Int} (h : few f k = (b, a)) (hn : ¬ (0 ≤ f k ∧ (b < 0 ∨ f k < b))) : few f (k + 1) = (b, a) := by
  simp only [few, h]
  rw [if_neg hn]
theorem few_take {f : Nat → Int} {k : Nat} {b a n : Int} (h : few f k = (b, a)) (h0 : 0 ≤ n) (h1 : b < 0 ∨ n < b) (hn : f k = n) : few f (k + 1) = (n, (k : Int)) := by
  simp only [few, h, hn]
  rw [if_pos ⟨h0, h1⟩]
def val (s t : ByteArray) (l : Int) : Int × Int × Bool := if okRight s t l = true then (if (few (ndOf s t l.toNat) t.size).1 < 0 then (0, 0, false) else ((few (ndOf s t l.toNat) t.size).1, (few (ndOf s t l.toNat) t.size).2, true)) else (0, 0, false)
theorem right_is {s t : ByteArray} {l : Int} (hk : okRight s t l = true) : ∃ L : Nat, l = (L : Int) ∧ (1 ≤ s.size ∧ s.size ≤ 14) ∧ (1 ≤ t.size ∧ t.size ≤ 12) ∧ (1 ≤ L ∧ L ≤ 15) := by
  obtain ⟨_, _, L, st, e, _, z1, z2, z3, _⟩ := asked_is (s := s) (t := t) (l := l) (h := 0) (by show ((okRight s t l) && okHour 0) = true; rw [hk]; decide)
  exact ⟨L, e, z1, z2, z3⟩
set_option maxHeartbeats 4000000 in
set_option maxRecDepth 100000 in
theorem spec (s t : ByteArray) (l : Int) (w : World) (hs : s.size ≤ 140737488351232) (ht : t.size ≤ 140737488351232) :
    Calls Tryd.prog 22 #[.string s, .string t, .int .i64 l] w fun e w' => e = .returned (.tuple #[.int .i64 (val s t l).1, .int .i64 (val s t l).2.1, .bool (val s t l).2.2]) ∧ Below w.heap.size w w' := by
  have ca := leapS s t l w hs ht
  unfold val
  cases hk : okRight s t l with
  | false =>
    rw [hk] at ca
    have CA := Aside0.mk ca
    rw [if_neg (by decide)]
    clear ca hk hs ht
    go_enter Tryd.func22, Tryd.ntmps22
    go_wp2_with fail
    refine CA.out.mono ?_
    rintro e w1 ⟨rfl, hb⟩
    have HB := Aside0.mk hb
    clear hb
    go_wp2_with fail
    go_ret3
    exact ⟨rfl, HB.out⟩
  | true =>
    rw [hk] at ca
    have CA := Aside0.mk ca
    rw [if_pos rfl]
    obtain ⟨L, rfl, z1, z2, z3⟩ := right_is hk
    rw [Int.toNat_natCast]
    have CE := Aside0.mk (fun (st : Nat) (W : World) (h : st ≤ 2000) => End.tdEnd s t L st W z1 z2 z3 h)
    have HT := Aside0.mk (And.intro z1 z2)
    have ht2 : t.size ≤ 9223372036854775807 := by omega
    clear ca hk hs ht z1 z2 z3
    obtain ⟨R, hR⟩ : ∃ R, few (ndOf s t L) t.size = R := ⟨_, rfl⟩
    rw [hR]
    obtain ⟨V, hV⟩ : ∃ V : Int × Int × Bool, (if R.1 < 0 then (0, 0, false) else (R.1, R.2, true)) = V := ⟨_, rfl⟩
    rw [hV]
    have HRR := Aside0.mk (And.intro hR hV)
    clear hR hV
    go_enter Tryd.func22, Tryd.ntmps22
    go_wp2_with fail
    refine CA.out.mono ?_
    rintro e w1 ⟨rfl, hb⟩
    have HB0 := Aside0.mk hb
    clear hb
    go_wp2_with fail
    go_loopw [9, 10, 11] (fun v9 v10 v11 wr => ∃ (k : Nat) (b a : Int), v9 = .int .i64 b ∧ v10 = .int .i64 a ∧ v11 = .int .i64 (k : Int) ∧ Aside0 (k ≤ t.size) ∧ Aside0 (few (ndOf s t L) k = (b, a)) ∧ Aside0 (Below w.heap.size w wr)) (fun _ _ v11 _ => t.size - (intOf v11).toNat)
    case atStart => exact ⟨0, -1, 0, rfl, rfl, rfl, ⟨Nat.zero_le _⟩, ⟨rfl⟩, HB0⟩
    case round =>
      clear HB0
      obtain ⟨k, b, a, rfl, rfl, rfl, HK, HF, HB⟩ := hrel
      by_cases hk : k < t.size
      · have hk1 := decide_eq_true hk
        have HKK := Aside0.mk hk
        have hw : wrap64 ((k : Int) + 1) = ((k + 1 : Nat) : Int) := w_id (by omega) (by have := HT.out; omega)
        have CK := Aside0.mk (fun W => CE.out k W (by have := HT.out; omega))
        obtain ⟨x, hx⟩ : ∃ x, endOf s t L k = x := ⟨_, rfl⟩
        have hxb := end_lt s t L k HT.out.1.2 HT.out.2.2 (by have := HT.out; omega)
        rw [hx] at CK hxb
        obtain ⟨n, hn⟩ : ∃ n, x - (k : Int) = n := ⟨_, rfl⟩
        have hws : wrap64 (x - (k : Int)) = n := (w_id (by have := HT.out; have := HKK.out; omega) (by have := HT.out; have := HKK.out; omega)).trans hn
        have hnd : ndOf s t L k = if x < 0 then x else n := by unfold ndOf; rw [hx, hn]
        have NX : Aside0 ((x < 0 → ndOf s t L k < 0) ∧ (0 ≤ x → ndOf s t L k = n ∧ 0 ≤ n)) := ⟨by
          refine ⟨fun h => by rw [hnd, if_pos h]; exact h, fun h => ⟨by rw [hnd, if_neg (by omega)], ?_⟩⟩
          rw [← hn]
          have := end_ge s t L k (by rw [hx]; omega)
          rw [hx] at this
          omega⟩
        clear hk hx hn hnd hxb
        go_wp2_with fail
        refine (CK.out _).mono ?_
        rintro e w2 ⟨rfl, hb⟩
        replace HB := Aside0.mk (below_step HB.out hb)
        clear hb
        by_cases c1 : x < 0
        · have hx1 := decide_eq_false (show ¬ (0 : Int) ≤ x by omega)
          have HF2 := Aside0.mk (few_skip HF.out (fun h => by have := NX.out; omega))
          clear c1
          go_wp2_with fail
          go_roundw
          case rel => exact ⟨k + 1, b, a, by first | rfl | rw [hws], rfl, by first | rfl | rw [hw], ⟨by have := HKK.out; omega⟩, HF2, HB⟩
          case measure => (try rw [hw]); have := HKK.out; simp [intOf]; omega
        · have hx1 := decide_eq_true (show (0 : Int) ≤ x by omega)
          by_cases c2 : b < 0
          · have hb1 := decide_eq_true c2
            have HF2 := Aside0.mk (few_take HF.out ((NX.out.2 (by omega)).2) (.inl c2) (NX.out.2 (by omega)).1)
            clear c1 c2
            go_wp2_with fail
            go_roundw
            case rel => exact ⟨k + 1, n, (k : Int), by first | rfl | rw [hws], rfl, by first | rfl | rw [hw], ⟨by have := HKK.out; omega⟩, HF2, HB⟩
            case measure => (try rw [hw]); have := HKK.out; simp [intOf]; omega
          · have hb1 := decide_eq_false c2
            by_cases c3 : n < b
            · have hd1 := decide_eq_true c3
              have HF2 := Aside0.mk (few_take HF.out ((NX.out.2 (by omega)).2) (.inr c3) (NX.out.2 (by omega)).1)
              clear c1 c2 c3
              go_wp2_with fail
              go_roundw
              case rel => exact ⟨k + 1, n, (k : Int), by first | rfl | rw [hws], rfl, by first | rfl | rw [hw], ⟨by have := HKK.out; omega⟩, HF2, HB⟩
              case measure => (try rw [hw]); have := HKK.out; simp [intOf]; omega
            · have hd1 := decide_eq_false c3
              have HF2 := Aside0.mk (few_skip HF.out (fun h => by have := (NX.out.2 (by omega)).1; omega))
              clear c1 c2 c3
              go_wp2_with fail
              go_roundw
              case rel => exact ⟨k + 1, b, a, by first | rfl | rw [hws], rfl, by first | rfl | rw [hw], ⟨by have := HKK.out; omega⟩, HF2, HB⟩
              case measure => (try rw [hw]); have := HKK.out; simp [intOf]; omega
      · have hk1 := decide_eq_false hk
        have hke : k = t.size := by have := HK.out; omega
        have hF := HF.out
        rw [hke, HRR.out.1] at hF
        have hV := HRR.out.2
        rw [hF] at hV
        have HVV := Aside0.mk hV
        clear hk hke HF HRR hF hV
        by_cases hb0 : b < 0
        · have hb1 := decide_eq_true hb0
          have HE := Aside0.mk (HVV.out.symm.trans (if_pos hb0))
          clear hb0
          go_wp2_with fail
          go_ret3
          exact ⟨by rw [HE.out] <;> rfl, HB.out⟩
        · have hb1 := decide_eq_false hb0
          have HE := Aside0.mk (HVV.out.symm.trans (if_neg hb0))
          clear hb0
          go_wp2_with fail
          go_ret3
          exact ⟨by rw [HE.out] <;> rfl, HB.out⟩
set_option maxHeartbeats 4000000 in
set_option maxRecDepth 100000 in
theorem impl (s t : ByteArray) (l : Int) (w : World) (hs : s.size ≤ 140737488351232) (ht : t.size ≤ 140737488351232) :
    Calls Tryd.prog 23 #[.string s, .string t, .int .i64 l] w fun e w' => e = .returned (.tuple #[.int .i64 (val s t l).1, .int .i64 (val s t l).2.1, .bool (val s t l).2.2]) ∧ Below w.heap.size w w' := by
  have hu39 := Tryd.underlying39
  have ci := fun W => isRight s t l W hs ht
  unfold val
  cases hk : okRight s t l with
  | false =>
    rw [hk] at ci
    have CI := Aside0.mk ci
    rw [if_neg (by decide)]
    clear ci hk hs ht
    go_enter Tryd.func23, Tryd.ntmps23
    go_wp2_with fail
    refine (CI.out _).mono ?_
    rintro e w1 ⟨rfl, hb⟩
    have HB := Aside0.mk (show Below (w.heap.size + 1) (w.alloc (box s t l)) w1 from by have z := hb.mono (show w.heap.size + 1 ≤ (w.alloc (box s t l)).heap.size by simp); exact z)
    obtain ⟨hc0, hc1, hc2⟩ := boxed HB.out
    clear hb
    go_wp2_with fail
    go_ret3
    exact ⟨rfl, boxed_from HB.out⟩
  | true =>
    rw [hk] at ci
    have CI := Aside0.mk ci
    rw [if_pos rfl]
    obtain ⟨L, rfl, z1, z2, z3⟩ := right_is hk
    rw [Int.toNat_natCast]
    have CE := Aside0.mk (fun (W : World) => needs s t L W z1 z2 z3)
    have HT := Aside0.mk (And.intro z1 z2)
    clear ci hk hs ht z1 z2 z3
    obtain ⟨R, hR⟩ : ∃ R, few (ndOf s t L) t.size = R := ⟨_, rfl⟩
    rw [hR]
    obtain ⟨V, hV⟩ : ∃ V : Int × Int × Bool, (if R.1 < 0 then (0, 0, false) else (R.1, R.2, true)) = V := ⟨_, rfl⟩
    rw [hV]
    have HRR := Aside0.mk (And.intro hR hV)
    clear hR hV
    go_enter Tryd.func23, Tryd.ntmps23
    go_wp2_with fail
    refine (CI.out _).mono ?_
    rintro e w1 ⟨rfl, hb⟩
    have HB := Aside0.mk (show Below (w.heap.size + 1) (w.alloc (box s t (L : Int))) w1 from by have z := hb.mono (show w.heap.size + 1 ≤ (w.alloc (box s t (L : Int))).heap.size by simp); exact z)
    obtain ⟨hc0, hc1, hc2⟩ := boxed HB.out
    clear hb
    go_wp2_with fail
    refine (CE.out _).mono ?_
    rintro e w2 ⟨v, rfl, hr, hb⟩
    clear hc0 hc1 hc2
    replace HB := Aside0.mk (boxed_then HB.out hb)
    obtain ⟨g, cap, rfl, hg, hT⟩ := Stp.of_tab (h1 := fun _ => rfl) hr (by have := HT.out; omega)
    have TB := Aside0.mk hT
    clear hr hb hg hT
    go_wp2_with fail
    go_loop [10, 11, 24] (fun v10 v11 v24 => ∃ (k : Nat) (b a : Int), v10 = .int .i64 b ∧ v11 = .int .i64 a ∧ v24 = .int .i64 (k : Int) ∧ Aside0 (k ≤ t.size) ∧ Aside0 (few (ndOf s t L) k = (b, a))) (fun _ _ v24 => t.size - (intOf v24).toNat)
    case atStart => exact ⟨0, -1, 0, rfl, rfl, rfl, ⟨Nat.zero_le _⟩, ⟨rfl⟩⟩
    case round =>
      obtain ⟨k, b, a, rfl, rfl, rfl, HK, HF⟩ := hrel
      by_cases hk : k < t.size
      · have hk1 := decide_eq_true hk
        have HKK := Aside0.mk hk
        have hw : wrap64 ((k : Int) + 1) = ((k + 1 : Nat) : Int) := w_id (by omega) (by have := HT.out; omega)
        obtain ⟨n, hn⟩ : ∃ n, ndOf s t L k = n := ⟨_, rfl⟩
        have NN := Aside0.mk hn
        have hcx : w2.cell? ⟨g, k, none⟩ = some (.int .i64 n) := (TB.out.cell k hk).trans (by rw [hn])
        clear hn
        by_cases c1 : n < 0
        · have hx1 := decide_eq_false (show ¬ (0 : Int) ≤ n by omega)
          have HF2 := Aside0.mk (few_skip HF.out (fun h => by have := NN.out; omega))
          clear c1
          go_wp2_with fail
          go_round
          case rel => exact ⟨k + 1, b, a, rfl, rfl, by first | rfl | rw [hw], ⟨by have := HKK.out; omega⟩, HF2⟩
          case measure => (try rw [hw]); have := HKK.out; simp [intOf]; omega
        · have hx1 := decide_eq_true (show (0 : Int) ≤ n by omega)
          by_cases c2 : b < 0
          · have hb1 := decide_eq_true c2
            have HF2 := Aside0.mk (few_take HF.out (show 0 ≤ n by omega) (.inl c2) NN.out)
            clear c1 c2
            go_wp2_with fail
            go_round
            case rel => exact ⟨k + 1, n, (k : Int), rfl, rfl, by first | rfl | rw [hw], ⟨by have := HKK.out; omega⟩, HF2⟩
            case measure => (try rw [hw]); have := HKK.out; simp [intOf]; omega
          · have hb1 := decide_eq_false c2
            by_cases c3 : n < b
            · have hd1 := decide_eq_true c3
              have HF2 := Aside0.mk (few_take HF.out (show 0 ≤ n by omega) (.inr c3) NN.out)
              clear c1 c2 c3
              go_wp2_with fail
              go_round
              case rel => exact ⟨k + 1, n, (k : Int), rfl, rfl, by first | rfl | rw [hw], ⟨by have := HKK.out; omega⟩, HF2⟩
              case measure => (try rw [hw]); have := HKK.out; simp [intOf]; omega
            · have hd1 := decide_eq_false c3
              have HF2 := Aside0.mk (few_skip HF.out (fun h => by have := NN.out; omega))
              clear c1 c2 c3
              go_wp2_with fail
              go_round
              case rel => exact ⟨k + 1, b, a, rfl, rfl, by first | rfl | rw [hw], ⟨by have := HKK.out; omega⟩, HF2⟩
              case measure => (try rw [hw]); have := HKK.out; simp [intOf]; omega
      · have hk1 := decide_eq_false hk
        have hke : k = t.size := by have := HK.out; omega
        have hF := HF.out
        rw [hke, HRR.out.1] at hF
        have hV := HRR.out.2
        rw [hF] at hV
        have HVV := Aside0.mk hV
        clear hk hke HF HRR hF hV
        by_cases hb0 : b < 0
        · have hb1 := decide_eq_true hb0
          have HE := Aside0.mk (HVV.out.symm.trans (if_pos hb0))
          clear hb0
          go_wp2_with fail
          go_ret3
          exact ⟨by rw [HE.out] <;> rfl, boxed_from HB.out⟩
        · have hb1 := decide_eq_false hb0
          have HE := Aside0.mk (HVV.out.symm.trans (if_neg hb0))
          clear hb0
          go_wp2_with fail
          go_ret3
          exact ⟨by rw [HE.out] <;> rfl, boxed_from HB.out⟩
end Go.Proofs.YteijbohbdhemoaaDoor.Fw
