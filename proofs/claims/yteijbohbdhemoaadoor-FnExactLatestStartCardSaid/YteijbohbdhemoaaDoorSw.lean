/- StartsWithin at this program, spec and impl alike. Condition: the texts lie within the reach. -/
import Derived.Test.YteijbohbdhemoaaDoorFw
namespace Go.Proofs.YteijbohbdhemoaaDoor.Sw
set_option linter.unusedVariables false
set_option linter.unusedSimpArgs false
open Go.RowKit Go.Proofs.YteijbohbdhemoaaDoorW.PrintWords Go.Proofs.YteijbohbdhemoaaDoorW.PrintLast Go.Proofs.YteijbohbdhemoaaDoorW.PrintMore Sh Cr Sm Tb Pl Arr Aq Nd Fw

/-- The places among the first n whose number lies between 0 and h. -/
def wit (f : Nat → Int) (h : Int) : Nat → List Int
  | 0 => []
  | n + 1 => if 0 ≤ f n ∧ f n ≤ h then wit f h n ++ [(n : Int)] else wit f h n
theorem wit_len (f : Nat → Int) (h : Int) : ∀ n, (wit f h n).length ≤ n
  | 0 => Nat.le_refl _
  | n + 1 => by
    have := wit_len f h n
    simp only [wit]
    split
    · simp; omega
    · omega
theorem wit_take {f : Nat → Int} {h : Int} {k : Nat} {y : List Int} (e : wit f h k = y) (c : 0 ≤ f k ∧ f k ≤ h) : y ++ [(k : Int)] = wit f h (k + 1) := by
  simp only [wit]
  rw [if_pos c, e]
theorem wit_skip {f : Nat → Int} {h : Int} {k : Nat} {y : List Int} (e : wit f h k = y) (c : ¬ (0 ≤ f k ∧ f k ≤ h)) : y = wit f h (k + 1) := by
  simp only [wit]
  rw [if_neg c, e]
def val (s t : ByteArray) (l h : Int) : List Int × Bool := if okAsked s t l h = true then (wit (ndOf s t l.toNat) h t.size, true) else ([], false)
theorem val_len (s t : ByteArray) (l h : Int) : (val s t l h).1.length ≤ 100 := by
  unfold val
  split
  · rename_i hk
    obtain ⟨_, _, L, st, rfl, rfl, z1, z2, z3, z4⟩ := asked_is hk
    have := wit_len (ndOf s t (L : Int).toNat) (st : Int) t.size
    show (wit _ _ _).length ≤ 100
    omega
  · simp
theorem Tb.grown {α : Type} {enc : α → Value} {ty : TypeId} {W W' : World} {g cap P : Nat} {f : Nat → α} (h : Tb enc ty W g cap P f) {row : Option Nat} (hg : W.grownBy W' row) (hn : ∀ k, row = some k → k ≠ g) : Tb enc ty W' g cap P f := by
  have hl := h.lt
  obtain ⟨X, h1, h2⟩ := h
  obtain ⟨g1, g2, g3, g4, g5⟩ := hg
  exact ⟨X, (g5 g hl (fun e => hn g e.symm rfl)).trans h1, h2⟩
theorem hourS (h : Int) (w : World) : Calls Tryd.prog 46 #[.int .i64 h] w fun e w' => e = .returned (.bool (okHour h)) ∧ Below w.heap.size w w' := by
  refine (PFnExactEarliestAt.spec_tdHour.calls h (okHour h) w (by unfold PFnExactEarliestAt.spec_tdHour.f; rw [l1In_eq]; rfl)).mono ?_
  rintro e w' ⟨rfl, hd⟩
  exact ⟨rfl, hd.below⟩
set_option maxHeartbeats 4000000 in
set_option maxRecDepth 100000 in
theorem spec (s t : ByteArray) (l h : Int) (w : World) (hs : s.size ≤ 140737488351232) (ht : t.size ≤ 140737488351232) :
    Calls Tryd.prog 26 #[.string s, .string t, .int .i64 l, .int .i64 h] w fun e w' => ∃ v, e = .returned (.tuple #[v, .bool (val s t l h).2]) ∧ Kd.R (Kd.int .i64) 3 w' w.heap.size (fun _ => True) v (val s t l h).1 ∧ Below w.heap.size w w' := by
  have ca := leapS s t l w hs ht
  have ch := fun W => hourS h W
  unfold val
  have hA : okAsked s t l h = (okRight s t l && okHour h) := rfl
  cases hr : okRight s t l with
  | false =>
    rw [hr] at ca hA
    have CA := Aside0.mk ca
    rw [hA, if_neg (by simp)]
    clear ca ch hA hr hs ht
    go_enter Tryd.func26, Tryd.ntmps26
    go_wp2_with fail
    refine CA.out.mono ?_
    rintro e w1 ⟨rfl, hb⟩
    have HB := Aside0.mk hb
    clear hb
    go_wp2_with fail
    go_ret2
    exact ⟨_, rfl, Kd.R_nil _ _ _ _ _, HB.out⟩
  | true =>
    rw [hr] at ca hA
    have CA := Aside0.mk ca
    cases hh : okHour h with
    | false =>
      rw [hh] at ch hA
      rw [hA, if_neg (by simp)]
      have CH := Aside0.mk ch
      clear ca ch hA hr hs ht hh
      go_enter Tryd.func26, Tryd.ntmps26
      go_wp2_with fail
      refine CA.out.mono ?_
      rintro e w1 ⟨rfl, hb⟩
      have HB := Aside0.mk hb
      clear hb
      go_wp2_with fail
      refine (CH.out _).mono ?_
      rintro e w2 ⟨rfl, hb⟩
      replace HB := Aside0.mk (below_step HB.out hb)
      clear hb
      go_wp2_with fail
      go_ret2
      exact ⟨_, rfl, Kd.R_nil _ _ _ _ _, HB.out⟩
    | true =>
      rw [hh] at ch hA
      have hk : okAsked s t l h = true := hA
      rw [hk, if_pos rfl]
      have CH := Aside0.mk ch
      obtain ⟨_, _, L, M, rfl, rfl, z1, z2, z3, z4⟩ := asked_is hk
      rw [Int.toNat_natCast]
      have CE := Aside0.mk (fun (st : Nat) (W : World) (h : st ≤ 2000) => End.tdEnd s t L st W z1 z2 z3 h)
      have HT := Aside0.mk (And.intro z1 z2)
      have ht2 : t.size ≤ 9223372036854775807 := by omega
      clear ca ch hA hr hs ht hh hk z1 z2 z3 z4
      generalize (M : Int) = h at CH ⊢
      obtain ⟨R, hR⟩ : ∃ R, wit (ndOf s t L) h t.size = R := ⟨_, rfl⟩
      rw [hR]
      have HRR := Aside0.mk hR
      clear hR
      go_enter Tryd.func26, Tryd.ntmps26
      go_wp2_with fail
      refine CA.out.mono ?_
      rintro e w1 ⟨rfl, hb⟩
      have HB0 := Aside0.mk hb
      clear hb
      go_wp2_with fail
      refine (CH.out _).mono ?_
      rintro e w2 ⟨rfl, hb⟩
      replace HB0 := Aside0.mk (below_step HB0.out hb)
      clear hb
      go_wp2_with fail
      go_loopw [10, 11] (fun v10 v11 wr => ∃ k : Nat, v11 = .int .i64 (k : Int) ∧ Aside0 (k ≤ t.size) ∧ Aside0 (Kd.R (Kd.int .i64) 3 wr w.heap.size (fun _ => True) v10 (wit (ndOf s t L) h k)) ∧ Aside0 (Below w.heap.size w wr)) (fun _ v11 _ => t.size - (intOf v11).toNat)
      case atStart => exact ⟨0, rfl, ⟨Nat.zero_le _⟩, ⟨Kd.R_nil _ _ _ _ _⟩, HB0⟩
      case round =>
        clear HB0
        obtain ⟨k, rfl, HK, HR, HB⟩ := hrel
        by_cases hk : k < t.size
        · have hk1 := decide_eq_true hk
          have HKK := Aside0.mk hk
          have hw : wrap64 ((k : Int) + 1) = ((k + 1 : Nat) : Int) := w_id (by omega) (by have := HT.out; omega)
          have CK := Aside0.mk (fun W => CE.out k W (by have := HT.out; omega))
          obtain ⟨x, hx⟩ : ∃ x, endOf s t L k = x := ⟨_, rfl⟩
          have hxb := end_lt s t L k HT.out.1.2 HT.out.2.2 (by have := HT.out; omega)
          rw [hx] at CK hxb
          obtain ⟨n, hn⟩ : ∃ n, x - (k : Int) = n := ⟨_, rfl⟩
          have hws : wrap64 (x - (k : Int)) = n := (w_id (by have := HT.out; have := HKK.out; omega) (by have := HT.out; have := HKK.out; omega)).trans hn
          have hnd : ndOf s t L k = if x < 0 then x else n := by unfold ndOf; rw [hx, hn]
          have NX : Aside0 ((x < 0 → ndOf s t L k < 0) ∧ (0 ≤ x → ndOf s t L k = n ∧ 0 ≤ n)) := ⟨by
            refine ⟨fun h => by rw [hnd, if_pos h]; exact h, fun h => ⟨by rw [hnd, if_neg (by omega)], ?_⟩⟩
            rw [← hn]
            have := end_ge s t L k (by rw [hx]; omega)
            rw [hx] at this
            omega⟩
          obtain ⟨y, hy⟩ : ∃ y, wit (ndOf s t L) h k = y := ⟨_, rfl⟩
          have HY := Aside0.mk (And.intro hy (show y.length ≤ k by rw [← hy]; exact wit_len _ _ _))
          rw [hy] at HR
          clear hk hx hn hnd hxb hy
          go_wp2_with fail
          refine (CK.out _).mono ?_
          rintro e w3 ⟨rfl, hb⟩
          replace HR := Aside0.mk (Kd.R_below HR.out hb)
          replace HB := Aside0.mk (below_step HB.out hb)
          clear hb
          by_cases c1 : x < 0
          · have hx1 := decide_eq_false (show ¬ (0 : Int) ≤ x by omega)
            have HYN := Aside0.mk (wit_skip HY.out.1 (fun h => by have := NX.out; omega))
            clear c1
            go_wp2_with fail
            go_roundw
            case rel => exact ⟨k + 1, by first | rfl | rw [hw], ⟨by have := HKK.out; omega⟩, ⟨by rw [← HYN.out]; exact HR.out⟩, HB⟩
            case measure => (try rw [hw]); have := HKK.out; simp [intOf]; omega
          · have hx1 := decide_eq_true (show (0 : Int) ≤ x by omega)
            have NN := Aside0.mk (NX.out.2 (by omega))
            clear c1
            by_cases c2 : n ≤ h
            · have hb1 := decide_eq_true c2
              have HYN := Aside0.mk (wit_take HY.out.1 (by have := NN.out; omega))
              clear c2
              go_wp2_with ((with_reducible refine gate_builtin (b := .append) (xs := #[.tmp 43, .tmp 45]) rfl ?_); at_builtin; refine Kd.R_append (Kd.int .i64) (w0 := w) w.heap.size rfl (.tmp 43) (.tmp 45) 25 3 (.int .i64 0) 8 rfl Tryd.underlying25 info3 rfl (by decide) (by omega) u10 (y) ((k : Int)) [.int .i64 ((k : Int))] (fun _ => True) (fun _ => False) rfl rfl ?aP (fun _ hk => hk.elim) ?aF ?aO ?aB ?aS ?aL ?_; (case aP => exact rfl); (case aB => exact HB.out); (case aF => exact (fun _ _ => trivial)); (case aO => exact HR.out); (case aS => exact below_size HB.out); (case aL => have := HY.out.2; have := HT.out; have := HKK.out; omega); intro v_n w_n ho hb hg hat; rw [HYN.out] at ho; have n1_ := Aside0.mk hb; have n2_ := Aside0.mk ho; clear HR HB; have HB := n1_; have HR := n2_; clear n1_ n2_; clear ho hb hg hat)
              go_roundw
              case rel => exact ⟨k + 1, by first | rfl | rw [hw], ⟨by have := HKK.out; omega⟩, HR, HB⟩
              case measure => (try rw [hw]); have := HKK.out; simp [intOf]; omega
            · have hb1 := decide_eq_false c2
              have HYN := Aside0.mk (wit_skip HY.out.1 (fun h => by have := NN.out; omega))
              clear c2
              go_wp2_with fail
              go_roundw
              case rel => exact ⟨k + 1, by first | rfl | rw [hw], ⟨by have := HKK.out; omega⟩, ⟨by rw [← HYN.out]; exact HR.out⟩, HB⟩
              case measure => (try rw [hw]); have := HKK.out; simp [intOf]; omega
        · have hk1 := decide_eq_false hk
          have hke : k = t.size := by have := HK.out; omega
          rw [hke, HRR.out] at HR
          clear hk hke
          go_wp2_with fail
          go_ret2
          exact ⟨_, rfl, HR.out, HB.out⟩
set_option maxHeartbeats 4000000 in
set_option maxRecDepth 100000 in
theorem impl (s t : ByteArray) (l h : Int) (w : World) (hs : s.size ≤ 140737488351232) (ht : t.size ≤ 140737488351232) :
    Calls Tryd.prog 27 #[.string s, .string t, .int .i64 l, .int .i64 h] w fun e w' => ∃ v, e = .returned (.tuple #[v, .bool (val s t l h).2]) ∧ Kd.R (Kd.int .i64) 3 w' w.heap.size (fun _ => True) v (val s t l h).1 ∧ Below w.heap.size w w' := by
  have hu39 := Tryd.underlying39
  have ci := fun W => isRight s t l W hs ht
  have ch := fun W => isHour h W
  unfold val
  have hA : okAsked s t l h = (okRight s t l && okHour h) := rfl
  cases hr : okRight s t l with
  | false =>
    rw [hr] at ci hA
    rw [hA, if_neg (by simp)]
    have CI := Aside0.mk ci
    clear ci ch hA hr hs ht
    go_enter Tryd.func27, Tryd.ntmps27
    go_wp2_with fail
    refine (CI.out _).mono ?_
    rintro e w1 ⟨rfl, hb⟩
    have HB := Aside0.mk (show Below (w.heap.size + 1) (w.alloc (box s t l)) w1 from by have z := hb.mono (show w.heap.size + 1 ≤ (w.alloc (box s t l)).heap.size by simp); exact z)
    obtain ⟨hc0, hc1, hc2⟩ := boxed HB.out
    clear hb
    go_wp2_with fail
    go_ret2
    exact ⟨_, rfl, Kd.R_nil _ _ _ _ _, boxed_from HB.out⟩
  | true =>
    rw [hr] at ci hA
    have CI := Aside0.mk ci
    cases hh : okHour h with
    | false =>
      rw [hh] at ch hA
      rw [hA, if_neg (by simp)]
      have CH := Aside0.mk ch
      clear ci ch hA hr hs ht hh
      go_enter Tryd.func27, Tryd.ntmps27
      go_wp2_with fail
      refine (CI.out _).mono ?_
      rintro e w1 ⟨rfl, hb⟩
      have HB := Aside0.mk (show Below (w.heap.size + 1) (w.alloc (box s t l)) w1 from by have z := hb.mono (show w.heap.size + 1 ≤ (w.alloc (box s t l)).heap.size by simp); exact z)
      obtain ⟨hc0, hc1, hc2⟩ := boxed HB.out
      clear hb
      go_wp2_with fail
      refine (CH.out _).mono ?_
      rintro e w' ⟨rfl, rfl⟩
      go_wp2_with fail
      go_ret2
      exact ⟨_, rfl, Kd.R_nil _ _ _ _ _, boxed_from HB.out⟩
    | true =>
      rw [hh] at ch hA
      have hk : okAsked s t l h = true := hA
      rw [hk, if_pos rfl]
      have CH := Aside0.mk ch
      obtain ⟨_, _, L, M, rfl, rfl, z1, z2, z3, z4⟩ := asked_is hk
      rw [Int.toNat_natCast]
      have CE := Aside0.mk (fun (W : World) => needs s t L W z1 z2 z3)
      have HT := Aside0.mk (And.intro z1 z2)
      clear ci ch hA hr hs ht hh hk z1 z2 z3 z4
      generalize (M : Int) = h at CH ⊢
      obtain ⟨R, hR⟩ : ∃ R, wit (ndOf s t L) h t.size = R := ⟨_, rfl⟩
      rw [hR]
      have HRR := Aside0.mk hR
      clear hR
      go_enter Tryd.func27, Tryd.ntmps27
      go_wp2_with fail
      refine (CI.out _).mono ?_
      rintro e w1 ⟨rfl, hb⟩
      have HB := Aside0.mk (show Below (w.heap.size + 1) (w.alloc (box s t (L : Int))) w1 from by have z := hb.mono (show w.heap.size + 1 ≤ (w.alloc (box s t (L : Int))).heap.size by simp); exact z)
      obtain ⟨hc0, hc1, hc2⟩ := boxed HB.out
      clear hb
      go_wp2_with fail
      refine (CH.out _).mono ?_
      rintro e w' ⟨rfl, rfl⟩
      go_wp2_with ((with_reducible refine gate_dst (N := 26) rfl ?_); refine Kd.R_lit (Kd.int .i64) (w0 := w.alloc (box s t (L : Int))) (w.heap.size + 1) 3 ?hg (N := 26) ?hd (xs := ([] : List Int)) (inner := []) (ok := fun _ => True) (okp := fun _ => True) ?hr ?hp (fun _ hk => hk) trivial ?hB ?hS (by simp) ?_; (case hd => rfl); (case hg => rfl); (case hr => first | (go_simp; done) | (go_simp; rfl)); (case hp => exact (Reps.none _ _)); (case hB => exact HB.out); (case hS => exact boxed_size HB.out); intro v6 w6 ho hb hg_ hnew_; clear hg_ hnew_; have HR0 := Aside0.mk ho; have HB0 := Aside0.mk hb; clear hc0 hc1 hc2; obtain ⟨hc0, hc1, hc2⟩ := boxed hb; clear ho hb HB)
      refine (CE.out _).mono ?_
      rintro e w3 ⟨v, rfl, hr, hb⟩
      clear hc0 hc1 hc2
      replace HB0 := Aside0.mk (boxed_then HB0.out hb)
      have HRa := Aside0.mk HR0.out
      replace HR0 := Aside0.mk (Kd.R_below HR0.out hb)
      obtain ⟨g, cap, rfl, hg, hT⟩ := Stp.of_tab (h1 := fun _ => rfl) hr (by have := HT.out; omega)
      have TB := Aside0.mk hT
      have HG := Aside0.mk (And.intro hg hT.lt)
      clear hr hb hg hT
      have NE0 : Aside0 (∀ k, v6.ownBlock = some k → k ≠ g) := ⟨fun k e1 e2 => absurd (Kd.R_lt HRa.out k e1) (by have := HG.out; omega)⟩
      clear HRa
      go_wp2_with fail
      go_loopw [11, 30] (fun v11 v30 wr => ∃ k : Nat, v30 = .int .i64 (k : Int) ∧ Aside0 (k ≤ t.size) ∧ Aside0 (Kd.R (Kd.int .i64) 3 wr (w.heap.size + 1) (fun _ => True) v11 (wit (ndOf s t L) h k)) ∧ Aside0 (Below (w.heap.size + 1) (w.alloc (box s t (L : Int))) wr) ∧ Aside0 (∀ k, v11.ownBlock = some k → k ≠ g) ∧ Aside0 (Tb (Value.int .i64) 3 wr g cap t.size (ndOf s t L))) (fun _ v30 _ => t.size - (intOf v30).toNat)
      case atStart => exact ⟨0, rfl, ⟨Nat.zero_le _⟩, HR0, HB0, NE0, TB⟩
      case round =>
        clear HB0 HR0 NE0 TB
        obtain ⟨k, rfl, HK, HR, HB, NE, TB⟩ := hrel
        by_cases hk : k < t.size
        · have hk1 := decide_eq_true hk
          have HKK := Aside0.mk hk
          have hw : wrap64 ((k : Int) + 1) = ((k + 1 : Nat) : Int) := w_id (by omega) (by have := HT.out; omega)
          obtain ⟨n, hn⟩ : ∃ n, ndOf s t L k = n := ⟨_, rfl⟩
          have hcx : wr.cell? ⟨g, k, none⟩ = some (.int .i64 n) := (TB.out.cell k hk).trans (by rw [hn])
          have NN := Aside0.mk hn
          obtain ⟨y, hy⟩ : ∃ y, wit (ndOf s t L) h k = y := ⟨_, rfl⟩
          have HY := Aside0.mk (And.intro hy (show y.length ≤ k by rw [← hy]; exact wit_len _ _ _))
          rw [hy] at HR
          clear hn hy
          go_wp2_with fail
          refine (within_any _ _ _ _).mono ?_
          rintro e w' ⟨rfl, rfl⟩
          by_cases c2 : 0 ≤ n ∧ n ≤ h
          · have HYN := Aside0.mk (wit_take HY.out.1 (by rw [NN.out]; exact c2))
            have hd := decide_eq_true c2
            rw [hd]
            clear c2 hd
            go_wp2_with ((with_reducible refine gate_builtin (b := .append) (xs := #[.tmp 38, .tmp 40]) rfl ?_); at_builtin; refine Kd.R_append (Kd.int .i64) (w0 := w.alloc (box s t (L : Int))) (w.heap.size + 1) rfl (.tmp 38) (.tmp 40) 25 3 (.int .i64 0) 8 rfl Tryd.underlying25 info3 rfl (by decide) (by omega) u11 (y) ((k : Int)) [.int .i64 ((k : Int))] (fun _ => True) (fun _ => False) rfl rfl ?aP (fun _ hk => hk.elim) ?aF ?aO ?aB ?aS ?aL ?_; (case aP => exact rfl); (case aB => exact HB.out); (case aF => exact (fun _ _ => trivial)); (case aO => exact HR.out); (case aS => exact boxed_size HB.out); (case aL => have := HY.out.2; have := HT.out; have := HKK.out; omega); intro v_n w_n ho hb hg hat; have n3_ : Aside0 (∀ k, v_n.ownBlock = some k → k ≠ g) := ⟨fun k_ e_ => hat.elim (fun q_ => NE.out k_ (q_ ▸ e_)) (fun ⟨b_, q1_, q2_⟩ e2_ => by rw [q1_] at e_; cases e_; have := TB.out.lt; omega)⟩; have n4_ := Aside0.mk (Tb.grown TB.out hg NE.out); clear NE TB; have NE := n3_; have TB := n4_; clear n3_ n4_; rw [HYN.out] at ho; have n1_ := Aside0.mk hb; have n2_ := Aside0.mk ho; clear HR HB; have HB := n1_; have HR := n2_; clear n1_ n2_; clear ho hb hg hat)
            go_roundw
            case rel => exact ⟨k + 1, by first | rfl | rw [hw], ⟨by have := HKK.out; omega⟩, HR, HB, NE, TB⟩
            case measure => (try rw [hw]); have := HKK.out; simp [intOf]; omega
          · have HYN := Aside0.mk (wit_skip HY.out.1 (by rw [NN.out]; exact c2))
            have hd := decide_eq_false c2
            rw [hd]
            clear c2 hd
            go_wp2_with fail
            go_roundw
            case rel => exact ⟨k + 1, by first | rfl | rw [hw], ⟨by have := HKK.out; omega⟩, ⟨by rw [← HYN.out]; exact HR.out⟩, HB, NE, TB⟩
            case measure => (try rw [hw]); have := HKK.out; simp [intOf]; omega
        · have hk1 := decide_eq_false hk
          have hke : k = t.size := by have := HK.out; omega
          rw [hke, HRR.out] at HR
          clear hk hke
          go_wp2_with fail
          go_ret2
          exact ⟨_, rfl, Kd.R_lower HR.out (by omega), boxed_from HB.out⟩
end Go.Proofs.YteijbohbdhemoaaDoor.Sw
