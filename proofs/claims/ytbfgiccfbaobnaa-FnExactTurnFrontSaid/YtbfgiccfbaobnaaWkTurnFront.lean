/- impl.TurnFront at this program answers as the reference's printed function, told of an order; a new slice, nothing that lay before is turned. Condition: the slice is no longer than 2^20. -/
import Derived.Test.YtbfgiccfbaobnaaIsOrd
import Derived.Test.YtbfgiccfbaobnaaShelfB
import Derived.Test.YtbfgiccfbaobnaaPFnExactTurnFrontx2
import Derived.Test.YtbfgiccfbaobnaaPFnExactTurnFrontx9
namespace Go.Proofs.Ytbfgiccfbaobnaa.WkTurnFront
set_option linter.unusedVariables false
set_option linter.unusedSimpArgs false
open Go.Sort hiding rd
open Go.RowKit Go.Proofs.YtbfgiccfbaobnaaW.PrintWords Go.Proofs.YtbfgiccfbaobnaaW.PrintLast Go.Proofs.YtbfgiccfbaobnaaW.PrintMore PFnExactTurnFront

theorem ite_some {α : Type} {c : Prop} [Decidable c] {x : Option α} {r : α} (h : (if c then x else none) = some r) : c ∧ x = some r := by
  by_cases hc : c
  · rw [if_pos hc] at h; exact ⟨hc, h⟩
  · rw [if_neg hc] at h; cases h

theorem rd_nat {l : List Int} {i : Nat} (h : i < l.length) : rd l (i : Int) = l[i] := by
  unfold rd
  rw [List.getD_eq_getElem?_getD, show ((i : Int)).toNat = i by omega, List.getElem?_eq_getElem h]
  rfl
theorem turn_eq (l : List Int) (hl : l.length ≤ 1048576) (a : Nat) : ∀ (k i : Nat) (out s : List Int), i ≤ l.length → spec_ptTurn.l0 k l (a : Int) out ((i : Int) - 1) = some s → s = out ++ (l.take i).reverse ++ l.drop a
  | 0, i, out, s, hi, h => by simp [spec_ptTurn.l0] at h
  | k + 1, 0, out, s, hi, h => by
    simp only [spec_ptTurn.l0] at h
    rw [if_neg (by omega)] at h
    obtain ⟨_, h⟩ := ite_some h
    obtain ⟨_, h⟩ := ite_some h
    obtain ⟨_, h⟩ := ite_some h
    have := Option.some.inj h
    rw [← this]
    simp
  | k + 1, i + 1, out, s, hi, h => by
    simp only [spec_ptTurn.l0] at h
    rw [show (((i + 1 : Nat) : Int) - 1) = (i : Int) by omega] at h
    rw [if_pos (by omega)] at h
    obtain ⟨_, h⟩ := ite_some h
    obtain ⟨_, h⟩ := ite_some h
    obtain ⟨_, h⟩ := ite_some h
    rw [show wrap64 ((i : Int) - 1) = (i : Int) - 1 by unfold wrap64; omega] at h
    have := turn_eq l hl a k i (out ++ [rd l (i : Int)]) s (by omega) h
    rw [this, List.take_succ_eq_append_getElem (by omega), rd_nat (by omega), List.reverse_append]
    simp only [List.reverse_cons, List.reverse_nil, List.nil_append, List.append_assoc, List.cons_append]

/-- A row whose first q cells are turned. -/
theorem own_turned {W : World} {base g cap n m q : Nat} {cur : Array Value} {l : List Int} (hbase : base ≤ g) (hb : W.heap[g]? = some (.cells cur 3 (0, 0))) (hl : l.length = n) (h1 : n ≤ cap) (h2 : cap ≤ maxLen) (h3 : cur.size = cap * 1) (h4 : cur.toList.take n = l.map (Value.int .i64)) (hq : q ≤ n) :
    (putRow (Value.int .i64) (Sort.ahead W m) g 0 (l.take q).reverse.toArray).ownsRow base 3 1 (.slice (some ⟨g, 0, none⟩) n cap) n (((l.take q).reverse ++ l.drop q).map (Value.int .i64)) := by
  refine ⟨by simp; omega, .inr ⟨g, cap, putCells (Value.int .i64) 0 (l.take q).reverse.toArray cur, rfl, hbase, ?_, h1, h2, by simp [putCells, h3], ?_⟩⟩
  · simp [putRow, mapBlock, Sort.ahead, Array.getElem?_modify, hb, onCells]
  · rw [Nat.mul_one]
    apply List.ext_getElem?
    intro j
    by_cases hj : j < n
    · have hc : j < cur.size := by omega
      have h5 : (cur.toList.take n)[j]? = (l.map (Value.int .i64))[j]? := by rw [h4]
      rw [List.getElem?_take_of_lt hj] at h5
      rw [List.getElem?_take_of_lt hj, Array.getElem?_toList]
      by_cases hjq : j < q
      · simp [putCells, hc, hjq, List.getElem?_append, show min q l.length = q by omega]
      · rw [Array.getElem?_toList] at h5
        simp [putCells, hc, show min q l.length = q by omega, hjq, List.getElem?_append]
        simp [hc] at h5
        rw [show q + (j - q) = j by omega, h5]
    · rw [List.getElem?_eq_none (by simp [putCells]; omega), List.getElem?_eq_none (by simp; omega)]

set_option maxHeartbeats 2000000 in
theorem clone (A : Option Addr) (c : Nat) (l : List Int) (w : World) (hr : Kd.C (Kd.int .i64) w A l.length l) (h1 : 1 ≤ l.length) (hl : l.length ≤ 1048576) :
    Calls Try.prog 52 #[.slice A l.length c] w fun e w' => ∃ v, e = .returned v ∧ w'.ownsRow w.heap.size 3 1 v l.length (l.map (Value.int .i64)) ∧ Below w.heap.size w w' := by
  rcases Seq.ints_of_C (c := c) hr with ⟨_, _, _, rfl⟩ | ⟨b, off, cap, e, _, hc⟩
  · simp at h1
  · injection e with e1 e2 e3
    subst e1 e3
    refine Calls.mono (Any.slices_Clone_int Try.lays15 b off l.length c l w (Nat.le_refl _) (by omega) (fun j hj => ?_)) ?_
    · rw [hc j hj, List.getD_eq_getElem?_getD]
    · rintro e w' ⟨v, rfl, ho, _, hb⟩
      rw [List.take_length] at ho
      exact ⟨v, rfl, ho, hb⟩

set_option maxHeartbeats 2000000 in
set_option maxRecDepth 100000 in
theorem turned (A : Option Addr) (c : Nat) (l : List Int) (q : Nat) (w : World) (hr : Kd.C (Kd.int .i64) w A l.length l) (h1 : 1 ≤ l.length) (hl : l.length ≤ 1048576) (hq1 : 1 ≤ q) (hq : q ≤ l.length) :
    Calls Try.prog 45 #[.slice A l.length c, .int .i64 (q : Int)] w fun e w' => ∃ v, e = .returned v ∧ Kd.R (Kd.int .i64) 3 w' w.heap.size (fun _ => True) v ((l.take q).reverse ++ l.drop q) ∧ Below w.heap.size w w' := by
  have cC := clone A c l w hr h1 hl
  have hl2 : l.length ≤ 9223372036854775807 := by omega
  go_enter Try.func45, Try.ntmps45
  go_wp2_with fail
  refine cC.mono ?_
  clear cC
  rintro e W ⟨v, rfl, hrow, hb⟩
  rcases hrow.2 with ⟨_, h0⟩ | ⟨g, cap, cur, rfl, hbase, hgb, r1, r2, r3, r4⟩
  · omega
  · have HT := Aside0.mk (fun m => own_turned (m := m) hbase hgb rfl r1 r2 r3 (by simpa using r4) hq)
    have hH : Holds (Value.int .i64) W g 0 (l.take q).toArray := by
      refine holds_of_block_i (ss := l.take q) hgb ?_
      have h5 : cur.toList.take l.length = l.map (Value.int .i64) := by simpa using r4
      rw [show (l.take q).length = q by simp; omega, List.map_take, ← h5, List.take_take, Nat.min_eq_left hq]
    have cR := Any.slices_Reverse_int Try.lays112 g 0 cap (l.take q) W hH (by simp; omega)
    rw [show (l.take q).length = q by simp; omega] at cR
    change Calls Try.prog 53 _ _ _ at cR
    have HB := Aside0.mk hb
    have HG : Aside0 (w.heap.size ≤ g) := ⟨hbase⟩
    have hqc : q ≤ cap := by omega
    clear hH hrow r4 r3 hgb hb hbase
    go_wp2_with fail
    refine cR.mono ?_
    clear cR
    rintro e w' ⟨rfl, m, rfl⟩
    go_wp2_with fail
    go_ret
    refine ⟨_, rfl, Kd.R_of_own (by have := HT.out m; simpa [encs, show q + (l.length - q) = l.length by omega, Nat.min_eq_left hq] using this) (fun _ _ => trivial), ?_⟩
    exact HB.out.grown (row := some g) ⟨rfl, rfl, rfl, by simp [putRow, mapBlock, Sort.ahead], fun k hk hne => by simp [putRow, mapBlock, Sort.ahead, Array.getElem?_modify, show g ≠ k from fun e => hne (by rw [e])]⟩ HB.out.size (fun k e => by cases e; exact HG.out)

set_option maxHeartbeats 2000000 in
set_option maxRecDepth 100000 in
theorem impl (k : Nat) (A : Option Addr) (c : Nat) (l : List Int) (a : Int) (r : List Int) (b : Bool) (w : World) (hr : Kd.C (Kd.int .i64) w A l.length l) (hc : l.length ≤ c) (hl : l.length ≤ 1048576)
    (hg : spec_ptGood.f k l = some (Ord.ord l)) (h : spec_TurnFront.f k l a = some (r, b)) :
    Calls Try.prog 28 #[.slice A l.length c, .int .i64 a] w fun e w' => ∃ v, e = .returned (.tuple #[v, .bool b]) ∧ Kd.R (Kd.int .i64) 3 w' w.heap.size (fun _ => True) v r ∧ Below w.heap.size w w' := by
  have cI := Seq.isOrder A c l w hr hl
  have hl2 : l.length ≤ 9223372036854775807 := by omega
  unfold spec_TurnFront.f at h
  rw [hg, Option.bind_some] at h
  cases ho : Ord.ord l with
  | false =>
    rw [ho] at h cI
    rw [if_neg (by decide)] at h
    simp only [Option.some.injEq, Prod.mk.injEq] at h
    obtain ⟨rfl, rfl⟩ := h
    clear ho hr hg
    go_enter Try.func28, Try.ntmps28
    go_wp2_with fail
    refine cI.mono ?_
    clear cI
    rintro e w1 ⟨rfl, hb⟩
    have HB := Aside0.mk hb
    clear hb
    go_wp2_with fail
    go_ret2
    exact ⟨_, rfl, Kd.R_nil _ _ _ _ _, HB.out⟩
  | true =>
    rw [ho] at h cI
    rw [if_pos rfl] at h
    have h1 : 1 ≤ l.length := (Ord.ord_iff l |>.mp ho).1
    have HR := Aside0.mk hr
    clear ho hg hr
    by_cases hin : 1 ≤ a ∧ a ≤ (l.length : Int)
    · obtain ⟨q, rfl⟩ : ∃ q : Nat, a = (q : Int) := ⟨a.toNat, by omega⟩
      have hq1 : 1 ≤ q := by omega
      have hq2 : q ≤ l.length := by omega
      have e1 : spec_l1In.f (q : Int) 1 (l.length : Int) = some true := by
        unfold spec_l1In.f
        rw [if_pos (by omega), decide_eq_true (by omega)]
      rw [e1, Option.bind_some, if_pos rfl] at h
      obtain ⟨s, hs, h⟩ := Option.bind_eq_some_iff.mp h
      simp only [Option.some.injEq, Prod.mk.injEq] at h
      obtain ⟨rfl, rfl⟩ := h
      unfold spec_ptTurn.f at hs
      rw [show wrap64 ((q : Int) - 1) = (q : Int) - 1 by unfold wrap64; omega] at hs
      have hs2 := turn_eq l hl q k q [] s hq2 hs
      rw [List.nil_append] at hs2
      have HS := Aside0.mk hs2
      have HW : Aside0 (impl_within.f (q : Int) 1 (l.length : Int) = some true) := ⟨by unfold impl_within.f; rw [if_pos (by omega), decide_eq_true (by omega)]⟩
      clear hs hs2 hin e1
      go_enter Try.func28, Try.ntmps28
      go_wp2_with fail
      refine cI.mono ?_
      clear cI
      rintro e w1 ⟨rfl, hb⟩
      have HB := Aside0.mk hb
      clear hb
      go_wp2_with fail
      refine (impl_within.calls _ _ _ _ _ HW.out).mono ?_
      rintro e w2 ⟨rfl, ⟨nd, rfl⟩⟩
      replace HB := Aside0.mk (pw_below_drewN HB.out nd)
      generalize w1.drewN nd = w2 at HB ⊢
      have cT := turned A c l q w2 (Kd.C_below HR.out HB.out) h1 hl hq1 hq2
      go_wp2_with fail
      refine cT.mono ?_
      clear cT
      rintro e w3 ⟨v, rfl, hR, hb⟩
      have HB3 := Aside0.mk (HB.out.trans (hb.mono HB.out.size))
      have R3 := Aside0.mk (Kd.R_lower hR HB.out.size)
      clear hb hR
      go_wp2_with fail
      go_ret2
      exact ⟨_, rfl, by rw [HS.out]; exact R3.out, HB3.out⟩
    · have e1 : spec_l1In.f a 1 (l.length : Int) = some false := by
        unfold spec_l1In.f
        by_cases h2 : a ≥ 1
        · rw [if_pos h2, decide_eq_false (by omega)]
        · rw [if_neg h2]
      rw [e1, Option.bind_some, if_neg (by decide)] at h
      simp only [Option.some.injEq, Prod.mk.injEq] at h
      obtain ⟨rfl, rfl⟩ := h
      have HW : Aside0 (impl_within.f a 1 (l.length : Int) = some false) := ⟨by
        unfold impl_within.f
        by_cases h2 : 1 ≤ a
        · rw [if_pos h2, decide_eq_false (by omega)]
        · rw [if_neg h2]⟩
      clear e1 hin
      go_enter Try.func28, Try.ntmps28
      go_wp2_with fail
      refine cI.mono ?_
      clear cI
      rintro e w1 ⟨rfl, hb⟩
      have HB := Aside0.mk hb
      clear hb
      go_wp2_with fail
      refine (impl_within.calls _ _ _ _ _ HW.out).mono ?_
      rintro e w2 ⟨rfl, ⟨nd, rfl⟩⟩
      replace HB := Aside0.mk (pw_below_drewN HB.out nd)
      generalize w1.drewN nd = w2 at HB ⊢
      go_wp2_with fail
      go_ret2
      exact ⟨_, rfl, Kd.R_nil _ _ _ _ _, HB.out⟩
end Go.Proofs.Ytbfgiccfbaobnaa.WkTurnFront
