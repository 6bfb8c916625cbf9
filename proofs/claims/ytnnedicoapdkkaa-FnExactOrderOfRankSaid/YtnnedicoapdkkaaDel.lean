/- slices.Delete of one number at this program: a row of ints that lies in memory of its own loses its place i. Condition: i lies within the row. -/
import Derived.Test.YtnnedicoapdkkaaShelfDel
import Derived.Test.YtnnedicoapdkkaaPFnExactOrderOfRankx1
import Derived.Test.YtnnedicoapdkkaaPFnExactOrderOfRankx2
import Derived.Lib.SlKeysI
namespace Go.Proofs.Ytnnedicoapdkkaa.Del
set_option linter.unusedVariables false
set_option linter.unusedSimpArgs false
open Go.Sort
open Go.RowKit Go.Proofs.YtnnedicoapdkkaaW.PrintWords Go.Proofs.YtnnedicoapdkkaaW.PrintLast Go.Proofs.YtnnedicoapdkkaaW.PrintMore

def gone (l : List Int) (i : Nat) : List Int := l.take i ++ l.drop (i + 1)
theorem gone_len {l : List Int} {i : Nat} (h : i < l.length) : (gone l i).length = l.length - 1 := by unfold gone; simp; omega
/-- A row that lost its place i. -/
theorem own_gone {W : World} {base g cap m i : Nat} {cur : Array Value} {l : List Int} (hbase : base ≤ g) (hb : W.heap[g]? = some (.cells cur 3 (0, 0))) (h1 : l.length ≤ cap) (h2 : cap ≤ maxLen) (h3 : cur.size = cap * 1) (hi : i < l.length) :
    (putRow (Value.int .i64) (Sort.ahead W m) g 0 (l.take i ++ l.drop (i + 1) ++ List.replicate 1 0).toArray).ownsRow base 3 1 (.slice (some ⟨g, 0, none⟩) (l.length - 1) cap) (l.length - 1) ((gone l i).map (Value.int .i64)) := by
  have hgl := gone_len hi
  refine ⟨by rw [List.length_map, hgl]; omega, .inr ⟨g, cap, putCells (Value.int .i64) 0 (l.take i ++ l.drop (i + 1) ++ List.replicate 1 0).toArray cur, rfl, hbase, ?_, by omega, h2, by simp [putCells, h3], ?_⟩⟩
  · simp [putRow, mapBlock, Sort.ahead, Array.getElem?_modify, hb, onCells]
  · rw [Nat.mul_one]
    apply List.ext_getElem?
    intro j
    have hd : l.take i ++ l.drop (i + 1) ++ List.replicate 1 0 = gone l i ++ [0] := rfl
    rw [hd]
    generalize gone l i = d at hgl ⊢
    by_cases hj : j < l.length - 1
    · have hc : j < cur.size := by omega
      rw [List.getElem?_take_of_lt hj, Array.getElem?_toList]
      simp [putCells, hc, hgl, List.getElem?_append, show j < l.length - 1 + 1 by omega, hj]
    · rw [List.getElem?_eq_none (by simp [putCells]; omega), List.getElem?_eq_none (by rw [List.length_map]; omega)]

set_option maxHeartbeats 2000000 in
theorem del (base : Nat) (ok : Nat → Prop) (v : Value) (l : List Int) (i : Nat) (w0 W : World) (hR : Kd.R (Kd.int .i64) 3 W base ok v l) (hi : i < l.length) (hl : l.length ≤ 1048576) (hB : Below w0.heap.size w0 W) (hb : w0.heap.size ≤ base) :
    Calls Try.prog 58 #[v, .int .i64 (i : Int), .int .i64 ((i : Int) + 1)] W fun e w' => ∃ v', e = .returned v' ∧ v'.ownBlock = v.ownBlock ∧ Kd.R (Kd.int .i64) 3 w' base ok v' (gone l i) ∧ Below w0.heap.size w0 w' ∧ Kept W w' (fun k => some k = v.ownBlock) := by
  have hown := Kd.own_of_R hR
  rcases hown.2 with ⟨_, h0⟩ | ⟨g, cap, cur, rfl, hbase, hgb, r1, r2, r3, r4⟩
  · omega
  · have hH : Holds (Value.int .i64) W g 0 l.toArray := holds_of_block_i (ss := l) hgb (by simpa [encs] using r4)
    have c := Any.slices_Delete_int Try.lays2_23 g 0 cap i (i + 1) l W hH r1 (by unfold maxLen at r2; omega) (by omega) (by omega)
    rw [show i + 1 - i = 1 by omega, show (((i + 1 : Nat)) : Int) = (i : Int) + 1 by omega] at c
    refine Calls.mono c ?_
    rintro e w' ⟨rfl, m, rfl⟩
    refine ⟨_, rfl, rfl, Kd.R_of_own (by have := own_gone (m := m) hbase hgb r1 r2 r3 hi; rw [gone_len hi]; exact this) (fun k hk => hR.1 k hk), ?_, ?_⟩
    · exact hB.grown (row := some g) ⟨rfl, rfl, rfl, by simp [putRow, mapBlock, Sort.ahead], fun k hk hne => by simp [putRow, mapBlock, Sort.ahead, Array.getElem?_modify, show g ≠ k from fun e => hne (by rw [e])]⟩ hB.size (fun k e => by cases e; omega)
    · exact ⟨by simp [putRow, mapBlock, Sort.ahead], fun k hk hne => by simp [putRow, mapBlock, Sort.ahead, Array.getElem?_modify, show g ≠ k from fun e => hne (by rw [e]; rfl)]⟩
end Go.Proofs.Ytnnedicoapdkkaa.Del
