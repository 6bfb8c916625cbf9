/- (crossing).needs at this program: how many hours from each start of one tide, -1 for none. Condition: a right crossing. -/
import Derived.Test.YteijbohbdhemoaaDoorEnd
namespace Go.Proofs.YteijbohbdhemoaaDoor.Nd
set_option linter.unusedVariables false
set_option linter.unusedSimpArgs false
open Go.RowKit Go.Proofs.YteijbohbdhemoaaDoorW.PrintWords Go.Proofs.YteijbohbdhemoaaDoorW.PrintLast Go.Proofs.YteijbohbdhemoaaDoorW.PrintMore Sh Cr Sm Tb Pl Arr

/-- How many hours one needs from a start, or -1. -/
def ndOf (s t : ByteArray) (L st : Nat) : Int := if endOf s t L st < 0 then endOf s t L st else endOf s t L st - (st : Int)
def ndl (s t : ByteArray) (L : Nat) : List Int := tab t.size (ndOf s t L)
theorem tab_snoc {α : Type} (k : Nat) (f : Nat → α) : tab k f ++ [f k] = tab (k + 1) f := by simp [tab, List.range_succ]
theorem end_lt (s t : ByteArray) (L st : Nat) (hs : s.size ≤ 14) (ht : t.size ≤ 12) (hst : st ≤ 2000) : -1 ≤ endOf s t L st ∧ endOf s t L st ≤ 3000 := by
  unfold endOf fst
  rcases Int.lt_or_le (Tide.first (s.size + 2) L (dryN s t) st ((s.size + 2) * t.size) (s.size + 1)) 0 with h | h
  · have := (Tide.first_neg _ _ h).1
    omega
  · obtain ⟨n, h1, h2, _⟩ := Tide.first_pos _ _ h
    have : (s.size + 2) * t.size ≤ 16 * 12 := Nat.mul_le_mul (by omega) ht
    omega
theorem end_ge (s t : ByteArray) (L st : Nat) (h : 0 ≤ endOf s t L st) : (st : Int) ≤ endOf s t L st := by
  unfold endOf fst at *
  obtain ⟨n, h1, h2, _⟩ := Tide.first_pos _ _ h
  omega
theorem boxed {s t : ByteArray} {L : Int} {w W : World} (hb : Below (w.heap.size + 1) (w.alloc (box s t L)) W) : W.cell? ⟨w.heap.size, 0, none⟩ = some (.string s) ∧ W.cell? ⟨w.heap.size, 1, none⟩ = some (.string t) ∧ W.cell? ⟨w.heap.size, 2, none⟩ = some (.int .i64 L) := by
  have h := (hb.block w.heap.size (by omega)).trans (blk_new w (box s t L))
  exact ⟨(blk_cell h 0).trans rfl, (blk_cell h 1).trans rfl, (blk_cell h 2).trans rfl⟩
theorem boxed_from {s t : ByteArray} {L : Int} {w W : World} (hb : Below (w.heap.size + 1) (w.alloc (box s t L)) W) : Below w.heap.size w W := (below_alloc (Below.refl w.heap.size w) (box s t L)).trans (hb.mono (by omega))
theorem boxed_size {s t : ByteArray} {L : Int} {w W : World} (hb : Below (w.heap.size + 1) (w.alloc (box s t L)) W) : w.heap.size + 1 ≤ W.heap.size := by
  have := hb.size
  simpa using this
theorem boxed_then {s t : ByteArray} {L : Int} {w W W' : World} (hb : Below (w.heap.size + 1) (w.alloc (box s t L)) W) (h : Below W.heap.size W W') : Below (w.heap.size + 1) (w.alloc (box s t L)) W' := below_then hb (boxed_size hb) h
set_option maxHeartbeats 4000000 in
set_option maxRecDepth 100000 in
theorem needs (s t : ByteArray) (L : Nat) (w : World) (hs : 1 ≤ s.size ∧ s.size ≤ 14) (ht : 1 ≤ t.size ∧ t.size ≤ 12) (hL : 1 ≤ L ∧ L ≤ 15) :
    Calls Tryd.prog 41 #[agg s t (L : Int)] w fun e w' => ∃ v, e = .returned v ∧ Kd.R (Kd.int .i64) 3 w' w.heap.size (fun _ => True) v (ndl s t L) ∧ Below w.heap.size w w' := by
  have hu39 := Tryd.underlying39
  have CE := Aside0.mk (fun (st : Nat) (W : World) (h : st ≤ 2000) => End.earliest s t L st W hs ht hL h)
  have HT := Aside0.mk (And.intro hs ht)
  have ht2 : t.size ≤ 9223372036854775807 := by omega
  clear hs ht hL
  have HB0 := Aside0.mk (Below.refl (w.heap.size + 1) (w.alloc (box s t (L : Int))))
  have HS0 := Aside0.mk (show w.heap.size + 1 ≤ (w.alloc (box s t (L : Int))).heap.size by simp)
  go_enter Tryd.func41, Tryd.ntmps41
  go_wp2_with ((with_reducible refine gate_dst (N := 6) rfl ?_); refine Kd.R_lit (Kd.int .i64) (w0 := w.alloc (box s t (L : Int))) (w.heap.size + 1) 3 ?hg (N := 6) ?hd (xs := ([] : List Int)) (inner := []) (ok := fun _ => True) (okp := fun _ => True) ?hr ?hp (fun _ hk => hk) trivial ?hB ?hS (by simp) ?_; (case hd => rfl); (case hg => rfl); (case hr => first | (go_simp; done) | (go_simp; rfl)); (case hp => exact (Reps.none _ _)); (case hB => exact HB0.out); (case hS => exact HS0.out); intro v6 w6 ho hb hg_ hnew_; clear hg_ hnew_; have HR := Aside0.mk ho; have HB := Aside0.mk hb; have hc1 := (boxed hb).2.1; clear ho hb)
  clear hc1
  go_loopw [3, 10] (fun v3 v10 wr => ∃ k : Nat, v10 = .int .i64 (k : Int) ∧ Aside0 (k ≤ t.size) ∧ Aside0 (Kd.R (Kd.int .i64) 3 wr (w.heap.size + 1) (fun _ => True) v3 (tab k (ndOf s t L))) ∧ Aside0 (Below (w.heap.size + 1) (w.alloc (box s t (L : Int))) wr)) (fun _ v10 _ => t.size - (intOf v10).toNat)
  case atStart => exact ⟨0, rfl, ⟨Nat.zero_le _⟩, HR, HB⟩
  case round =>
    clear HR HB
    obtain ⟨k, rfl, HK, HR, HB⟩ := hrel
    by_cases hk : k < t.size
    · have hk1 := decide_eq_true hk
      have HKK := Aside0.mk hk
      have hw : wrap64 ((k : Int) + 1) = ((k + 1 : Nat) : Int) := w_id (by omega) (by have := HT.out; omega)
      have CK := Aside0.mk (fun W => CE.out k W (by have := HT.out; omega))
      obtain ⟨x, hx⟩ : ∃ x, endOf s t L k = x := ⟨_, rfl⟩
      have hxb := end_lt s t L k HT.out.1.2 HT.out.2.2 (by have := HT.out; omega)
      rw [hx] at CK hxb
      obtain ⟨y, hy⟩ : ∃ y, tab k (ndOf s t L) = y := ⟨_, rfl⟩
      have hyl : y.length = k := by rw [← hy, tab_len]
      have hyn := tab_snoc k (ndOf s t L)
      rw [hy] at HR hyn
      have HYL := Aside0.mk hyl
      obtain ⟨hc0, hc1, hc2⟩ := boxed HB.out
      clear hy hyl hk
      by_cases hx0 : x < 0
      · have hx1 := decide_eq_false (show ¬ (0 : Int) ≤ x by omega)
        have hnd : ndOf s t L k = x := by unfold ndOf; rw [hx, if_pos hx0]
        rw [hnd] at hyn
        have HYN := Aside0.mk hyn
        clear hx hnd hyn hx0 hxb
        go_wp2_with fail
        refine (CK.out _).mono ?_
        rintro e w2 ⟨rfl, hb⟩
        clear hc0 hc1 hc2
        replace HR := Aside0.mk (Kd.R_below HR.out hb)
        replace HB := Aside0.mk (boxed_then HB.out hb)
        clear hb
        go_wp2_with ((with_reducible refine gate_builtin (b := .append) (xs := #[.tmp 21, .tmp 23]) rfl ?_); at_builtin; refine Kd.R_append (Kd.int .i64) (w0 := w.alloc (box s t (L : Int))) (w.heap.size + 1) rfl (.tmp 21) (.tmp 23) 25 3 (.int .i64 0) 8 rfl Tryd.underlying25 info3 rfl (by decide) (by omega) u3 (y) (x) [.int .i64 (x)] (fun _ => True) (fun _ => False) rfl rfl ?aP (fun _ hk => hk.elim) ?aF ?aO ?aB ?aS ?aL ?_; (case aP => exact rfl); (case aB => exact HB.out); (case aF => exact (fun _ _ => trivial)); (case aO => exact HR.out); (case aS => exact boxed_size HB.out); (case aL => have := HYL.out; have := HT.out; have := HKK.out; omega); intro v_n w_n ho hb hg hat; rw [HYN.out] at ho; have n1_ := Aside0.mk hb; have n2_ := Aside0.mk ho; clear HR HB; have HB := n1_; have HR := n2_; clear n1_ n2_; clear ho hb hg hat)
        go_roundw
        case rel => exact ⟨k + 1, by first | rfl | rw [hw], ⟨by have := HKK.out; omega⟩, HR, HB⟩
        case measure => (try rw [hw]); have := HKK.out; simp [intOf]; omega
      · have hx1 := decide_eq_true (show (0 : Int) ≤ x by omega)
        have hws : wrap64 (x - (k : Int)) = x - (k : Int) := w_id (by have := HT.out; have := HKK.out; omega) (by have := HT.out; have := HKK.out; omega)
        have hnd : ndOf s t L k = x - (k : Int) := by unfold ndOf; rw [hx, if_neg hx0]
        rw [hnd] at hyn
        have HYN := Aside0.mk hyn
        clear hx hnd hyn hx0 hxb
        go_wp2_with fail
        refine (CK.out _).mono ?_
        rintro e w2 ⟨rfl, hb⟩
        clear hc0 hc1 hc2
        replace HR := Aside0.mk (Kd.R_below HR.out hb)
        replace HB := Aside0.mk (boxed_then HB.out hb)
        clear hb
        go_wp2_with ((with_reducible refine gate_builtin (b := .append) (xs := #[.tmp 21, .tmp 23]) rfl ?_); at_builtin; refine Kd.R_append (Kd.int .i64) (w0 := w.alloc (box s t (L : Int))) (w.heap.size + 1) rfl (.tmp 21) (.tmp 23) 25 3 (.int .i64 0) 8 rfl Tryd.underlying25 info3 rfl (by decide) (by omega) u3 (y) (x - (k : Int)) [.int .i64 (x - (k : Int))] (fun _ => True) (fun _ => False) rfl rfl ?aP (fun _ hk => hk.elim) ?aF ?aO ?aB ?aS ?aL ?_; (case aP => exact rfl); (case aB => exact HB.out); (case aF => exact (fun _ _ => trivial)); (case aO => exact HR.out); (case aS => exact boxed_size HB.out); (case aL => have := HYL.out; have := HT.out; have := HKK.out; omega); intro v_n w_n ho hb hg hat; rw [HYN.out] at ho; have n1_ := Aside0.mk hb; have n2_ := Aside0.mk ho; clear HR HB; have HB := n1_; have HR := n2_; clear n1_ n2_; clear ho hb hg hat)
        go_roundw
        case rel => exact ⟨k + 1, by first | rfl | rw [hw], ⟨by have := HKK.out; omega⟩, HR, HB⟩
        case measure => (try rw [hw]); have := HKK.out; simp [intOf]; omega
    · have hk1 := decide_eq_false hk
      have hke : k = t.size := by have := HK.out; omega
      rw [hke] at HR
      clear hk hke
      go_wp2_with fail
      go_ret
      exact ⟨_, rfl, Kd.R_lower HR.out (by omega), boxed_from HB.out⟩
end Go.Proofs.YteijbohbdhemoaaDoor.Nd
