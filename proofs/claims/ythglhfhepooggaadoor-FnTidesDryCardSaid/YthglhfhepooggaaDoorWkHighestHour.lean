/- impl.HighestHour at this program: the greatest digit of a tide and its first hour. Condition: the text lies within the reach. -/
import Derived.Test.YthglhfhepooggaaDoorWkMirrorShore
import Derived.Test.YthglhfhepooggaaDoorPFnExactHighestHourx0
import Derived.Test.YthglhfhepooggaaDoorShelfIdx
namespace Go.Proofs.YthglhfhepooggaaDoor.WkHighestHour
set_option linter.unusedVariables false
set_option linter.unusedSimpArgs false
open Go.Sort
open Go.RowKit Go.Proofs.YthglhfhepooggaaDoorW.PrintWords Go.Proofs.YthglhfhepooggaaDoorW.PrintLast Go.Proofs.YthglhfhepooggaaDoorW.PrintMore Sh WkMirrorShore
attribute [local go_sem] max2_int min2_int max_two min_two

/-- The byte at a place, as a number. -/
def at_ (l : List UInt8) (i : Nat) : Nat := (l.getD i 0).toNat
/-- The first place of the greatest of the first i + 1 bytes. -/
def best (l : List UInt8) : Nat → Nat
  | 0 => 0
  | i + 1 => if at_ l (best l i) < at_ l (i + 1) then i + 1 else best l i
theorem at_lt (l : List UInt8) (i : Nat) : at_ l i < 256 := (l.getD i 0).toNat_lt

set_option maxHeartbeats 2000000 in
set_option maxRecDepth 100000 in
theorem maxed (l : List UInt8) (g cap n : Nat) (w : World) (hn : 1 ≤ n) (hl : n = l.length) (hs : n ≤ 14) (h : ∀ j, j < n → w.cell? ⟨g, j, none⟩ = some (.int .u8 (at_ l j : Nat))) :
    Calls Tryd.prog 59 #[.slice (some ⟨g, 0, none⟩) n cap] w fun e w' => e = .returned (.int .u8 (at_ l (best l (n - 1)) : Nat)) ∧ w' = w := by
  have H := Aside0.mk h
  have h0 := h 0 (by omega)
  have hn2 : n ≤ 9223372036854775807 := by omega
  clear h hl
  go_enter Tryd.func59, Tryd.ntmps59
  go_wp2
  clear h0
  go_loop [3, 4] (fun m i => ∃ k x : Nat, k + 1 ≤ n ∧ x < 256 ∧ i = .int .i64 ((k : Int) + 1) ∧ m = .int .u8 (x : Int) ∧ Aside0 (x = at_ l (best l k))) (fun _ i => n - (intOf i).toNat)
  case atStart => exact ⟨0, at_ l 0, by omega, at_lt l 0, rfl, rfl, ⟨rfl⟩⟩
  case round =>
    obtain ⟨k, x, hk, hx, rfl, rfl, HX⟩ := hrel
    by_cases hlt : k + 1 < n
    · have hc := H.out (k + 1) hlt
      have hy := at_lt l (k + 1)
      obtain ⟨y, ey⟩ : ∃ y, y = at_ l (k + 1) := ⟨_, rfl⟩
      rw [← ey] at hc hy
      have EY := Aside0.mk ey
      clear ey
      by_cases hxy : x < y
      · go_wp2
        go_round
        case rel => exact ⟨k + 1, y, by omega, hy, by go_num, by first | rfl | (simp; omega) | trace_state, ⟨by simp only [best]; rw [← HX.out, ← EY.out, if_pos hxy, EY.out]⟩⟩
        case measure => simp [intOf]; omega
      · go_wp2
        go_round
        case rel => exact ⟨k + 1, x, by omega, hx, by go_num, by first | rfl | (simp; omega) | trace_state, ⟨by simp only [best]; rw [← HX.out, ← EY.out, if_neg hxy, HX.out]⟩⟩
        case measure => simp [intOf]; omega
    · have HK : Aside0 (n - 1 = k) := ⟨by omega⟩
      go_wp2
      go_ret
      exact ⟨by rw [HK.out, ← HX.out]; rfl, rfl⟩

theorem best_le (l : List UInt8) : ∀ i, best l i ≤ i
  | 0 => Nat.le_refl _
  | i + 1 => by have := best_le l i; simp only [best]; split <;> omega
theorem best_max (l : List UInt8) : ∀ i j, j ≤ i → at_ l j ≤ at_ l (best l i)
  | 0, j, h => by obtain rfl : j = 0 := by omega
                  exact Nat.le_refl _
  | i + 1, j, h => by
    have ih := best_max l i
    simp only [best]
    split
    · next hc =>
      rcases Nat.eq_or_lt_of_le h with rfl | h2
      · exact Nat.le_refl _
      · have := ih j (by omega); omega
    · next hc =>
      rcases Nat.eq_or_lt_of_le h with rfl | h2
      · omega
      · exact ih j (by omega)
theorem best_first (l : List UInt8) : ∀ i j, j < best l i → at_ l j < at_ l (best l i)
  | 0, j, h => by simp [best] at h
  | i + 1, j, h => by
    have ih := best_first l i
    simp only [best] at h ⊢
    split at h
    · next hc =>
      rw [if_pos hc]
      have := best_max l i j (by omega); omega
    · next hc =>
      rw [if_neg hc]
      exact ih j h
theorem index_first : ∀ (l : List UInt8) (b : Nat), b < l.length → (∀ j, j < b → at_ l j ≠ at_ l b) → Lib.indexByte l (l.getD b 0) = (b : Int)
  | [], b, h, _ => by simp at h
  | x :: l, 0, _, _ => by simp [Lib.indexByte]
  | x :: l, b + 1, h, hf => by
    have ih := index_first l b (by simpa using h) (fun j hj => by have := hf (j + 1) (by omega); simpa [at_] using this)
    have hx : x ≠ l.getD b 0 := fun e => hf 0 (by omega) (by simp [at_, e])
    simp only [Lib.indexByte, List.getD_cons_succ]
    rw [if_neg (by simpa using hx), ih, if_neg (by simp)]
    omega
theorem dig_at {s : ByteArray} (h : digs s = true) (i : Nat) (hi : i < s.size) : 48 ≤ at_ s.data.toList i ∧ at_ s.data.toList i ≤ 57 := by
  have h2 : i < s.data.toList.length := by rw [size_list]; exact hi
  have := List.all_eq_true.mp h (s.data.toList[i]) (List.getElem_mem _)
  unfold isDig at this
  simp only [Bool.and_eq_true, decide_eq_true_eq] at this
  unfold at_
  rw [List.getD_eq_getElem?_getD, List.getElem?_eq_getElem h2]
  exact this
def val (s : ByteArray) : Int × Int × Bool := if okTide s = true then ((at_ s.data.toList (best s.data.toList (s.size - 1)) : Int) - 48, (best s.data.toList (s.size - 1) : Int), true) else (0, 0, false)

set_option maxHeartbeats 2000000 in
set_option maxRecDepth 100000 in
theorem impl (s : ByteArray) (w : World) (hs : s.size ≤ 140737488351232) : Calls Tryd.prog 26 #[.string s] w fun e w' => e = .returned (.tuple #[.int .i64 (val s).1, .int .i64 (val s).2.1, .bool (val s).2.2]) ∧ Below w.heap.size w w' := by
  have c1 := isTide s w hs
  unfold val
  cases h1 : okTide s with
  | false =>
    rw [h1] at c1
    rw [if_neg (by simp)]
    clear h1
    go_enter Tryd.func26, Tryd.ntmps26
    go_wp2_with fail
    refine c1.mono ?_
    clear c1
    rintro e w1 ⟨rfl, hb⟩
    have HB := Aside0.mk hb
    clear hb
    go_wp2_with fail
    go_ret3
    exact ⟨rfl, HB.out⟩
  | true =>
    have hz := okTide_size h1
    have hd : digs s = true := by unfold okTide at h1; simp only [Bool.and_eq_true] at h1; exact h1.2
    rw [h1] at c1
    rw [if_pos rfl]
    have hlen : s.data.toList.length = s.size := size_list s
    have hbl := best_le s.data.toList (s.size - 1)
    have hdg := dig_at hd (best s.data.toList (s.size - 1)) (by omega)
    have hix := index_first s.data.toList (best s.data.toList (s.size - 1)) (by omega) (fun j hj => Nat.ne_of_lt (best_first _ _ j hj))
    have CM := Aside0.mk (fun (W : World) (cap : Nat) => maxed s.data.toList W.heap.size cap s.size (Lib.bytesWorld W 5 s) hz.1 hlen.symm (by omega) (fun j hj => by rw [Lib.bytesWorld_cell W 5 s j hj]; rfl))
    have eI : (((at_ s.data.toList (best s.data.toList (s.size - 1)) : Nat) : Int)).toNat.toUInt8 = s.data.toList.getD (best s.data.toList (s.size - 1)) 0 := by
      rw [Int.toNat_natCast]; unfold at_; simp
    have CI := Aside0.mk (fun (W : World) => Any.strings_IndexByte Tryd.lays137 s ((at_ s.data.toList (best s.data.toList (s.size - 1)) : Nat) : Int) W)
    rw [eI, hix] at CI
    have hsz1 := hz.1
    have hsz2 := hz.2
    have hs2 : s.size ≤ 9223372036854775807 := by omega
    clear h1 hz hlen eI hix hd
    generalize at_ s.data.toList (best s.data.toList (s.size - 1)) = x at CM CI hdg ⊢
    generalize best s.data.toList (s.size - 1) = b at CI hbl ⊢
    have hx1 : 48 ≤ x := hdg.1
    have hx2 : x ≤ 57 := hdg.2
    have hconv := fun (w : World) (s : ByteArray) => Lib.run_convert_string_bytes (P := Tryd.prog) w 9 40 5 s Tryd.underlying9 Tryd.underlying40 Tryd.underlying5
    clear hdg hbl
    go_enter Tryd.func26, Tryd.ntmps26
    go_wp2_with fail
    refine c1.mono ?_
    clear c1
    rintro e w1 ⟨rfl, hb⟩
    have HB := Aside0.mk hb
    clear hb
    go_wp2_with fail
    refine (CM.out _ _).mono ?_
    clear hconv
    rintro e w2 ⟨rfl, rfl⟩
    have HB2 := Aside0.mk (HB.out.trans ((below_bytes w1 s).mono HB.out.size))
    generalize Lib.bytesWorld w1 5 s = w2 at HB2 ⊢
    go_wp2_with fail
    refine (CI.out _).mono ?_
    rintro e w3 ⟨rfl, rfl⟩
    go_wp2_with fail
    go_ret3
    exact ⟨by first | rfl | (simp; omega) | trace_state, HB2.out⟩
end Go.Proofs.YthglhfhepooggaaDoor.WkHighestHour
