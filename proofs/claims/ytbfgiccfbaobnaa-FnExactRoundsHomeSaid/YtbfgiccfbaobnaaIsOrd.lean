/- impl.IsOrder at this program answers whether the sorted numbers are 1, 2, .. and 1 to 8 many; nothing that lay before the call is turned. Condition: the slice is no longer than 2^20. -/
import Derived.Test.YtbfgiccfbaobnaaSeq
import Derived.Test.YtbfgiccfbaobnaaOrd
import Derived.Shelf.SortM.Plain
import Derived.Shelf.SortM.SortNone
import Derived.Lib.SlKeysI
import Derived.Test.YtbfgiccfbaobnaaShelf
import Derived.Test.YtbfgiccfbaobnaaPFnExactIsOrderx0
namespace Go.Proofs.Ytbfgiccfbaobnaa.Seq
set_option linter.unusedVariables false
set_option linter.unusedSimpArgs false
open Go.RowKit Go.Shelf Go.Sort Go.Proofs.YtbfgiccfbaobnaaW.PrintWords Go.Proofs.YtbfgiccfbaobnaaW.PrintLast Go.Proofs.YtbfgiccfbaobnaaW.PrintMore

set_option maxHeartbeats 1000000 in
/-- slices.Sorted(slices.Values(s)). -/
theorem sorted_in (Bv : Nat) (sv : Value) (zs : List Int) (hlen : zs.length ≤ 1048576) (w : World) (hBv : Bv < w.heap.size)
    (hcv : w.cell? ⟨Bv, 0, none⟩ = some sv) (hI : Ints w.heap.size w sv zs) :
    CallsIn Fence.wide 5 Try.prog 32 #[.func (.func 51) #[] #[.pointer (some ⟨Bv, 0, none⟩)]] w fun e W' => ∃ v, e = .returned v ∧ W'.ownsRow w.heap.size 3 1 v zs.length ((zs.mergeSort fun x y => decide (x ≤ y)).map (Value.int .i64)) ∧ (v = .slice none 0 0 ↔ zs = []) ∧ Below w.heap.size w W' := by
  have h1 : 1 ≤ 5 := by omega
  have cC := collect_in Fence.wide 4 trivial trivial trivial rfl (by omega) Bv sv zs (by unfold maxLen; omega) (by omega) w hBv hcv hI
  have hf49 : Fence.wide.fn 49 := trivial
  have hf50 : Fence.wide.fn 50 := trivial
  refine callsIn_of_wp Try.func32 rfl trivial ?_ rfl
  simp only [Try.ntmps32, List.size_toArray, List.length_cons, List.length_nil, Nat.reduceAdd, Nat.reduceSub, Array.replicate_succ, Array.replicate_zero, List.push_toArray, List.append_toArray, List.nil_append, List.cons_append]
  gi_wp2_with (gi_at_call 49; refine cC.mono ?_; clear cC hI; rintro e W ⟨v, rfl, hrow, hnil, hb⟩)
  rcases hrow.2 with ⟨rfl, hz⟩ | ⟨gb, cap, cur, rfl, hbase, hgb, r1, r2, r3, r4⟩
  · have hss : zs = [] := List.eq_nil_of_length_eq_zero hz
    subst hss
    have cS := callsIn_wide (n := 4).2 (AnyM.slices_Sort_int_none Try.lays5 none 0 W)
    change CallsIn _ _ Try.prog 50 _ _ _ at cS
    gi_wp2_with (gi_at_call 50; refine cS.mono ?_; rintro e w' ⟨rfl, rfl⟩)
    go_ret
    exact ⟨.slice none 0 0, rfl, by simpa using hrow, by simp, hb⟩
  · have hH : Holds encZ W gb 0 zs.toArray := holds_of_block_i hgb (by simpa using r4)
    have hgl : gb < W.heap.size := (Array.getElem?_eq_some_iff.1 hgb).1
    have cS := callsIn_wide (n := 4).2 (AnyM.slices_Sort_int Try.lays5 gb 0 cap zs W hH hgl (by omega))
    change CallsIn _ _ Try.prog 50 _ _ _ at cS
    clear hH
    gi_wp2_with (gi_at_call 50; refine cS.mono ?_; rintro e w' ⟨rfl, nn, os, rfl⟩)
    go_ret
    exact ⟨_, rfl, ownsRow_sorted_i (by simp) hbase hgb r1 r2 r3, hnil, hb.grown (grownBy_sorted_i _) hb.size (fun j hj => by cases hj; exact hbase)⟩
theorem sorted_calls (Bv : Nat) (sv : Value) (zs : List Int) (hlen : zs.length ≤ 1048576) (w : World) (hBv : Bv < w.heap.size)
    (hcv : w.cell? ⟨Bv, 0, none⟩ = some sv) (hI : Ints w.heap.size w sv zs) :
    Calls Try.prog 32 #[.func (.func 51) #[] #[.pointer (some ⟨Bv, 0, none⟩)]] w fun e W' => ∃ v, e = .returned v ∧ W'.ownsRow w.heap.size 3 1 v zs.length ((zs.mergeSort fun x y => decide (x ≤ y)).map (Value.int .i64)) ∧ Below w.heap.size w W' :=
  (callsIn_wide (n := 5)).1 ((sorted_in Bv sv zs hlen w hBv hcv hI).mono fun e W' ⟨v, h1, h2, _, h4⟩ => ⟨v, h1, h2, h4⟩)

theorem values_calls (a : Option Addr) (len cap : Nat) (w : World) :
    Calls Try.prog 33 #[.slice a len cap] w fun e w' => e = .returned (.func (.func 51) #[] #[.pointer (some ⟨w.heap.size, 0, none⟩)]) ∧ w' = w.alloc (.cells #[.slice a len cap] 22) :=
  (callsIn_wide (n := 1)).1 (values_in Fence.wide 1 trivial rfl a len cap w)

theorem ints_of_C {w : World} {A : Option Addr} {c : Nat} {l : List Int} (h : Kd.C (Kd.int .i64) w A l.length l) : Ints w.heap.size w (.slice A l.length c) l := by
  have hR := Kd.reads_of_C (d := (0 : Int)) h
  cases l with
  | nil => exact .inl ⟨A, c, rfl, rfl⟩
  | cons x t =>
    obtain ⟨ad, e, hc⟩ := hR.2.2 (by simp)
    have hs : ad.spot = none := by
      have := hc 0 (by simp)
      unfold World.cell? at this
      cases hsp : ad.spot with
      | none => rfl
      | some k => simp [Addr.add, hsp] at this; split at this <;> simp at this
    obtain ⟨b, off, sp⟩ := ad
    simp at hs
    subst hs
    have hb := World.block_lt_of_cell? _ _ (hc 0 (by simp))
    refine .inr ⟨b, off, c, by rw [e], hb, fun j hj => ?_⟩
    have := hc j hj
    have e2 : (⟨b, off, none⟩ : Addr).add j = ⟨b, off + j, none⟩ := by
      unfold Addr.add
      split <;> simp_all
    rw [e2] at this
    simpa [List.getD_eq_getElem?_getD] using this

theorem Ints.mono {n m : Nat} {W : World} {sv : Value} {zs : List Int} (h : Ints n W sv zs) (hn : n ≤ m) : Ints m W sv zs := by
  rcases h with h | ⟨b, off, cap, e, hb, hc⟩
  · exact .inl h
  · exact .inr ⟨b, off, cap, e, by omega, hc⟩

theorem row_shape {W : World} {base : Nat} {v : Value} {s : List Int} {n : Nat} (hn : s.length = n) (h : W.ownsRow base 3 1 v n (s.map (Value.int .i64))) :
    ∃ A c, v = .slice A n c ∧ Kd.C (Kd.int .i64) W A s.length s := by
  subst hn
  have hR : Kd.R (Kd.int .i64) 3 W base (fun _ => True) v s := Kd.R_of_own h (fun _ _ => trivial)
  obtain ⟨A, c, rfl⟩ := Kd.R_slice hR
  exact ⟨A, c, rfl, (Kd.R_reads' hR).2.2⟩

/-- The loop's pure side: the first k are 1, .., k. -/
def Pre (s : List Int) (k : Nat) : Prop := ∀ j, j < k → s[j]? = some ((j : Int) + 1)
theorem Pre.succ {s : List Int} {k : Nat} (h : Pre s k) (e : s[k]? = some ((k : Int) + 1)) : Pre s (k + 1) := by
  intro j hj
  rcases Nat.lt_or_ge j k with h1 | h1
  · exact h j h1
  · obtain rfl : j = k := by omega
    exact e
theorem Pre.all {s : List Int} (h : Pre s s.length) : s = Ord.upto s.length := by
  apply List.ext_getElem?
  intro j
  rcases Nat.lt_or_ge j s.length with h1 | h1
  · rw [h j h1]; simp [Ord.upto, h1]
  · rw [List.getElem?_eq_none h1, List.getElem?_eq_none (by simp [Ord.upto]; exact h1)]
theorem ord_yes {l : List Int} (h : Pre (l.mergeSort fun x y => decide (x ≤ y)) l.length) (b : Bool) (hb : b = (decide ((1 : Int) ≤ l.length) && decide ((l.length : Int) ≤ 8))) : Ord.ord l = b := by
  have e : (l.mergeSort fun x y => decide (x ≤ y)) = Ord.upto l.length := by
    have := Pre.all (s := l.mergeSort fun x y => decide (x ≤ y)) (by simpa using h)
    rw [List.length_mergeSort] at this
    exact this
  unfold Ord.ord
  rw [decide_eq_true e, Bool.and_true, hb, show decide (1 ≤ l.length) = decide ((1 : Int) ≤ l.length) from decide_eq_decide.mpr (by omega), show decide (l.length ≤ 8) = decide ((l.length : Int) ≤ 8) from decide_eq_decide.mpr (by omega)]
theorem ord_no {l : List Int} {k : Nat} {x : Int} (hk : (l.mergeSort fun x y => decide (x ≤ y))[k]? = some x) (hx : x ≠ (k : Int) + 1) : Ord.ord l = false := by
  unfold Ord.ord
  rw [Bool.and_eq_false_iff]
  refine .inr (decide_eq_false fun e => ?_)
  rw [e] at hk
  obtain ⟨hlt, h2⟩ := List.getElem?_eq_some_iff.mp hk
  simp [Ord.upto] at h2
  exact hx h2.symm

set_option maxHeartbeats 2000000 in
set_option maxRecDepth 100000 in
theorem isOrder (A : Option Addr) (c : Nat) (l : List Int) (w : World) (hr : Kd.C (Kd.int .i64) w A l.length l) (hl : l.length ≤ 1048576) :
    Calls Try.prog 13 #[.slice A l.length c] w fun e w' => e = .returned (.bool (Ord.ord l)) ∧ Below w.heap.size w w' := by
  have hI := ints_of_C (c := c) hr
  have hB0 : Below w.heap.size w (w.alloc (.cells #[.slice A l.length c] 22)) := (Below.refl _ w).alloc (Nat.le_refl _) _
  have cS := sorted_calls w.heap.size (.slice A l.length c) l hl (w.alloc (.cells #[.slice A l.length c] 22)) (by simp) (Boxed.new w 22 _).cell ((hI.below hB0).mono (by simp))
  clear hI
  go_enter Try.func13, Try.ntmps13
  go_wp2_with (first
    | (go_at_call 33; refine (values_calls _ _ _ _).mono ?_; rintro e w' ⟨rfl, rfl⟩)
    | (go_at_call 32; refine cS.mono ?_; clear cS; rintro e w1 ⟨v, rfl, hrow, hb⟩; obtain ⟨A1, c1, rfl, hC⟩ := row_shape (by simp) hrow; clear hrow; have HB := Aside0.mk (hB0.trans (hb.mono (by simp))); clear hb; have HC := Aside0.mk hC; clear hC))
  have hl2 : l.length ≤ 9223372036854775807 := by omega
  have HO : Aside0 (∀ k : Nat, Pre (l.mergeSort fun x y => decide (x ≤ y)) k → k = l.length → ∀ b, b = (decide ((1 : Int) ≤ l.length) && decide ((l.length : Int) ≤ 8)) → Ord.ord l = b) := ⟨fun k h e b hb => ord_yes (e ▸ h) b hb⟩
  have HN : Aside0 (∀ (k : Nat) (x : Int), (l.mergeSort fun x y => decide (x ≤ y))[k]? = some x → x ≠ (k : Int) + 1 → Ord.ord l = false) := ⟨fun k x h1 h2 => ord_no h1 h2⟩
  have HL : Aside0 ((l.mergeSort fun x y => decide (x ≤ y)).length = l.length) := ⟨by simp⟩
  generalize (l.mergeSort fun x y => decide (x ≤ y)) = s at HC HO HN HL
  go_loop [9] (fun i => ∃ k : Nat, k ≤ l.length ∧ i = .int .i64 k ∧ Aside0 (Pre s k)) (fun i => l.length - (intOf i).toNat)
  case atStart => exact ⟨0, Nat.zero_le _, rfl, ⟨fun j hj => absurd hj (by omega)⟩⟩
  case round =>
    obtain ⟨k, hk, rfl, HP⟩ := hrel
    by_cases hlt : k < l.length
    · have hks : k < s.length := by rw [HL.out]; exact hlt
      obtain ⟨ad, e, hx⟩ := Kd.at_int HC.out (k : Int) (by omega) (by omega)
      subst e
      have hsk : s[k]? = some (rd s (k : Int)) := by
        have h2 : rd s (k : Int) = s.getD k 0 := rfl
        rw [h2, List.getD_eq_getElem?_getD, List.getElem?_eq_getElem hks]
        rfl
      have HS := Aside0.mk hsk
      clear hsk hks
      rw [Int.toNat_natCast] at hx
      generalize rd s (k : Int) = x at hx HS
      by_cases he : x = (k : Int) + 1
      · have h3 : (x != (k : Int) + 1) = false := by simpa using he
        have HE := Aside0.mk he
        clear he
        go_wp2
        go_round
        case rel => exact ⟨k + 1, by omega, by go_num, ⟨HP.out.succ (by rw [← HE.out]; exact HS.out)⟩⟩
        case measure => simp [intOf]; omega
      · have h3 : (x != (k : Int) + 1) = true := by simpa using he
        have HE := Aside0.mk he
        clear he
        go_wp2
        go_ret
        exact ⟨by rw [HN.out k x HS.out HE.out]; rfl, HB.out⟩
    · have HK : Aside0 (k = l.length) := ⟨by omega⟩
      go_wp2_with (go_in)
      · have h1 : (1 : Int) ≤ (l.length : Int) := by assumption
        go_ret
        exact ⟨by rw [HO.out k HP.out HK.out (decide ((l.length : Int) ≤ 8)) (by rw [decide_eq_true h1, Bool.true_and])]; rfl, HB.out⟩
      · have h1 : (l.length : Int) < 1 := by assumption
        go_ret
        exact ⟨by rw [HO.out k HP.out HK.out false (by rw [decide_eq_false (by omega), Bool.false_and])]; rfl, HB.out⟩
end Go.Proofs.Ytbfgiccfbaobnaa.Seq
