/- impl.IsShore, IsTide, areShore at this program: whether a text has digits alone, so many; nothing that lay before is turned. Condition: the texts lie within the reach. -/
import Derived.Test.YteijbohbdhemoaaDoorDig
import Derived.Test.YteijbohbdhemoaaDoorShelfTrim
namespace Go.Proofs.YteijbohbdhemoaaDoor.Sh
open Go.RowKit Go.Proofs.YteijbohbdhemoaaDoorW.PrintWords Go.Proofs.YteijbohbdhemoaaDoorW.PrintLast Go.Proofs.YteijbohbdhemoaaDoorW.PrintMore
set_option linter.unusedVariables false
set_option linter.unusedSimpArgs false
theorem within_any (a lo hi : Int) (w : World) : Calls Tryd.prog 42 #[.int .i64 a, .int .i64 lo, .int .i64 hi] w fun e w' => e = .returned (.bool (decide (lo ≤ a ∧ a ≤ hi))) ∧ w' = w := by
  by_cases h1 : lo ≤ a
  · by_cases h2 : a ≤ hi
    · rw [decide_eq_true ⟨h1, h2⟩]
      go_enter Tryd.func42, Tryd.ntmps42
      go_wp2
      go_ret
      exact ⟨rfl, rfl⟩
    · rw [decide_eq_false (fun h => h2 h.2)]
      have h3 : hi < a := by omega
      clear h2
      go_enter Tryd.func42, Tryd.ntmps42
      go_wp2
      go_ret
      exact ⟨by first | rfl | (simp; omega), rfl⟩
  · rw [decide_eq_false (fun h => h1 h.1)]
    have h3 : a < lo := by omega
    clear h1
    go_enter Tryd.func42, Tryd.ntmps42
    go_wp2
    go_ret
    exact ⟨rfl, rfl⟩
theorem trimmed (s : ByteArray) (w : World) (h : s.size ≤ 9223372036854775807) : Calls Tryd.prog 57 #[.string s, .string ⟨#[48, 49, 50, 51, 52, 53, 54, 55, 56, 57]⟩] w fun e w' => ∃ t : ByteArray, e = .returned (.string t) ∧ (t.toList = [] ↔ digs s = true) ∧ Below w.heap.size w w' :=
  (Any.strings_Trim_laid Tryd.lays160 (by kernel_rfl) s ⟨#[48, 49, 50, 51, 52, 53, 54, 55, 56, 57]⟩ w h (by decide) (fun j b hj => of_decide_eq_true (List.all_eq_true.mp (show ([48, 49, 50, 51, 52, 53, 54, 55, 56, 57] : List UInt8).all (fun b => decide (b.toNat < 128)) = true by decide) b (List.mem_of_getElem? hj)))).mono fun e w' ⟨he, hb⟩ => ⟨_, he, trim_digs s, hb⟩

set_option maxHeartbeats 2000000 in
set_option maxRecDepth 100000 in
theorem isShore (s : ByteArray) (w : World) (hs : s.size ≤ 140737488351232) : Calls Tryd.prog 54 #[.string s] w fun e w' => e = .returned (.bool (okShore s)) ∧ Below w.heap.size w w' := by
  have hs2 : s.size ≤ 9223372036854775807 := by omega
  by_cases hin : 1 ≤ (s.size : Int) ∧ (s.size : Int) ≤ 14
  · have h1 : (1 : Int) ≤ (s.size : Int) := hin.1
    have h2 : (s.size : Int) ≤ 14 := hin.2
    have e1 : okShore s = digs s := by unfold okShore; rw [decide_eq_true hin, Bool.true_and]
    rw [e1]
    clear hin e1
    cases hd : digs s with
    | true =>
      have cT := trimmed s w hs2
      rw [hd] at cT
      have CT := Aside0.mk cT
      clear cT
      go_enter Tryd.func54, Tryd.ntmps54
      go_wp2_with (first
        | (go_at_call 42; refine (within_any _ _ _ _).mono ?_; rintro e w' ⟨rfl, rfl⟩)
        | (go_at_call 57; refine CT.out.mono ?_; rintro e w1 ⟨t, rfl, ht, hb⟩; have HB := Aside0.mk hb; have HT := Aside0.mk ht; clear hb ht; have ht1 : t.toList = [] := (by first | exact HT.out.mpr rfl | exact HT.out.mpr trivial)))
      go_ret
      exact ⟨rfl, HB.out⟩
    | false =>
      have cT := trimmed s w hs2
      rw [hd] at cT
      have CT := Aside0.mk cT
      clear cT
      go_enter Tryd.func54, Tryd.ntmps54
      go_wp2_with (first
        | (go_at_call 42; refine (within_any _ _ _ _).mono ?_; rintro e w' ⟨rfl, rfl⟩)
        | (go_at_call 57; refine CT.out.mono ?_; rintro e w1 ⟨t, rfl, ht, hb⟩; have HB := Aside0.mk hb; have HT := Aside0.mk ht; clear hb ht; have ht1 : ¬ (t.toList = []) := fun h => by (have := HT.out.mp h; cases this)))
      go_ret
      exact ⟨by first | rfl | (simp [ht1]; done), HB.out⟩
  · have e1 : okShore s = false := by unfold okShore; rw [decide_eq_false hin, Bool.false_and]
    rw [e1]
    have h3 : ((s.size : Int) < 1) ∨ (14 < (s.size : Int)) := by omega
    clear e1 hin
    rcases h3 with h3 | h3
    all_goals
      go_enter Tryd.func54, Tryd.ntmps54
      go_wp2_with (go_at_call 42; refine (within_any _ _ _ _).mono ?_; rintro e w' ⟨rfl, rfl⟩)
      go_ret
      exact ⟨by first | rfl | (simp; omega), Below.refl _ _⟩

set_option maxHeartbeats 2000000 in
set_option maxRecDepth 100000 in
theorem isTide (s : ByteArray) (w : World) (hs : s.size ≤ 140737488351232) : Calls Tryd.prog 55 #[.string s] w fun e w' => e = .returned (.bool (okTide s)) ∧ Below w.heap.size w w' := by
  have hs2 : s.size ≤ 9223372036854775807 := by omega
  by_cases hin : 1 ≤ (s.size : Int) ∧ (s.size : Int) ≤ 12
  · have h1 : (1 : Int) ≤ (s.size : Int) := hin.1
    have h2 : (s.size : Int) ≤ 12 := hin.2
    have e1 : okTide s = digs s := by unfold okTide; rw [decide_eq_true hin, Bool.true_and]
    rw [e1]
    clear hin e1
    cases hd : digs s with
    | true =>
      have cT := trimmed s w hs2
      rw [hd] at cT
      have CT := Aside0.mk cT
      clear cT
      go_enter Tryd.func55, Tryd.ntmps55
      go_wp2_with (first
        | (go_at_call 42; refine (within_any _ _ _ _).mono ?_; rintro e w' ⟨rfl, rfl⟩)
        | (go_at_call 57; refine CT.out.mono ?_; rintro e w1 ⟨t, rfl, ht, hb⟩; have HB := Aside0.mk hb; have HT := Aside0.mk ht; clear hb ht; have ht1 : t.toList = [] := (by first | exact HT.out.mpr rfl | exact HT.out.mpr trivial)))
      go_ret
      exact ⟨rfl, HB.out⟩
    | false =>
      have cT := trimmed s w hs2
      rw [hd] at cT
      have CT := Aside0.mk cT
      clear cT
      go_enter Tryd.func55, Tryd.ntmps55
      go_wp2_with (first
        | (go_at_call 42; refine (within_any _ _ _ _).mono ?_; rintro e w' ⟨rfl, rfl⟩)
        | (go_at_call 57; refine CT.out.mono ?_; rintro e w1 ⟨t, rfl, ht, hb⟩; have HB := Aside0.mk hb; have HT := Aside0.mk ht; clear hb ht; have ht1 : ¬ (t.toList = []) := fun h => by (have := HT.out.mp h; cases this)))
      go_ret
      exact ⟨by first | rfl | (simp [ht1]; done), HB.out⟩
  · have e1 : okTide s = false := by unfold okTide; rw [decide_eq_false hin, Bool.false_and]
    rw [e1]
    have h3 : ((s.size : Int) < 1) ∨ (12 < (s.size : Int)) := by omega
    clear e1 hin
    rcases h3 with h3 | h3
    all_goals
      go_enter Tryd.func55, Tryd.ntmps55
      go_wp2_with (go_at_call 42; refine (within_any _ _ _ _).mono ?_; rintro e w' ⟨rfl, rfl⟩)
      go_ret
      exact ⟨by first | rfl | (simp; omega), Below.refl _ _⟩

set_option maxHeartbeats 2000000 in
theorem areShore (s t : ByteArray) (w : World) (hs : s.size ≤ 140737488351232) (ht : t.size ≤ 140737488351232) : Calls Tryd.prog 45 #[.string s, .string t] w fun e w' => e = .returned (.bool (okShore s && okTide t)) ∧ Below w.heap.size w w' := by
  have c1 := isShore s w hs
  have c2 := fun W => isTide t W ht
  cases h1 : okShore s with
  | false =>
    rw [h1] at c1
    clear h1 c2
    go_enter Tryd.func45, Tryd.ntmps45
    go_wp2_with (go_at_call 54; refine c1.mono ?_; clear c1; rintro e w1 ⟨rfl, hb⟩; have HB := Aside0.mk hb; clear hb)
    go_ret
    exact ⟨rfl, HB.out⟩
  | true =>
    rw [h1] at c1
    have C2 := Aside0.mk c2
    rw [Bool.true_and]
    clear h1 c2
    generalize okTide t = b at C2 ⊢
    go_enter Tryd.func45, Tryd.ntmps45
    go_wp2_with fail
    refine c1.mono ?_
    clear c1
    rintro e w1 ⟨rfl, hb⟩
    have HB := Aside0.mk hb
    clear hb
    go_wp2_with fail
    refine (C2.out _).mono ?_
    rintro e w2 ⟨rfl, hb⟩
    have HB2 := Aside0.mk (HB.out.trans (hb.mono HB.out.size))
    clear hb
    go_wp2_with fail
    go_ret
    exact ⟨rfl, HB2.out⟩
end Go.Proofs.YteijbohbdhemoaaDoor.Sh
