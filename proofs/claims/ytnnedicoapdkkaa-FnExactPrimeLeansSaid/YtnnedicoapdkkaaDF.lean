/- slices.IndexFunc of a row of slices at this program, whatever block-laying predicate it is given: the first place that the predicate tells, or -1. Conditions: the predicate answers p at every element, in every world that has grown from the first. -/
import Derived.Test.YtnnedicoapdkkaaPFnExactSpotsForx0
import Derived.IntWalk
namespace Go.Proofs.Ytnnedicoapdkkaa.DF
set_option linter.unusedVariables false
set_option linter.unusedSimpArgs false
open Go.RowKit Go.Proofs.YtnnedicoapdkkaaW.PrintWords Go.Proofs.YtnnedicoapdkkaaW.PrintLast Go.Proofs.YtnnedicoapdkkaaW.PrintMore

def Idx {α : Type} (p : α → Bool) (xs : List α) (r : Int) : Prop :=
  (r = -1 ∧ ∀ x ∈ xs, p x = false) ∨ ∃ i : Nat, r = (i : Int) ∧ i < xs.length ∧ (∀ x ∈ xs.take i, p x = false) ∧ ∃ y, xs[i]? = some y ∧ p y = true

/-- An element's cell, where an element is one cell. -/
theorem C_one {α : Type} {d : Kd α} (hs : d.sz = 1) {w : World} {A : Option Addr} {xs : List α} (h : d.C w A xs.length xs) (i : Nat) (hi : i < xs.length) :
    ∃ ad u, A = some ad ∧ d.K w xs[i] [u] ∧ w.cell? (ad.add i) = some u := by
  obtain ⟨ad, c, e, hl, hK, hc⟩ := Kd.C_get h xs[i] (i : Int) (by omega) (by omega)
  rw [Int.toNat_natCast, List.getD_eq_getElem?_getD, List.getElem?_eq_getElem hi] at hK
  rw [hs] at hl
  obtain ⟨u, rfl⟩ : ∃ u, c = [u] := by
    match c, hl with
    | [u], _ => exact ⟨u, rfl⟩
  refine ⟨ad, u, e, hK, ?_⟩
  have := hc 0 u rfl
  rwa [hs, Int.toNat_natCast, Nat.mul_one, Nat.add_zero] at this
theorem take_snoc {α : Type} {p : α → Bool} {xs : List α} {i : Nat} (hi : i < xs.length) (h : ∀ x ∈ xs.take i, p x = false) (hp : p xs[i] = false) : ∀ x ∈ xs.take (i + 1), p x = false := by
  intro x hx
  rw [List.take_succ_eq_append_getElem hi] at hx
  rcases List.mem_append.1 hx with hx | hx
  · exact h x hx
  · rw [List.mem_singleton.1 hx]; exact hp

set_option maxHeartbeats 4000000 in
set_option maxRecDepth 100000 in
theorem indexFunc {α : Type} (d : Kd α) (hs : d.sz = 1) (p : α → Bool) (gf : Nat) (lb : Array Value) (A : Option Addr) (c : Nat) (xs : List α) (w : World)
    (eg : ∀ args w, (callFunc gf args).run Try.prog w = .ok (.enter gf args) w)
    (hT : ∀ W x u, Below w.heap.size w W → x ∈ xs → d.K W x [u] → Calls Try.prog gf (#[u] ++ lb) W fun e w' => e = .returned (.bool (p x)) ∧ Below W.heap.size W w')
    (hC : d.C w A xs.length xs) (hc : xs.length ≤ c) :
    Calls Try.prog 64 #[.slice A xs.length c, .func (.func gf) #[] lb] w fun e w' => ∃ r, e = .returned (.int .i64 r) ∧ Idx p xs r ∧ Below w.heap.size w w' := by
  have hm : xs.length ≤ 9223372036854775807 := hC.2.1
  have HT := Aside0.mk hT
  have HC := Aside0.mk hC
  have HB := Aside0.mk (Below.refl w.heap.size w)
  clear hT hC
  have HZ : Aside0 (∀ x ∈ xs.take 0, p x = false) := ⟨by simp⟩
  go_enter Try.func64, Try.ntmps64
  go_wp2
  go_loopw [8] (fun v8 wr => ∃ i : Nat, v8 = .int .i64 i ∧ Aside0 (i ≤ xs.length) ∧ Aside0 (∀ x ∈ xs.take i, p x = false) ∧ Aside0 (Below w.heap.size w wr)) (fun v8 _ => xs.length - (intOf v8).toNat)
  case atStart => exact ⟨0, rfl, ⟨Nat.zero_le _⟩, HZ, HB⟩
  case round =>
    clear HB HZ
    obtain ⟨i, rfl, HI, HP, HB⟩ := hrel
    by_cases hi : i < xs.length
    · obtain ⟨ad, u, rfl, hK, hx⟩ := C_one hs (Kd.C_below HC.out HB.out) i hi
      have hcall := HT.out wr xs[i] u HB.out (List.getElem_mem hi) hK
      have hiz : (i : Int) < (xs.length : Int) := by omega
      have HI1 : Aside0 (i + 1 ≤ xs.length) := ⟨hi⟩
      have HM : Aside0 (xs.length - (i + 1) < xs.length - i) := ⟨by omega⟩
      clear hK
      by_cases hq : p xs[i] = true
      · rw [hq] at hcall
        have HQ := Aside0.mk hcall
        have HY : Aside0 (Idx p xs (i : Int)) := ⟨.inr ⟨i, rfl, hi, HP.out, xs[i], List.getElem?_eq_getElem hi, hq⟩⟩
        clear hcall hq
        go_wp2_with fail
        refine HQ.out.mono ?_
        rintro e w1 ⟨rfl, hb1⟩
        have HB1 := Aside0.mk (below_then HB.out HB.out.size hb1)
        clear hb1
        go_wp2
        go_ret
        exact ⟨_, rfl, HY.out, HB1.out⟩
      · have hq2 : p xs[i] = false := by simpa using hq
        rw [hq2] at hcall
        have HP1 := Aside0.mk (take_snoc hi HP.out hq2)
        have HQ := Aside0.mk hcall
        clear hcall hq hq2
        go_wp2_with fail
        refine HQ.out.mono ?_
        rintro e w1 ⟨rfl, hb1⟩
        have HB1 := Aside0.mk (below_then HB.out HB.out.size hb1)
        clear hb1
        go_wp2
        go_roundw
        case rel => exact ⟨i + 1, by go_num, HI1, HP1, HB1⟩
        case measure => simp [intOf]; omega
    · have HY : Aside0 (Idx p xs (-1)) := ⟨.inl ⟨rfl, fun x hx => HP.out x (by rw [List.take_of_length_le (by omega)]; exact hx)⟩⟩
      have hiz : ¬ (i : Int) < (xs.length : Int) := by omega
      go_wp2
      go_ret
      exact ⟨_, rfl, HY.out, HB.out⟩
end Go.Proofs.Ytnnedicoapdkkaa.DF
