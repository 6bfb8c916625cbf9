/- A row that the call has made, told cell by cell by a function: reading, writing, moving it. Words of this session's own. -/
import Derived.Test.YteijbohbdhemoaaDoorRep
namespace Go.Proofs.YteijbohbdhemoaaDoor.Tb
set_option linter.unusedVariables false
set_option linter.unusedSimpArgs false
open Go.RowKit Go.Proofs.YteijbohbdhemoaaDoorW.PrintWords Go.Proofs.YteijbohbdhemoaaDoorW.PrintLast Go.Proofs.YteijbohbdhemoaaDoorW.PrintMore
section
variable {α : Type}
def tab (P : Nat) (f : Nat → α) : List α := (List.range P).map f
theorem tab_len {P : Nat} {f : Nat → α} : (tab P f).length = P := by simp [tab]
theorem tab_congr {P : Nat} {f g : Nat → α} (h : ∀ i, i < P → f i = g i) : tab P f = tab P g := by
  unfold tab
  exact List.map_congr_left fun i hi => h i (List.mem_range.mp hi)
/-- Block g holds P cells (room for cap), cell i tells f i. -/
def Tb (enc : α → Value) (ty : TypeId) (W : World) (g cap P : Nat) (f : Nat → α) : Prop :=
  ∃ X : List Value, W.heap[g]? = some (.cells X.toArray ty (0, 0)) ∧ X.length = cap ∧ P ≤ cap ∧ cap ≤ maxLen ∧ ∀ i, i < P → X[i]? = some (enc (f i))
variable {enc : α → Value} {ty : TypeId} {W W' : World} {g cap P : Nat} {f : Nat → α}
theorem Tb.cell (h : Tb enc ty W g cap P f) (i : Nat) (hi : i < P) : W.cell? ⟨g, i, none⟩ = some (enc (f i)) := by
  obtain ⟨X, h1, h2, h3, h4, h5⟩ := h
  rw [blk_cell h1 i, List.getElem?_toArray]
  exact h5 i hi
theorem Tb.frozen (h : Tb enc ty W g cap P f) (i : Nat) : W.frozen? ⟨g, i, none⟩ = false := by
  obtain ⟨X, h1, _⟩ := h
  exact blk_frozen h1 i
theorem Tb.lt (h : Tb enc ty W g cap P f) : g < W.heap.size := by
  obtain ⟨X, h1, _⟩ := h
  exact blk_lt h1
theorem Tb.cap_le (h : Tb enc ty W g cap P f) : P ≤ cap ∧ cap ≤ maxLen := by
  obtain ⟨X, h1, h2, h3, h4, h5⟩ := h
  exact ⟨h3, h4⟩
theorem Tb.set (h : Tb enc ty W g cap P f) (i : Nat) (v : α) : Tb enc ty (W.setCell ⟨g, i, none⟩ (enc v)) g cap P (fun k => if k = i then v else f k) := by
  obtain ⟨X, h1, h2, h3, h4, h5⟩ := h
  refine ⟨X.set i (enc v), blk_put h1 i (enc v) (by simp), by simpa using h2, h3, h4, fun k hk => ?_⟩
  rw [List.getElem?_set]
  by_cases c : i = k
  · subst c
    rw [if_pos rfl, if_pos (by omega)]
    simp
  · rw [if_neg c]
    simp only [if_neg (fun e : k = i => c e.symm)]
    exact h5 k hk
theorem Tb.far (h : Tb enc ty W g cap P f) {p : Addr} (hp : g ≠ p.block) (u : Value) : Tb enc ty (W.setCell p u) g cap P f := by
  obtain ⟨X, h1, h2⟩ := h
  exact ⟨X, blk_far h1 hp u, h2⟩
theorem Tb.below (h : Tb enc ty W g cap P f) (hb : Below W.heap.size W W') : Tb enc ty W' g cap P f := by
  obtain ⟨X, h1, h2⟩ := h
  exact ⟨X, blk_below h1 hb, h2⟩
theorem Tb.drewN (h : Tb enc ty W g cap P f) (n : Nat) : Tb enc ty (W.drewN n) g cap P f := by
  obtain ⟨X, h1, h2⟩ := h
  exact ⟨X, h1, h2⟩
theorem Tb.congr {f' : Nat → α} (h : Tb enc ty W g cap P f) (e : ∀ i, i < P → f i = f' i) : Tb enc ty W g cap P f' := by
  obtain ⟨X, h1, h2, h3, h4, h5⟩ := h
  exact ⟨X, h1, h2, h3, h4, fun i hi => by rw [← e i hi]; exact h5 i hi⟩
theorem Tb.of_R {h1 : ∀ x : α, (enc x).oneCell' = true} {base : Nat} {ok : Nat → Prop} {v : Value} {n : Nat} {x : α} (h : (Kd.scalar enc h1).R ty W base ok v (List.replicate n x)) (hn : 0 < n) :
    ∃ g cap, v = .slice (some ⟨g, 0, none⟩) n cap ∧ base ≤ g ∧ Tb enc ty W g cap n (fun _ => x) := by
  have ho := Kd.own_of_R h
  rcases ho with ⟨_, ⟨_, h0⟩ | ⟨g, cap, cur, rfl, hg, hh, hc1, hc2, hsz, htk⟩⟩
  · simp at h0; omega
  · simp only [List.length_replicate, Nat.mul_one] at hc1 hsz htk ⊢
    refine ⟨g, cap, rfl, hg, cur.toList, by simpa using hh, by simpa using hsz, hc1, hc2, fun i hi => ?_⟩
    have e : (cur.toList.take n)[i]? = some (enc x) := by
      rw [htk]
      simp [encs, hi]
    rw [List.getElem?_take_of_lt hi] at e
    exact e
theorem Tb.to_R {h1 : ∀ x : α, (enc x).oneCell' = true} (h : Tb enc ty W g cap P f) (base : Nat) (hb : base ≤ g) : (Kd.scalar enc h1).R ty W base (fun _ => True) (.slice (some ⟨g, 0, none⟩) P cap) (tab P f) := by
  obtain ⟨X, e1, e2, e3, e4, e5⟩ := h
  refine Kd.R_of_own ⟨by simp [encs], .inr ⟨g, cap, X.toArray, by rw [tab_len], hb, e1, by rw [tab_len]; exact e3, e4, by simpa using e2, ?_⟩⟩ (fun _ _ => trivial)
  rw [tab_len, Nat.mul_one]
  apply List.ext_getElem?
  intro i
  by_cases hi : i < P
  · rw [List.getElem?_take_of_lt hi]
    simp only [encs, tab, List.getElem?_map, List.getElem?_range hi, Option.map_some]
    simpa using e5 i hi
  · rw [List.getElem?_eq_none (by simp; omega), List.getElem?_eq_none (by simp [encs, tab]; omega)]
end
end Go.Proofs.YteijbohbdhemoaaDoor.Tb
