/- Rows of rows that the call has made, beside the crossing's block: told cell by cell by a function; making, reading, writing. Words of this session's own. -/
import Derived.Test.YteijbohbdhemoaaDoorNd
import Derived.Test.YteijbohbdhemoaaDoorPl3
namespace Go.Proofs.YteijbohbdhemoaaDoor.Rs
set_option linter.unusedVariables false
set_option linter.unusedSimpArgs false
open Go.RowKit Go.Proofs.YteijbohbdhemoaaDoorW.PrintWords Go.Proofs.YteijbohbdhemoaaDoorW.PrintLast Go.Proofs.YteijbohbdhemoaaDoorW.PrintMore Sh Cr Sm Tb Pl Nd
abbrev One := {v : Value // v.oneCell' = true}
def KO : Kd One := Kd.scalar Subtype.val (fun x => x.2)
def nilO : One := ⟨.slice none 0 0, rfl⟩
def rowO (g P c : Nat) : One := ⟨.slice (some ⟨g, 0, none⟩) P c, rfl⟩
/-- Block gX holds n rows; those before m are made: row j at the block G j tells F j. -/
def RS (w0 W : World) (s t : ByteArray) (L : Int) (gX cX : Nat) (G C : Nat → Nat) (n m P : Nat) (F : Nat → Nat → Int) : Prop :=
  Below (w0.heap.size + 1) (w0.alloc (box s t L)) W ∧ w0.heap.size + 1 ≤ gX ∧ Tb Subtype.val 25 W gX cX n (fun j => if j < m then rowO (G j) P (C j) else nilO) ∧
  (∀ j, j < m → w0.heap.size + 1 ≤ G j ∧ Tb (Value.int .i64) 3 W (G j) (C j) P (F j)) ∧ (∀ i j, i < m → j < m → G i = G j → i = j)
theorem RS.below {w0 W W' : World} {s t : ByteArray} {L : Int} {gX cX n m P : Nat} {G C : Nat → Nat} {F : Nat → Nat → Int} (h : RS w0 W s t L gX cX G C n m P F) (hb : Below W.heap.size W W') : RS w0 W' s t L gX cX G C n m P F := by
  obtain ⟨h1, h2, h3, h4, h5⟩ := h
  exact ⟨boxed_then h1 hb, h2, h3.below hb, fun j hj => ⟨(h4 j hj).1, (h4 j hj).2.below hb⟩, h5⟩
theorem RS.congr {w0 W : World} {s t : ByteArray} {L : Int} {gX cX n m P : Nat} {G C : Nat → Nat} {F F' : Nat → Nat → Int} (h : RS w0 W s t L gX cX G C n m P F) (e : ∀ i, i < m → ∀ p, p < P → F i p = F' i p) : RS w0 W s t L gX cX G C n m P F' := by
  obtain ⟨h1, h2, h3, h4, h5⟩ := h
  exact ⟨h1, h2, h3, fun j hj => ⟨(h4 j hj).1, (h4 j hj).2.congr (e j hj)⟩, h5⟩
theorem Tb.ne {α β : Type} {e1 : α → Value} {e2 : β → Value} {t1 t2 : TypeId} {W : World} {g g' c c' P P' : Nat} {f : Nat → α} {f' : Nat → β} (h : Tb e1 t1 W g c P f) (h' : Tb e2 t2 W g' c' P' f') (ht : t1 ≠ t2) : g ≠ g' := by
  obtain ⟨X, hX, _⟩ := h
  obtain ⟨Y, hY, _⟩ := h'
  exact blk_ne hX hY (by simpa using ht)
theorem box_far {s t : ByteArray} {L : Int} {w W : World} (hb : Below (w.heap.size + 1) (w.alloc (box s t L)) W) {g i : Nat} (hg : w.heap.size + 1 ≤ g) (v : Value) : Below (w.heap.size + 1) (w.alloc (box s t L)) (W.setCell ⟨g, i, none⟩ v) := hb.setCell hg _
/-- A cell of a made row is written. -/
theorem RS.put {w0 W : World} {s t : ByteArray} {L : Int} {gX cX n m P : Nat} {G C : Nat → Nat} {F : Nat → Nat → Int} (h : RS w0 W s t L gX cX G C n m P F) (j i : Nat) (hj : j < m) (x : Int) :
    RS w0 (W.setCell ⟨G j, i, none⟩ (.int .i64 x)) s t L gX cX G C n m P (fun j' i' => if j' = j ∧ i' = i then x else F j' i') := by
  obtain ⟨h1, h2, h3, h4, h5⟩ := h
  refine ⟨box_far h1 (h4 j hj).1 _, h2, h3.far (Tb.ne h3 (h4 j hj).2 (by decide)) _, fun k hk => ⟨(h4 k hk).1, ?_⟩, h5⟩
  by_cases c : k = j
  · subst c
    refine ((h4 k hk).2.set i x).congr fun i' _ => ?_
    dsimp only
    by_cases e : i' = i
    · rw [if_pos e, if_pos ⟨rfl, e⟩]
    · rw [if_neg e, if_neg (fun q => e q.2)]
  · refine ((h4 k hk).2.far (fun q => c (h5 k j hk hj q)) _).congr fun i' _ => ?_
    dsimp only
    rw [if_neg (fun q => c q.1)]
/-- One more row is made. -/
theorem RS.made {w0 W W' : World} {s t : ByteArray} {L : Int} {gX cX n m P : Nat} {G C : Nat → Nat} {F : Nat → Nat → Int} (h : RS w0 W s t L gX cX G C n m P F) (hb : Below W.heap.size W W') {g c : Nat} (hg : W.heap.size ≤ g) {f : Nat → Int} (hT : Tb (Value.int .i64) 3 W' g c P f) :
    RS w0 (W'.setCell ⟨gX, m, none⟩ (.slice (some ⟨g, 0, none⟩) P c)) s t L gX cX (fun j => if j = m then g else G j) (fun j => if j = m then c else C j) n (m + 1) P (fun j => if j = m then f else F j) := by
  have hs := boxed_size h.1
  have ho : ∀ j, j < m → G j < W.heap.size := fun j hj => (h.2.2.2.1 j hj).2.lt
  obtain ⟨h1, h2, h3, h4, h5⟩ := h.below hb
  refine ⟨box_far h1 h2 _, h2, ?_, fun k hk => ?_, fun i j hi hj e => ?_⟩
  · refine (h3.set m (rowO g P c)).congr fun k _ => ?_
    dsimp only
    by_cases e : k = m
    · rw [if_pos e, if_pos (show k < m + 1 by omega), if_pos e, if_pos e]
    · rw [if_neg e, if_neg e, if_neg e]
      by_cases q : k < m
      · rw [if_pos q, if_pos (show k < m + 1 by omega)]
      · rw [if_neg q, if_neg (show ¬ k < m + 1 by omega)]
  · by_cases e : k = m
    · simp only [if_pos e]
      exact ⟨by omega, hT.far (fun q => Tb.ne h3 hT (by decide) q.symm) _⟩
    · simp only [if_neg e]
      exact ⟨(h4 k (by omega)).1, (h4 k (by omega)).2.far (fun q => Tb.ne h3 (h4 k (by omega)).2 (by decide) q.symm) _⟩
  · by_cases a : i = m
    · by_cases b : j = m
      · omega
      · simp only [if_pos a, if_neg b] at e
        have := ho j (by omega); omega
    · by_cases b : j = m
      · simp only [if_neg a, if_pos b] at e
        have := ho i (by omega); omega
      · simp only [if_neg a, if_neg b] at e
        exact h5 i j (by omega) (by omega) e
theorem RS.row {w0 W : World} {s t : ByteArray} {L : Int} {gX cX n m P : Nat} {G C : Nat → Nat} {F : Nat → Nat → Int} (h : RS w0 W s t L gX cX G C n m P F) (j : Nat) (hj : j < m) (hn : j < n) : W.cell? ⟨gX, j, none⟩ = some (.slice (some ⟨G j, 0, none⟩) P (C j)) := by
  have := h.2.2.1.cell j hn
  rw [if_pos hj] at this
  exact this
theorem RS.cell {w0 W : World} {s t : ByteArray} {L : Int} {gX cX n m P : Nat} {G C : Nat → Nat} {F : Nat → Nat → Int} (h : RS w0 W s t L gX cX G C n m P F) (j i : Nat) (hj : j < m) (hi : i < P) : W.cell? ⟨G j, i, none⟩ = some (.int .i64 (F j i)) := (h.2.2.2.1 j hj).2.cell i hi
theorem RS.frozen {w0 W : World} {s t : ByteArray} {L : Int} {gX cX n m P : Nat} {G C : Nat → Nat} {F : Nat → Nat → Int} (h : RS w0 W s t L gX cX G C n m P F) (j i : Nat) (hj : j < m) : W.frozen? ⟨G j, i, none⟩ = false := (h.2.2.2.1 j hj).2.frozen i
/-- What the loads of a region read, and the rows beside. -/
theorem RS.held {w0 W : World} {s t : ByteArray} {L : Int} {gX cX n m P : Nat} {G C : Nat → Nat} {F : Nat → Nat → Int} (h : RS w0 W s t L gX cX G C n m P F) (j : Nat) (hj : j < m) (hn : j < n) :
    W.cell? ⟨w0.heap.size, 0, none⟩ = some (.string s) ∧ W.cell? ⟨w0.heap.size, 1, none⟩ = some (.string t) ∧ W.cell? ⟨w0.heap.size, 2, none⟩ = some (.int .i64 L) ∧ W.cell? ⟨gX, j, none⟩ = some (.slice (some ⟨G j, 0, none⟩) P (C j)) ∧ Aside0 (RS w0 W s t L gX cX G C n m P F) := by
  obtain ⟨a, b, c⟩ := boxed h.1
  exact ⟨a, b, c, h.row j hj hn, ⟨h⟩⟩
theorem RS.held2 {w0 W : World} {s t : ByteArray} {L : Int} {gX cX n m P : Nat} {G C : Nat → Nat} {F : Nat → Nat → Int} (h : RS w0 W s t L gX cX G C n m P F) (j i : Nat) (hj : j < m) (hn : j < n) (hi : i < P) {x : Int} (hx : F j i = x) :
    W.cell? ⟨gX, j, none⟩ = some (.slice (some ⟨G j, 0, none⟩) P (C j)) ∧ W.cell? ⟨G j, i, none⟩ = some (.int .i64 x) ∧ Aside0 (RS w0 W s t L gX cX G C n m P F) :=
  ⟨h.row j hj hn, by rw [h.cell j i hj hi, hx], ⟨h⟩⟩
end Go.Proofs.YteijbohbdhemoaaDoor.Rs
