/- (crossing).isRight at this program answers okRight; nothing that lay before is turned. Condition: the texts lie within the reach. -/
import Derived.Test.YteijbohbdhemoaaDoorSh
import Derived.Test.YteijbohbdhemoaaDoorWShare
namespace Go.Proofs.YteijbohbdhemoaaDoor.Cr
set_option linter.unusedVariables false
set_option linter.unusedSimpArgs false
open Go.RowKit Go.Proofs.YteijbohbdhemoaaDoorW.PrintWords Go.Proofs.YteijbohbdhemoaaDoorW.PrintLast Go.Proofs.YteijbohbdhemoaaDoorW.PrintMore Sh

def okLeap (p : Int) : Bool := decide (1 ≤ p ∧ p ≤ 15)
def okRight (s t : ByteArray) (L : Int) : Bool := (okShore s && okTide t) && okLeap L
/-- The cells that hold a crossing. -/
abbrev box (s t : ByteArray) (L : Int) : Obj := .cells #[.string s, .string t, .int .i64 L] 39
abbrev agg (s t : ByteArray) (L : Int) : Value := .agg #[.string s, .string t, .int .i64 L]

set_option maxHeartbeats 2000000 in
set_option maxRecDepth 100000 in
theorem isRight (s t : ByteArray) (L : Int) (w : World) (hs : s.size ≤ 140737488351232) (ht : t.size ≤ 140737488351232) : Calls Tryd.prog 32 #[agg s t L] w fun e w' => e = .returned (.bool (okRight s t L)) ∧ Below w.heap.size w w' := by
  have hu39 := Tryd.underlying39
  have c1 := fun W => areShore s t W hs ht
  unfold okRight
  cases h1 : (okShore s && okTide t) with
  | false =>
    rw [h1] at c1
    clear h1
    go_enter Tryd.func32, Tryd.ntmps32
    go_wp2_with fail
    refine (c1 _).mono ?_
    clear c1
    rintro e w1 ⟨rfl, hb⟩
    have HB := Aside0.mk (below_step (below_alloc (Below.refl w.heap.size w) (box s t L)) hb)
    clear hb
    go_wp2_with fail
    go_ret
    exact ⟨rfl, HB.out⟩
  | true =>
    rw [h1] at c1
    clear h1
    go_enter Tryd.func32, Tryd.ntmps32
    go_wp2_with fail
    refine (c1 _).mono ?_
    clear c1
    rintro e w1 ⟨rfl, hb⟩
    have HB := Aside0.mk (below_step (below_alloc (Below.refl w.heap.size w) (box s t L)) hb)
    have BK : w1.heap[w.heap.size]? = some (box s t L) := blk_below (blk_new w _) hb
    have hc2 : w1.cell? ⟨w.heap.size, 2, none⟩ = some (.int .i64 L) := (blk_cell BK 2).trans rfl
    have hf2 := blk_frozen BK 2
    clear hb BK
    go_wp2_with fail
    refine (within_any _ _ _ _).mono ?_
    rintro e w' ⟨rfl, rfl⟩
    go_wp2_with fail
    go_ret
    exact ⟨by show Ending.returned (.bool (decide (1 ≤ L) && decide (L ≤ 15))) = _; simp [okLeap], HB.out⟩
end Go.Proofs.YteijbohbdhemoaaDoor.Cr
