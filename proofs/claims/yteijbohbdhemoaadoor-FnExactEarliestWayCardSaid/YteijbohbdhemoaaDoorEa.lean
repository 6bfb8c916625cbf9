/- EarliestAt at this program, spec and impl alike. Condition: the texts lie within the reach. -/
import Derived.Test.YteijbohbdhemoaaDoorAsk
import Derived.Test.YteijbohbdhemoaaDoorEnd
namespace Go.Proofs.YteijbohbdhemoaaDoor.Ea
set_option linter.unusedVariables false
set_option linter.unusedSimpArgs false
open Go.RowKit Go.Proofs.YteijbohbdhemoaaDoorW.PrintWords Go.Proofs.YteijbohbdhemoaaDoorW.PrintLast Go.Proofs.YteijbohbdhemoaaDoorW.PrintMore Sh Cr Sm Tb Pl Arr Aq

def val (s t : ByteArray) (l h : Int) : Int × Bool := if okAsked s t l h = true then (if endOf s t l.toNat h.toNat < 0 then (0, false) else (endOf s t l.toNat h.toNat, true)) else (0, false)
set_option maxHeartbeats 4000000 in
set_option maxRecDepth 100000 in
theorem spec (s t : ByteArray) (l h : Int) (w : World) (hs : s.size ≤ 140737488351232) (ht : t.size ≤ 140737488351232) :
    Calls Tryd.prog 11 #[.string s, .string t, .int .i64 l, .int .i64 h] w fun e w' => e = .returned (.tuple #[.int .i64 (val s t l h).1, .bool (val s t l h).2]) ∧ Below w.heap.size w w' := by
  have ca := asked s t l h w hs ht
  unfold val
  cases hk : okAsked s t l h with
  | false =>
    rw [hk] at ca
    have CA := Aside0.mk ca
    rw [if_neg (by decide)]
    clear ca hk hs ht
    go_enter Tryd.func11, Tryd.ntmps11
    go_wp2_with fail
    refine CA.out.mono ?_
    rintro e w1 ⟨rfl, hb⟩
    have HB := Aside0.mk hb
    clear hb
    go_wp2_with fail
    go_ret2
    exact ⟨rfl, HB.out⟩
  | true =>
    rw [hk] at ca
    have CA := Aside0.mk ca
    rw [if_pos rfl]
    obtain ⟨_, _, L, st, rfl, rfl, z1, z2, z3, z4⟩ := asked_is hk
    rw [Int.toNat_natCast, Int.toNat_natCast]
    have CE := Aside0.mk (fun W => End.tdEnd s t L st W z1 z2 z3 (by omega))
    clear ca hk hs ht z1 z2 z3 z4
    generalize endOf s t L st = x at CE ⊢
    by_cases hx : x < 0
    · have hx1 := decide_eq_true hx
      rw [if_pos hx]
      clear hx
      go_enter Tryd.func11, Tryd.ntmps11
      go_wp2_with fail
      refine CA.out.mono ?_
      rintro e w1 ⟨rfl, hb⟩
      have HB := Aside0.mk hb
      clear hb
      go_wp2_with fail
      refine (CE.out _).mono ?_
      rintro e w2 ⟨rfl, hb⟩
      have HB2 := Aside0.mk (below_step HB.out hb)
      clear hb
      go_wp2_with fail
      go_ret2
      exact ⟨rfl, HB2.out⟩
    · have hx1 := decide_eq_false hx
      rw [if_neg hx]
      clear hx
      go_enter Tryd.func11, Tryd.ntmps11
      go_wp2_with fail
      refine CA.out.mono ?_
      rintro e w1 ⟨rfl, hb⟩
      have HB := Aside0.mk hb
      clear hb
      go_wp2_with fail
      refine (CE.out _).mono ?_
      rintro e w2 ⟨rfl, hb⟩
      have HB2 := Aside0.mk (below_step HB.out hb)
      clear hb
      go_wp2_with fail
      go_ret2
      exact ⟨rfl, HB2.out⟩
set_option maxHeartbeats 4000000 in
set_option maxRecDepth 100000 in
theorem impl (s t : ByteArray) (l h : Int) (w : World) (hs : s.size ≤ 140737488351232) (ht : t.size ≤ 140737488351232) :
    Calls Tryd.prog 12 #[.string s, .string t, .int .i64 l, .int .i64 h] w fun e w' => e = .returned (.tuple #[.int .i64 (val s t l h).1, .bool (val s t l h).2]) ∧ Below w.heap.size w w' := by
  have hu39 := Tryd.underlying39
  have ci := fun W => isRight s t l W hs ht
  have ch := fun W => isHour h W
  unfold val
  have hA : okAsked s t l h = (okRight s t l && okHour h) := rfl
  cases hr : okRight s t l with
  | false =>
    rw [hr] at ci hA
    rw [hA, if_neg (by simp)]
    have CI := Aside0.mk ci
    clear ci ch hA hr hs ht
    go_enter Tryd.func12, Tryd.ntmps12
    go_wp2_with fail
    refine (CI.out _).mono ?_
    rintro e w1 ⟨rfl, hb⟩
    have X1 := Aside0.mk (blk_below (blk_new w (box s t l)) hb)
    have HB := Aside0.mk (below_step (below_alloc (Below.refl w.heap.size w) (box s t l)) hb)
    have hc0 : w1.cell? ⟨w.heap.size, 0, none⟩ = some (.string s) := (blk_cell X1.out 0).trans rfl
    have hc1 : w1.cell? ⟨w.heap.size, 1, none⟩ = some (.string t) := (blk_cell X1.out 1).trans rfl
    have hc2 : w1.cell? ⟨w.heap.size, 2, none⟩ = some (.int .i64 l) := (blk_cell X1.out 2).trans rfl
    clear hb
    go_wp2_with fail
    go_ret2
    exact ⟨rfl, HB.out⟩
  | true =>
    rw [hr] at ci hA
    have CI := Aside0.mk ci
    cases hh : okHour h with
    | false =>
      rw [hh] at ch hA
      rw [hA, if_neg (by simp)]
      have CH := Aside0.mk ch
      clear ci ch hA hr hs ht hh
      go_enter Tryd.func12, Tryd.ntmps12
      go_wp2_with fail
      refine (CI.out _).mono ?_
      rintro e w1 ⟨rfl, hb⟩
      have X1 := Aside0.mk (blk_below (blk_new w (box s t l)) hb)
      have HB := Aside0.mk (below_step (below_alloc (Below.refl w.heap.size w) (box s t l)) hb)
      have hc0 : w1.cell? ⟨w.heap.size, 0, none⟩ = some (.string s) := (blk_cell X1.out 0).trans rfl
      have hc1 : w1.cell? ⟨w.heap.size, 1, none⟩ = some (.string t) := (blk_cell X1.out 1).trans rfl
      have hc2 : w1.cell? ⟨w.heap.size, 2, none⟩ = some (.int .i64 l) := (blk_cell X1.out 2).trans rfl
      clear hb
      go_wp2_with fail
      refine (CH.out _).mono ?_
      rintro e w' ⟨rfl, rfl⟩
      go_wp2_with fail
      go_ret2
      exact ⟨rfl, HB.out⟩
    | true =>
      rw [hh] at ch hA
      have hk : okAsked s t l h = true := hA
      rw [hk, if_pos rfl]
      have CH := Aside0.mk ch
      obtain ⟨_, _, L, st, rfl, rfl, z1, z2, z3, z4⟩ := asked_is hk
      rw [Int.toNat_natCast, Int.toNat_natCast]
      have CE := Aside0.mk (fun W => End.earliest s t L st W z1 z2 z3 (by omega))
      clear ci ch hA hr hs ht hh hk z1 z2 z3 z4
      generalize endOf s t L st = x at CE ⊢
      by_cases hx : x < 0
      · have hx1 := decide_eq_true hx
        rw [if_pos hx]
        clear hx
        go_enter Tryd.func12, Tryd.ntmps12
        go_wp2_with fail
        refine (CI.out _).mono ?_
        rintro e w1 ⟨rfl, hb⟩
        have X1 := Aside0.mk (blk_below (blk_new w (box s t (L : Int))) hb)
        have HB := Aside0.mk (below_step (below_alloc (Below.refl w.heap.size w) (box s t (L : Int))) hb)
        have hc0 : w1.cell? ⟨w.heap.size, 0, none⟩ = some (.string s) := (blk_cell X1.out 0).trans rfl
        have hc1 : w1.cell? ⟨w.heap.size, 1, none⟩ = some (.string t) := (blk_cell X1.out 1).trans rfl
        have hc2 : w1.cell? ⟨w.heap.size, 2, none⟩ = some (.int .i64 (L : Int)) := (blk_cell X1.out 2).trans rfl
        clear hb
        go_wp2_with fail
        refine (CH.out _).mono ?_
        rintro e w' ⟨rfl, rfl⟩
        go_wp2_with fail
        refine (CE.out _).mono ?_
        rintro e w2 ⟨rfl, hb⟩
        have HB2 := Aside0.mk (below_step HB.out hb)
        clear hb hc0 hc1 hc2
        go_wp2_with fail
        go_ret2
        exact ⟨rfl, HB2.out⟩
      · have hx1 := decide_eq_false hx
        rw [if_neg hx]
        clear hx
        go_enter Tryd.func12, Tryd.ntmps12
        go_wp2_with fail
        refine (CI.out _).mono ?_
        rintro e w1 ⟨rfl, hb⟩
        have X1 := Aside0.mk (blk_below (blk_new w (box s t (L : Int))) hb)
        have HB := Aside0.mk (below_step (below_alloc (Below.refl w.heap.size w) (box s t (L : Int))) hb)
        have hc0 : w1.cell? ⟨w.heap.size, 0, none⟩ = some (.string s) := (blk_cell X1.out 0).trans rfl
        have hc1 : w1.cell? ⟨w.heap.size, 1, none⟩ = some (.string t) := (blk_cell X1.out 1).trans rfl
        have hc2 : w1.cell? ⟨w.heap.size, 2, none⟩ = some (.int .i64 (L : Int)) := (blk_cell X1.out 2).trans rfl
        clear hb
        go_wp2_with fail
        refine (CH.out _).mono ?_
        rintro e w' ⟨rfl, rfl⟩
        go_wp2_with fail
        refine (CE.out _).mono ?_
        rintro e w2 ⟨rfl, hb⟩
        have HB2 := Aside0.mk (below_step HB.out hb)
        clear hb hc0 hc1 hc2
        go_wp2_with fail
        go_ret2
        exact ⟨rfl, HB2.out⟩
end Go.Proofs.YteijbohbdhemoaaDoor.Ea
