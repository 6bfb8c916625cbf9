/- The walk of laws.FnExactIsOrder: it answers true for every slice of numbers, and nothing that lay before is turned. No condition. -/
import Derived.Test.YtbfgiccfbaobnaaIsOrd
import Derived.Test.YtbfgiccfbaobnaaPFnExactIsOrderx1
import Derived.Test.YtbfgiccfbaobnaaPFnExactIsOrderx8
import Derived.Test.YtbfgiccfbaobnaaFcIsOrder
namespace Go.Proofs.Ytbfgiccfbaobnaa.LwIsOrder
set_option linter.unusedVariables false
set_option linter.unusedSimpArgs false
open Go.RowKit Go.Proofs.YtbfgiccfbaobnaaW.PrintWords Go.Proofs.YtbfgiccfbaobnaaW.PrintLast Go.Proofs.YtbfgiccfbaobnaaW.PrintMore PFnExactIsOrder

theorem rc {w W : World} {base : Nat} {A : Option Addr} {n c : Nat} {l : List Int} (h : Kd.R (Kd.int .i64) 3 w base (fun _ => True) (.slice A n c) l) (hb : Below w.heap.size w W) : Kd.C (Kd.int .i64) W A l.length l := Kd.C_below (Kd.R_reads' h).2.2 hb

set_option maxHeartbeats 2000000 in
set_option maxRecDepth 100000 in
theorem law (k : Nat) (A : Option Addr) (c : Nat) (l : List Int) (w : World) (hr : Kd.C (Kd.int .i64) w A l.length l) (hc : l.length ≤ c) (hl : l.length ≤ 1048576)
    (hT : laws_toIntS.f k l = some l) (hE : laws_eqIntS.f k l l = some true) (hS : spec_IsOrder.f k l = some (Ord.ord l)) :
    Calls Try.prog 3 #[.slice A l.length c] w fun e w' => e = .returned (.bool true) ∧ Below w.heap.size w w' := by
  have HT := Aside0.mk hT
  have HE := Aside0.mk hE
  have HS := Aside0.mk hS
  have HR := Aside0.mk hr
  have HC := Aside0.mk hc
  clear hT hE hS hr hc
  go_enter Try.func3, Try.ntmps3
  go_wp2_with fail
  refine (laws_toIntS.calls k A c l l _ HR.out HC.out HT.out).mono ?_
  rintro e w1 ⟨v1, rfl, h1, b1⟩
  obtain ⟨A1, c1, rfl⟩ := Kd.R_slice h1
  have R1 := Aside0.mk h1
  have B1 := Aside0.mk b1
  clear h1 b1
  go_wp2_with fail
  refine (spec_IsOrder.calls k A1 c1 l (Ord.ord l) _ (Kd.R_reads' R1.out).2.2 (Kd.R_reads' R1.out).2.1 HS.out).mono ?_
  rintro e w2 ⟨rfl, ⟨nd, rfl⟩⟩
  have B2 : Aside0 (Below w.heap.size w (w1.drewN nd)) := ⟨pw_below_drewN B1.out nd⟩
  clear B1 R1
  generalize w1.drewN nd = w2 at B2 ⊢
  go_wp2_with fail
  refine (laws_toIntS.calls k A c l l _ (Kd.C_below HR.out B2.out) HC.out HT.out).mono ?_
  rintro e w3 ⟨v3, rfl, h3, b3⟩
  obtain ⟨A3, c3, rfl⟩ := Kd.R_slice h3
  have R3 := Aside0.mk h3
  have B3 := Aside0.mk (B2.out.trans (b3.mono B2.out.size))
  clear h3 b3 B2
  go_wp2_with fail
  refine (Seq.isOrder A3 c3 l _ (Kd.R_reads' R3.out).2.2 hl).mono ?_
  rintro e w4 ⟨rfl, b4⟩
  have R4 := Aside0.mk (Kd.R_below R3.out b4)
  have B4 := Aside0.mk (B3.out.trans (b4.mono B3.out.size))
  clear b4 R3 B3
  have hb : (Ord.ord l != Ord.ord l) = false := by simp
  go_wp2_with fail
  refine (laws_toIntS.calls k A c l l _ (Kd.C_below HR.out B4.out) HC.out HT.out).mono ?_
  rintro e w5 ⟨v5, rfl, h5, b5⟩
  obtain ⟨A5, c5, rfl⟩ := Kd.R_slice h5
  have R5 := Aside0.mk h5
  have R6 := Aside0.mk (Kd.R_below R4.out b5)
  have B5 := Aside0.mk (B4.out.trans (b5.mono B4.out.size))
  clear h5 b5 R4 B4
  go_wp2_with fail
  refine (laws_eqIntS.calls k A3 c3 l A5 c5 l true _ (Kd.R_reads' R6.out).2.2 (Kd.R_reads' R6.out).2.1 (Kd.R_reads' R5.out).2.2 (Kd.R_reads' R5.out).2.1 HE.out).mono ?_
  rintro e w6 ⟨rfl, ⟨nd6, rfl⟩⟩
  go_wp2_with fail
  go_ret
  exact ⟨rfl, pw_below_drewN B5.out nd6⟩
theorem whole (A : Option Addr) (len cap : Nat) (zs : List Int) (w : World) (h : (A = none ∧ len = 0 ∧ cap = 0 ∧ zs = []) ∨ ∃ x, A = some x ∧ len ≤ cap ∧ cap ≤ maxLen ∧ zs.length = cap ∧ (∀ i, i < zs.length → w.cell? (x.add i) = some (.int .i64 (zs.getD i 0))) ∧ ∀ n ∈ zs, (Lit.int .i64 n).wf = true) :
    Calls Try.prog 3 #[.slice A len cap] w fun e w' => e = .returned (.bool true) ∧ Below w.heap.size w w' := by
  obtain ⟨l, rfl, hr, hm, hwf, hc⟩ := ReadsInt.ofRowC h
  have hC : Kd.C (Kd.int .i64) w A l.length l := Kd.C_of_reads (d := (0 : Int)) (h1 := fun _ => rfl) hr
  by_cases hl : l.length ≤ 1048576
  · obtain ⟨k, hT, hE, hS⟩ := FcFnExactIsOrder.facts l hl
    exact law k A cap l w hC hc hl hT hE hS
  · have hl2 : l.length ≤ 9223372036854775807 := by unfold maxLen at hm; omega
    clear hr hC h hwf
    go_enter Try.func3, Try.ntmps3
    go_wp2_with fail
    go_ret
    exact ⟨rfl, Below.refl _ _⟩
end Go.Proofs.Ytbfgiccfbaobnaa.LwIsOrder
