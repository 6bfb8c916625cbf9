/- laws.FnExactRoundsHome answers true for all arguments; nothing that lay before is turned. No condition. -/
import Derived.Test.YtbfgiccfbaobnaaFcRoundsHome
import Derived.Test.YtbfgiccfbaobnaaWkRoundsHome
namespace Go.Proofs.Ytbfgiccfbaobnaa.LwRoundsHome
set_option linter.unusedVariables false
set_option linter.unusedSimpArgs false
open Go.RowKit Go.Proofs.YtbfgiccfbaobnaaW.PrintWords Go.Proofs.YtbfgiccfbaobnaaW.PrintLast Go.Proofs.YtbfgiccfbaobnaaW.PrintMore PFnExactRoundsHome FcRoundsHome
set_option maxHeartbeats 2000000 in
set_option maxRecDepth 100000 in
theorem law (k : Nat) (A : Option Addr) (c : Nat) (l : List Int) (w : World) (hr : Kd.C (Kd.int .i64) w A l.length l) (hc : l.length ≤ c) (hl : l.length ≤ 1048576)
    (hT : laws_toIntS.f k l = some l) (hE : laws_eqIntS.f k l l = some true) (v : Int) (b : Bool)
    (cS : ∀ (A : Option Addr) (c : Nat) (W : World), Kd.C (Kd.int .i64) W A l.length l → l.length ≤ c → Calls Try.prog 29 #[.slice A l.length c] W fun e w' => e = .returned (.tuple #[.int .i64 v, .bool b]) ∧ Below W.heap.size W w')
    (cI : ∀ (A : Option Addr) (c : Nat) (W : World), Kd.C (Kd.int .i64) W A l.length l → l.length ≤ c → Calls Try.prog 30 #[.slice A l.length c] W fun e w' => e = .returned (.tuple #[.int .i64 v, .bool b]) ∧ Below W.heap.size W w') :
    Calls Try.prog 10 #[.slice A l.length c] w fun e w' => e = .returned (.bool true) ∧ Below w.heap.size w w' := by
  have CS := Aside0.mk cS
  have CI := Aside0.mk cI
  have HT := Aside0.mk hT
  have HE := Aside0.mk hE
  have HR := Aside0.mk hr
  have HC := Aside0.mk hc
  have hvv : (v != v) = false := by simp
  have hbb : (b != b) = false := by simp
  clear hT hE hr hc cS cI
  go_enter Try.func10, Try.ntmps10
  go_wp2_with fail
  refine (laws_toIntS.calls k A c l l _ HR.out HC.out HT.out).mono ?_
  rintro e w1 ⟨v1, rfl, h1, b1⟩
  obtain ⟨A1, c1, rfl⟩ := Kd.R_slice h1
  have R1 := Aside0.mk h1
  have B1 := Aside0.mk b1
  clear h1 b1
  go_wp2_with fail
  refine (CS.out A1 c1 _ (Kd.R_reads' R1.out).2.2 (Kd.R_reads' R1.out).2.1).mono ?_
  rintro e w2 ⟨rfl, b2⟩
  have B2 := Aside0.mk (B1.out.trans (b2.mono B1.out.size))
  clear b2 B1 R1
  go_wp2_with fail
  refine (laws_toIntS.calls k A c l l _ (Kd.C_below HR.out B2.out) HC.out HT.out).mono ?_
  rintro e w3 ⟨v3, rfl, h3, b3⟩
  obtain ⟨A3, c3, rfl⟩ := Kd.R_slice h3
  have R3 := Aside0.mk h3
  have B3 := Aside0.mk (B2.out.trans (b3.mono B2.out.size))
  clear h3 b3 B2
  go_wp2_with fail
  refine (CI.out A3 c3 _ (Kd.R_reads' R3.out).2.2 (Kd.R_reads' R3.out).2.1).mono ?_
  rintro e w4 ⟨rfl, b4⟩
  have R4 := Aside0.mk (Kd.R_below R3.out b4)
  have B4 := Aside0.mk (B3.out.trans (b4.mono B3.out.size))
  clear b4 R3 B3
  go_wp2_with fail
  refine (laws_toIntS.calls k A c l l _ (Kd.C_below HR.out B4.out) HC.out HT.out).mono ?_
  rintro e w5 ⟨v5, rfl, h5, b5⟩
  obtain ⟨A5, c5, rfl⟩ := Kd.R_slice h5
  have R5 := Aside0.mk h5
  have R6 := Aside0.mk (Kd.R_below R4.out b5)
  have B5 := Aside0.mk (B4.out.trans (b5.mono B4.out.size))
  clear h5 b5 R4 B4
  go_wp2_with fail
  refine (laws_eqIntS.calls k A3 c3 l A5 c5 l true _ (Kd.R_reads' R6.out).2.2 (Kd.R_reads' R6.out).2.1 (Kd.R_reads' R5.out).2.2 (Kd.R_reads' R5.out).2.1 HE.out).mono ?_
  rintro e w6 ⟨rfl, ⟨nd6, rfl⟩⟩
  go_wp2_with fail
  go_ret
  exact ⟨rfl, pw_below_drewN B5.out nd6⟩

theorem whole (A : Option Addr) (len cap : Nat) (zs : List Int) (w : World) (h : (A = none ∧ len = 0 ∧ cap = 0 ∧ zs = []) ∨ ∃ x, A = some x ∧ len ≤ cap ∧ cap ≤ maxLen ∧ zs.length = cap ∧ (∀ i, i < zs.length → w.cell? (x.add i) = some (.int .i64 (zs.getD i 0))) ∧ ∀ n ∈ zs, (Lit.int .i64 n).wf = true) :
    Calls Try.prog 10 #[.slice A len cap] w fun e w' => e = .returned (.bool true) ∧ Below w.heap.size w w' := by
  obtain ⟨l, rfl, hr, hm, hwf, hc⟩ := ReadsInt.ofRowC h
  have hC : Kd.C (Kd.int .i64) w A l.length l := Kd.C_of_reads (d := (0 : Int)) (h1 := fun _ => rfl) hr
  by_cases hl : l.length ≤ 1048576
  · have hg := good_eq l hl (2 * l.length + 4) (by omega)
    obtain ⟨R, r, k, h1, h2⟩ : ∃ R r k, (Ord.ord l = true → 1 ≤ R ∧ R ≤ 16777216 ∧ (∀ m, Inv.pre (Rnd.pw l m) l.length = 0 ↔ R ∣ m)) ∧ (Ord.ord l = true → impl_cycles.f k l = some r ∧ R = Rnd.F r ∧ r.length ≤ 8 ∧ ∀ own ∈ r, 1 ≤ own.length ∧ own.length ≤ 8) := by
      by_cases ho : Ord.ord l = true
      · have hok := WkRoundsHome.ok_of ho
        obtain ⟨k, r, hk, hr8, hro, hper⟩ := Rnd.cycles hok
        have hF := Rnd.F_take_le hr8 hro r.length
        rw [List.take_length] at hF
        exact ⟨Rnd.F r, r, k, fun _ => ⟨hF.1, hF.2, Rnd.home hok hper⟩, fun _ => ⟨hk, rfl, hr8, hro⟩⟩
      · exact ⟨0, [], 0, fun h => absurd h ho, fun h => absurd h ho⟩
    have hI := fun (A : Option Addr) (c : Nat) (W : World) (h : Kd.C (Kd.int .i64) W A l.length l) (hc : l.length ≤ c) => WkRoundsHome.impl k A c l W h hc hl r (fun ho => ⟨(h2 ho).1, (h2 ho).2.2.1, (h2 ho).2.2.2⟩)
    refine law (2 * l.length + 4) A cap l w hC hc hl (toInt_eq l (by omega) _ (by omega)) (eq_self l (by omega) _ (by omega)) _ _ (fun A c W h hc => WkRoundsHome.spec (2 * l.length + 4) A c l W h hc hl hg R h1) (fun A c W h hc => ?_)
    have e : (if Ord.ord l = true then (R : Int) else 0) = (if Ord.ord l = true then ((Rnd.F r : Nat) : Int) else 0) := by
      by_cases ho : Ord.ord l = true
      · rw [if_pos ho, if_pos ho, (h2 ho).2.1]
      · rw [if_neg ho, if_neg ho]
    rw [e]
    exact hI A c W h hc
  · have hl2 : l.length ≤ 9223372036854775807 := by unfold maxLen at hm; omega
    clear hr hC h hwf
    go_enter Try.func10, Try.ntmps10
    go_wp2_with fail
    go_ret
    exact ⟨rfl, Below.refl _ _⟩
end Go.Proofs.Ytbfgiccfbaobnaa.LwRoundsHome
