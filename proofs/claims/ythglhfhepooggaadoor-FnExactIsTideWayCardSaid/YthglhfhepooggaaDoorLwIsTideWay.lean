/- laws.FnExactIsTideWay: the walk out of its callees' contracts. Condition: both callees give the same. -/
import Derived.Test.YthglhfhepooggaaDoorWkIsTideWay
namespace Go.Proofs.YthglhfhepooggaaDoor.LwIsTideWay
set_option linter.unusedVariables false
set_option linter.unusedSimpArgs false
open Go.RowKit Go.Proofs.YthglhfhepooggaaDoorW.PrintWords Go.Proofs.YthglhfhepooggaaDoorW.PrintLast Go.Proofs.YthglhfhepooggaaDoorW.PrintMore PFnExactIsTideWay

set_option maxHeartbeats 4000000 in
set_option maxRecDepth 100000 in
theorem law (k : Nat) (s t : ByteArray) (L st : Int) (A : Option Addr) (c : Nat) (l : List Int) (r0 r1 : Bool) (w : World) (hr : Kd.C (Kd.int .i64) w A l.length l) (hc : l.length ≤ c) (hs : s.size ≤ 140737488351232) (ht : t.size ≤ 140737488351232) (hl : l.length ≤ 1048576)
    (hS : spec_IsTideWay.f k s t L st l = some (r0, r1)) (hI : WkTide.val s t L st l = (r0, r1)) (hT : laws_toIntS.f k l = some l) (hE : laws_eqIntS.f k l l = some true) :
    Calls Tryd.prog 14 #[.string s, .string t, .int .i64 L, .int .i64 st, .slice A l.length c] w fun e w' => e = .returned (.bool true) ∧ Below w.heap.size w w' := by
  have hs2 : s.size ≤ 9223372036854775807 := by omega
  have ht2 : t.size ≤ 9223372036854775807 := by omega
  have HR := Aside0.mk hr
  have HS := Aside0.mk hS
  have HI := Aside0.mk hI
  have HT := Aside0.mk hT
  have HE := Aside0.mk hE
  clear hr hS hI hT hE
  have q0 : (r0 != r0) = false := by simp
  have q1 : (r1 != r1) = false := by simp
  by_cases gs : s.size ≤ 1048576
  rotate_left
  · go_enter Tryd.func14, Tryd.ntmps14
    go_wp2_with fail
    go_ret
    exact ⟨rfl, Below.refl _ _⟩
  by_cases gt : t.size ≤ 1048576
  rotate_left
  · go_enter Tryd.func14, Tryd.ntmps14
    go_wp2_with fail
    go_ret
    exact ⟨rfl, Below.refl _ _⟩
  go_enter Tryd.func14, Tryd.ntmps14
  go_wp2_with fail
  refine (laws_toIntS.calls k A c l l _ HR.out hc HT.out).mono ?_
  rintro e w1 ⟨v1, rfl, h1, b1⟩
  obtain ⟨A1, c1, rfl⟩ := Kd.R_slice h1
  have HB := Aside0.mk b1
  have R1 := Aside0.mk h1
  clear h1 b1
  go_wp2_with fail
  refine (spec_IsTideWay.calls k s t L st A1 c1 l r0 r1 _ (Kd.R_reads' R1.out).2.2 (Kd.R_reads' R1.out).2.1 HS.out).mono ?_
  rintro e wx ⟨rfl, ⟨nd2, rfl⟩⟩
  replace HB := Aside0.mk (pw_below_drewN HB.out nd2)
  clear R1
  generalize w1.drewN nd2 = w2 at HB ⊢
  go_wp2_with fail
  have hs3 := Aside0.mk HB.out.size
  refine (laws_toIntS.calls k A c l l _ (Kd.C_below HR.out HB.out) hc HT.out).mono ?_
  rintro e w3 ⟨v3, rfl, h3, b3⟩
  obtain ⟨A3, c3, rfl⟩ := Kd.R_slice h3
  replace HB := Aside0.mk (HB.out.trans (b3.mono HB.out.size))
  have R3 := Aside0.mk (Kd.R_lower h3 hs3.out)
  clear h3 b3
  go_wp2_with fail
  refine (WkIsTideWay.impl s t L st A3 c3 l _ hs ht (Kd.R_reads' R3.out).2.2 (Kd.R_reads' R3.out).2.1).mono ?_
  rw [HI.out]
  rintro e w4 ⟨rfl, b4⟩
  replace R3 := Aside0.mk (Kd.R_below R3.out b4)
  replace HB := Aside0.mk (HB.out.trans (b4.mono HB.out.size))
  clear b4
  go_wp2_with fail
  have hs5 := Aside0.mk HB.out.size
  refine (laws_toIntS.calls k A c l l _ (Kd.C_below HR.out HB.out) hc HT.out).mono ?_
  rintro e w5 ⟨v5, rfl, h5, b5⟩
  obtain ⟨A5, c5, rfl⟩ := Kd.R_slice h5
  replace R3 := Aside0.mk (Kd.R_below R3.out b5)
  replace HB := Aside0.mk (HB.out.trans (b5.mono HB.out.size))
  have R5 := Aside0.mk (Kd.R_lower h5 hs5.out)
  clear h5 b5
  go_wp2_with fail
  refine (laws_eqIntS.calls k A3 c3 l A5 c5 l true _ (Kd.R_reads' R3.out).2.2 (Kd.R_reads' R3.out).2.1 (Kd.R_reads' R5.out).2.2 (Kd.R_reads' R5.out).2.1 HE.out).mono ?_
  rintro e wx6 ⟨rfl, ⟨nd6, rfl⟩⟩
  replace HB := Aside0.mk (pw_below_drewN HB.out nd6)
  go_wp2_with fail
  go_ret
  exact ⟨rfl, HB.out⟩
end Go.Proofs.YthglhfhepooggaaDoor.LwIsTideWay
