/- laws.FnExactOrderOfRank: the walk out of its callees' contracts. Condition: both callees give the same. -/
import Derived.Test.YtnnedicoapdkkaaWkOrderOfRank
namespace Go.Proofs.Ytnnedicoapdkkaa.LwOrderOfRank
set_option linter.unusedVariables false
set_option linter.unusedSimpArgs false
open Go.RowKit Go.Proofs.YtnnedicoapdkkaaW.PrintWords Go.Proofs.YtnnedicoapdkkaaW.PrintLast PFnExactOrderOfRank

theorem held_n (k : Nat) (A : Option Addr) (c n : Nat) (l : List Int) (a : Int) (r : Int) (w : World) (hn : n = l.length) (hr : Kd.C (Kd.int .i64) w A l.length l) (hc : n ≤ c) (h : laws_heldIntS.f k l a = some r) :
    Calls Try.prog 33 #[.slice A n c, .int .i64 a] w fun e w' => e = .returned (.int .i64 r) ∧ Drawn0 w w' := by
  subst hn; exact laws_heldIntS.calls k A c l a r w hr hc h

set_option maxHeartbeats 4000000 in
set_option maxRecDepth 100000 in
theorem law (k : Nat) (a p : Int) (r : List Int) (b : Bool) (rg : List Int) (n2 : Int) (w : World)
    (cS : ∀ W, Calls Try.prog 29 #[.int .i64 a, .int .i64 p] W fun e w' => ∃ v, e = .returned (.tuple #[v, .bool b]) ∧ Kd.R (Kd.int .i64) 3 w' W.heap.size (fun _ => True) v r ∧ Below W.heap.size W w')
    (cI : ∀ W, Calls Try.prog 30 #[.int .i64 a, .int .i64 p] W fun e w' => ∃ v, e = .returned (.tuple #[v, .bool b]) ∧ Kd.R (Kd.int .i64) 3 w' W.heap.size (fun _ => True) v r ∧ Below W.heap.size W w')
    (hEr : laws_eqIntS.f k r r = some true) (hMr : laws_markIntS.f k r 1 = some (n2, rg)) (hHr : laws_heldIntS.f k rg 1 = some n2) (hn2 : 0 ≤ n2) :
    Calls Try.prog 10 #[.int .i64 a, .int .i64 p] w fun e w' => e = .returned (.bool true) ∧ Below w.heap.size w w' := by
  have HcS := Aside0.mk cS
  clear cS
  have HcI := Aside0.mk cI
  clear cI
  have HhEr := Aside0.mk hEr
  clear hEr
  have HhMr := Aside0.mk hMr
  clear hMr
  have HhHr := Aside0.mk hHr
  clear hHr
  have hbb : (b != b) = false := by simp
  have hn2q : (n2 != n2) = false := by simp
  have HB := Aside0.mk (Below.refl w.heap.size w)
  go_enter Try.func10, Try.ntmps10
  go_wp2_with fail
  have hs1 := Aside0.mk HB.out.size
  refine (HcS.out _).mono ?_
  rintro e w1 ⟨v1, rfl, h1, b1⟩
  obtain ⟨A_w0, c_w0, rfl⟩ := Kd.R_slice h1
  replace HB := Aside0.mk (HB.out.trans (b1.mono HB.out.size))
  have R_w0 := Aside0.mk (Kd.R_lower h1 hs1.out)
  clear h1 b1 hs1
  go_wp2_with fail
  have hs2 := Aside0.mk HB.out.size
  refine (HcI.out _).mono ?_
  rintro e w2 ⟨v2, rfl, h2, b2⟩
  obtain ⟨A_g, c_g, rfl⟩ := Kd.R_slice h2
  have NE_g_w0 : Aside0 (∀ k_, some k_ = (Value.slice A_w0 r.length c_w0).ownBlock → ¬ some k_ = (Value.slice A_g r.length c_g).ownBlock) := ⟨fun k_ e1 e2 => absurd (Kd.R_lt R_w0.out k_ e1.symm) (Nat.not_lt.mpr (Kd.R_base h2 k_ e2.symm))⟩
  replace R_w0 := Aside0.mk (Kd.R_below R_w0.out b2)
  replace HB := Aside0.mk (HB.out.trans (b2.mono HB.out.size))
  have R_g := Aside0.mk (Kd.R_lower h2 hs2.out)
  clear h2 b2 hs2
  go_wp2_with fail
  refine (laws_eqIntS.calls k A_g c_g r A_w0 c_w0 r true _ (Kd.R_reads' R_g.out).2.2 (Kd.R_reads' R_g.out).2.1 (Kd.R_reads' R_w0.out).2.2 (Kd.R_reads' R_w0.out).2.1 HhEr.out).mono ?_
  rintro e wx3 ⟨rfl, ⟨nd3, rfl⟩⟩
  replace R_w0 := Aside0.mk (Kd.R_drewN R_w0.out nd3)
  replace R_g := Aside0.mk (Kd.R_drewN R_g.out nd3)
  replace HB := Aside0.mk (pw_below_drewN HB.out nd3)
  generalize w2.drewN nd3 = w3 at HB R_w0 R_g ⊢
  go_wp2_with fail
  refine (laws_markIntS.calls k (fun k_ => some k_ = (Value.slice A_g r.length c_g).ownBlock) (Value.slice A_g r.length c_g) r 1 n2 rg w _ HB.out (Kd.R_tight rfl R_g.out) HhMr.out).mono ?_
  rintro e w4 ⟨rfl, h4, b4, k4⟩
  replace R_w0 := Aside0.mk (Kd.R_kept (Kd.R_tight rfl R_w0.out) k4 (fun k_ h_ => NE_g_w0.out k_ h_))
  replace R_g := Aside0.mk h4
  replace HB := Aside0.mk b4
  clear h4 b4 k4
  go_wp2_with fail
  refine (held_n k A_g c_g r.length rg 1 n2 _ (Kd.R_reads' R_g.out).1 (Kd.R_reads' R_g.out).2.2 (Kd.R_reads' R_g.out).2.1 HhHr.out).mono ?_
  rintro e wx5 ⟨rfl, ⟨nd5, rfl⟩⟩
  replace R_w0 := Aside0.mk (Kd.R_drewN R_w0.out nd5)
  replace R_g := Aside0.mk (Kd.R_drewN R_g.out nd5)
  replace HB := Aside0.mk (pw_below_drewN HB.out nd5)
  generalize w4.drewN nd5 = w5 at HB R_w0 R_g ⊢
  go_wp2_with fail
  have hs6 := Aside0.mk HB.out.size
  refine (HcI.out _).mono ?_
  rintro e w6 ⟨v6, rfl, h6, b6⟩
  obtain ⟨A_h, c_h, rfl⟩ := Kd.R_slice h6
  have NE_h_w0 : Aside0 (∀ k_, some k_ = (Value.slice A_w0 r.length c_w0).ownBlock → ¬ some k_ = (Value.slice A_h r.length c_h).ownBlock) := ⟨fun k_ e1 e2 => absurd (Kd.R_lt R_w0.out k_ e1.symm) (Nat.not_lt.mpr (Kd.R_base h6 k_ e2.symm))⟩
  have NE_h_g : Aside0 (∀ k_, some k_ = (Value.slice A_g r.length c_g).ownBlock → ¬ some k_ = (Value.slice A_h r.length c_h).ownBlock) := ⟨fun k_ e1 e2 => absurd (Kd.R_lt R_g.out k_ e1.symm) (Nat.not_lt.mpr (Kd.R_base h6 k_ e2.symm))⟩
  replace R_w0 := Aside0.mk (Kd.R_below R_w0.out b6)
  replace R_g := Aside0.mk (Kd.R_below R_g.out b6)
  replace HB := Aside0.mk (HB.out.trans (b6.mono HB.out.size))
  have R_h := Aside0.mk (Kd.R_lower h6 hs6.out)
  clear h6 b6 hs6
  go_wp2_with fail
  refine (laws_eqIntS.calls k A_h c_h r A_w0 c_w0 r true _ (Kd.R_reads' R_h.out).2.2 (Kd.R_reads' R_h.out).2.1 (Kd.R_reads' R_w0.out).2.2 (Kd.R_reads' R_w0.out).2.1 HhEr.out).mono ?_
  rintro e wx7 ⟨rfl, ⟨nd7, rfl⟩⟩
  replace R_w0 := Aside0.mk (Kd.R_drewN R_w0.out nd7)
  replace R_g := Aside0.mk (Kd.R_drewN R_g.out nd7)
  replace R_h := Aside0.mk (Kd.R_drewN R_h.out nd7)
  replace HB := Aside0.mk (pw_below_drewN HB.out nd7)
  generalize w6.drewN nd7 = w7 at HB R_w0 R_g R_h ⊢
  go_wp2_with fail
  refine (held_n k A_g c_g r.length rg 1 n2 _ (Kd.R_reads' R_g.out).1 (Kd.R_reads' R_g.out).2.2 (Kd.R_reads' R_g.out).2.1 HhHr.out).mono ?_
  rintro e wx8 ⟨rfl, ⟨nd8, rfl⟩⟩
  replace R_w0 := Aside0.mk (Kd.R_drewN R_w0.out nd8)
  replace R_g := Aside0.mk (Kd.R_drewN R_g.out nd8)
  replace R_h := Aside0.mk (Kd.R_drewN R_h.out nd8)
  replace HB := Aside0.mk (pw_below_drewN HB.out nd8)
  generalize w7.drewN nd8 = w8 at HB R_w0 R_g R_h ⊢
  go_wp2_with fail
  go_ret
  exact ⟨rfl, HB.out⟩
end Go.Proofs.Ytnnedicoapdkkaa.LwOrderOfRank
