/- The walk of laws.FnExactFollowOrder, out of its callees' contracts. Conditions: the callees' answers. -/
import Derived.Test.YtbfgiccfbaobnaaWkFollowOrder
import Derived.Test.YtbfgiccfbaobnaaPFnExactFollowOrderx1
import Derived.Test.YtbfgiccfbaobnaaPFnExactFollowOrderx2
import Derived.Test.YtbfgiccfbaobnaaPFnExactFollowOrderx9
namespace Go.Proofs.Ytbfgiccfbaobnaa.LwFollowOrder
set_option linter.unusedVariables false
set_option linter.unusedSimpArgs false
open Go.RowKit Go.Proofs.YtbfgiccfbaobnaaW.PrintWords Go.Proofs.YtbfgiccfbaobnaaW.PrintLast Go.Proofs.YtbfgiccfbaobnaaW.PrintMore PFnExactFollowOrder

theorem held_n (k : Nat) (A : Option Addr) (c n : Nat) (l : List Int) (a : Int) (r : Int) (w : World) (hn : n = l.length) (hr : Kd.C (Kd.int .i64) w A l.length l) (hc : n ≤ c) (h : laws_heldIntS.f k l a = some r) :
    Calls Try.prog 18 #[.slice A n c, .int .i64 a] w fun e w' => e = .returned (.int .i64 r) ∧ Drawn0 w w' := by
  subst hn; exact laws_heldIntS.calls k A c l a r w hr hc h

set_option maxHeartbeats 4000000 in
set_option maxRecDepth 100000 in
theorem law (k : Nat) (A0 : Option Addr) (c0 : Nat) (A1 : Option Addr) (c1 : Nat) (l : List Int) (m : List Int) (r : List Int) (b : Bool) (rg : List Int) (n2 : Int) (w : World) (hr0 : Kd.C (Kd.int .i64) w A0 l.length l) (hc0 : l.length ≤ c0) (hl0 : l.length ≤ 1048576) (hr1 : Kd.C (Kd.int .i64) w A1 m.length m) (hc1 : m.length ≤ c1) (hl1 : m.length ≤ 1048576)
    (hT0 : laws_toIntS.f k l = some l) (hE0 : laws_eqIntS.f k l l = some true)
    (hT1 : laws_toIntS.f k m = some m) (hE1 : laws_eqIntS.f k m m = some true) (rm0 : List Int) (nm0 : Int) (hM0 : laws_markIntS.f k l 1 = some (nm0, rm0)) (rm1 : List Int) (nm1 : Int) (hM1 : laws_markIntS.f k m nm0 = some (nm1, rm1)) (hn : 0 ≤ nm1)
    (hEr : laws_eqIntS.f k r r = some true) (hMr : laws_markIntS.f k r 1 = some (n2, rg)) (hHr : laws_heldIntS.f k rg 1 = some n2) (hn2 : 0 ≤ n2)
    (hGl : spec_ptGood.f k l = some (Ord.ord l))
    (hGm : spec_ptGood.f k m = some (Ord.ord m))
    (hS : spec_FollowOrder.f k l m = some (r, b)) :
    Calls Try.prog 6 #[.slice A0 l.length c0, .slice A1 m.length c1] w fun e w' => e = .returned (.bool true) ∧ Below w.heap.size w w' := by
  have Hhr0 := Aside0.mk hr0
  have Hhr1 := Aside0.mk hr1
  have HhT0 := Aside0.mk hT0
  have HhT1 := Aside0.mk hT1
  have HhE0 := Aside0.mk hE0
  have HhE1 := Aside0.mk hE1
  have HhM0 := Aside0.mk hM0
  have HhM1 := Aside0.mk hM1
  have HhEr := Aside0.mk hEr
  have HhMr := Aside0.mk hMr
  have HhHr := Aside0.mk hHr
  have HhS := Aside0.mk hS
  have HhGl := Aside0.mk hGl
  have HhGm := Aside0.mk hGm
  clear hr0 hr1 hT0 hT1 hE0 hE1 hM0 hM1 hEr hMr hHr hS hGl hGm
  have HB := Aside0.mk (Below.refl w.heap.size w)
  have hbb : (b != b) = false := by simp
  have hn2q : (n2 != n2) = false := by simp
  go_enter Try.func6, Try.ntmps6
  go_wp2_with fail
  have hs1 := Aside0.mk HB.out.size
  refine (laws_toIntS.calls k A0 c0 l l _ (Kd.C_below Hhr0.out HB.out) hc0 HhT0.out).mono ?_
  rintro e w1 ⟨v1, rfl, h1, b1⟩
  obtain ⟨A_s0, c_s0, rfl⟩ := Kd.R_slice h1
  replace HB := Aside0.mk (HB.out.trans (b1.mono HB.out.size))
  have R_s0 := Aside0.mk (Kd.R_lower h1 hs1.out)
  clear h1 b1 hs1
  go_wp2_with fail
  have hs2 := Aside0.mk HB.out.size
  refine (laws_toIntS.calls k A1 c1 m m _ (Kd.C_below Hhr1.out HB.out) hc1 HhT1.out).mono ?_
  rintro e w2 ⟨v2, rfl, h2, b2⟩
  obtain ⟨A_s1, c_s1, rfl⟩ := Kd.R_slice h2
  have NE_s1_s0 : Aside0 (∀ k_, some k_ = (Value.slice A_s0 l.length c_s0).ownBlock → ¬ some k_ = (Value.slice A_s1 m.length c_s1).ownBlock) := ⟨fun k_ e1 e2 => absurd (Kd.R_lt R_s0.out k_ e1.symm) (Nat.not_lt.mpr (Kd.R_base h2 k_ e2.symm))⟩
  replace R_s0 := Aside0.mk (Kd.R_below R_s0.out b2)
  replace HB := Aside0.mk (HB.out.trans (b2.mono HB.out.size))
  have R_s1 := Aside0.mk (Kd.R_lower h2 hs2.out)
  clear h2 b2 hs2
  go_wp2_with fail
  have hs3 := Aside0.mk HB.out.size
  refine (spec_FollowOrder.calls k A_s0 c_s0 l A_s1 c_s1 m r b _ (Kd.R_reads' R_s0.out).2.2 (Kd.R_reads' R_s0.out).2.1 (Kd.R_reads' R_s1.out).2.2 (Kd.R_reads' R_s1.out).2.1 HhS.out).mono ?_
  rintro e w3 ⟨v3, rfl, h3, b3⟩
  obtain ⟨A_w0, c_w0, rfl⟩ := Kd.R_slice h3
  have NE_w0_s0 : Aside0 (∀ k_, some k_ = (Value.slice A_s0 l.length c_s0).ownBlock → ¬ some k_ = (Value.slice A_w0 r.length c_w0).ownBlock) := ⟨fun k_ e1 e2 => absurd (Kd.R_lt R_s0.out k_ e1.symm) (Nat.not_lt.mpr (Kd.R_base h3 k_ e2.symm))⟩
  have NE_w0_s1 : Aside0 (∀ k_, some k_ = (Value.slice A_s1 m.length c_s1).ownBlock → ¬ some k_ = (Value.slice A_w0 r.length c_w0).ownBlock) := ⟨fun k_ e1 e2 => absurd (Kd.R_lt R_s1.out k_ e1.symm) (Nat.not_lt.mpr (Kd.R_base h3 k_ e2.symm))⟩
  replace R_s0 := Aside0.mk (Kd.R_below R_s0.out b3)
  replace R_s1 := Aside0.mk (Kd.R_below R_s1.out b3)
  replace HB := Aside0.mk (HB.out.trans (b3.mono HB.out.size))
  have R_w0 := Aside0.mk (Kd.R_lower h3 hs3.out)
  clear h3 b3 hs3
  clear R_s0
  clear R_s1
  go_wp2_with fail
  have hs4 := Aside0.mk HB.out.size
  refine (laws_toIntS.calls k A0 c0 l l _ (Kd.C_below Hhr0.out HB.out) hc0 HhT0.out).mono ?_
  rintro e w4 ⟨v4, rfl, h4, b4⟩
  obtain ⟨A_x0, c_x0, rfl⟩ := Kd.R_slice h4
  have NE_x0_w0 : Aside0 (∀ k_, some k_ = (Value.slice A_w0 r.length c_w0).ownBlock → ¬ some k_ = (Value.slice A_x0 l.length c_x0).ownBlock) := ⟨fun k_ e1 e2 => absurd (Kd.R_lt R_w0.out k_ e1.symm) (Nat.not_lt.mpr (Kd.R_base h4 k_ e2.symm))⟩
  replace R_w0 := Aside0.mk (Kd.R_below R_w0.out b4)
  replace HB := Aside0.mk (HB.out.trans (b4.mono HB.out.size))
  have R_x0 := Aside0.mk (Kd.R_lower h4 hs4.out)
  clear h4 b4 hs4
  go_wp2_with fail
  have hs5 := Aside0.mk HB.out.size
  refine (laws_toIntS.calls k A1 c1 m m _ (Kd.C_below Hhr1.out HB.out) hc1 HhT1.out).mono ?_
  rintro e w5 ⟨v5, rfl, h5, b5⟩
  obtain ⟨A_x1, c_x1, rfl⟩ := Kd.R_slice h5
  have NE_x1_w0 : Aside0 (∀ k_, some k_ = (Value.slice A_w0 r.length c_w0).ownBlock → ¬ some k_ = (Value.slice A_x1 m.length c_x1).ownBlock) := ⟨fun k_ e1 e2 => absurd (Kd.R_lt R_w0.out k_ e1.symm) (Nat.not_lt.mpr (Kd.R_base h5 k_ e2.symm))⟩
  have NE_x1_x0 : Aside0 (∀ k_, some k_ = (Value.slice A_x0 l.length c_x0).ownBlock → ¬ some k_ = (Value.slice A_x1 m.length c_x1).ownBlock) := ⟨fun k_ e1 e2 => absurd (Kd.R_lt R_x0.out k_ e1.symm) (Nat.not_lt.mpr (Kd.R_base h5 k_ e2.symm))⟩
  replace R_w0 := Aside0.mk (Kd.R_below R_w0.out b5)
  replace R_x0 := Aside0.mk (Kd.R_below R_x0.out b5)
  replace HB := Aside0.mk (HB.out.trans (b5.mono HB.out.size))
  have R_x1 := Aside0.mk (Kd.R_lower h5 hs5.out)
  clear h5 b5 hs5
  go_wp2_with fail
  have hs6 := Aside0.mk HB.out.size
  refine (WkFollowOrder.impl k A_x0 c_x0 l A_x1 c_x1 m r b _ (Kd.R_reads' R_x0.out).2.2 (Kd.R_reads' R_x0.out).2.1 hl0 (Kd.R_reads' R_x1.out).2.2 (Kd.R_reads' R_x1.out).2.1 hl1 HhGl.out HhGm.out HhS.out).mono ?_
  rintro e w6 ⟨v6, rfl, h6, b6⟩
  obtain ⟨A_g, c_g, rfl⟩ := Kd.R_slice h6
  have NE_g_w0 : Aside0 (∀ k_, some k_ = (Value.slice A_w0 r.length c_w0).ownBlock → ¬ some k_ = (Value.slice A_g r.length c_g).ownBlock) := ⟨fun k_ e1 e2 => absurd (Kd.R_lt R_w0.out k_ e1.symm) (Nat.not_lt.mpr (Kd.R_base h6 k_ e2.symm))⟩
  have NE_g_x0 : Aside0 (∀ k_, some k_ = (Value.slice A_x0 l.length c_x0).ownBlock → ¬ some k_ = (Value.slice A_g r.length c_g).ownBlock) := ⟨fun k_ e1 e2 => absurd (Kd.R_lt R_x0.out k_ e1.symm) (Nat.not_lt.mpr (Kd.R_base h6 k_ e2.symm))⟩
  have NE_g_x1 : Aside0 (∀ k_, some k_ = (Value.slice A_x1 m.length c_x1).ownBlock → ¬ some k_ = (Value.slice A_g r.length c_g).ownBlock) := ⟨fun k_ e1 e2 => absurd (Kd.R_lt R_x1.out k_ e1.symm) (Nat.not_lt.mpr (Kd.R_base h6 k_ e2.symm))⟩
  replace R_w0 := Aside0.mk (Kd.R_below R_w0.out b6)
  replace R_x0 := Aside0.mk (Kd.R_below R_x0.out b6)
  replace R_x1 := Aside0.mk (Kd.R_below R_x1.out b6)
  replace HB := Aside0.mk (HB.out.trans (b6.mono HB.out.size))
  have R_g := Aside0.mk (Kd.R_lower h6 hs6.out)
  clear h6 b6 hs6
  go_wp2_with fail
  refine (laws_eqIntS.calls k A_g c_g r A_w0 c_w0 r true _ (Kd.R_reads' R_g.out).2.2 (Kd.R_reads' R_g.out).2.1 (Kd.R_reads' R_w0.out).2.2 (Kd.R_reads' R_w0.out).2.1 HhEr.out).mono ?_
  rintro e wx7 ⟨rfl, ⟨nd7, rfl⟩⟩
  replace R_w0 := Aside0.mk (Kd.R_drewN R_w0.out nd7)
  replace R_x0 := Aside0.mk (Kd.R_drewN R_x0.out nd7)
  replace R_x1 := Aside0.mk (Kd.R_drewN R_x1.out nd7)
  replace R_g := Aside0.mk (Kd.R_drewN R_g.out nd7)
  replace HB := Aside0.mk (pw_below_drewN HB.out nd7)
  generalize w6.drewN nd7 = w7 at HB R_w0 R_x0 R_x1 R_g ⊢
  go_wp2_with fail
  have hs8 := Aside0.mk HB.out.size
  refine (laws_toIntS.calls k A0 c0 l l _ (Kd.C_below Hhr0.out HB.out) hc0 HhT0.out).mono ?_
  rintro e w8 ⟨v8, rfl, h8, b8⟩
  obtain ⟨A_e0, c_e0, rfl⟩ := Kd.R_slice h8
  have NE_e0_w0 : Aside0 (∀ k_, some k_ = (Value.slice A_w0 r.length c_w0).ownBlock → ¬ some k_ = (Value.slice A_e0 l.length c_e0).ownBlock) := ⟨fun k_ e1 e2 => absurd (Kd.R_lt R_w0.out k_ e1.symm) (Nat.not_lt.mpr (Kd.R_base h8 k_ e2.symm))⟩
  have NE_e0_x0 : Aside0 (∀ k_, some k_ = (Value.slice A_x0 l.length c_x0).ownBlock → ¬ some k_ = (Value.slice A_e0 l.length c_e0).ownBlock) := ⟨fun k_ e1 e2 => absurd (Kd.R_lt R_x0.out k_ e1.symm) (Nat.not_lt.mpr (Kd.R_base h8 k_ e2.symm))⟩
  have NE_e0_x1 : Aside0 (∀ k_, some k_ = (Value.slice A_x1 m.length c_x1).ownBlock → ¬ some k_ = (Value.slice A_e0 l.length c_e0).ownBlock) := ⟨fun k_ e1 e2 => absurd (Kd.R_lt R_x1.out k_ e1.symm) (Nat.not_lt.mpr (Kd.R_base h8 k_ e2.symm))⟩
  have NE_e0_g : Aside0 (∀ k_, some k_ = (Value.slice A_g r.length c_g).ownBlock → ¬ some k_ = (Value.slice A_e0 l.length c_e0).ownBlock) := ⟨fun k_ e1 e2 => absurd (Kd.R_lt R_g.out k_ e1.symm) (Nat.not_lt.mpr (Kd.R_base h8 k_ e2.symm))⟩
  replace R_w0 := Aside0.mk (Kd.R_below R_w0.out b8)
  replace R_x0 := Aside0.mk (Kd.R_below R_x0.out b8)
  replace R_x1 := Aside0.mk (Kd.R_below R_x1.out b8)
  replace R_g := Aside0.mk (Kd.R_below R_g.out b8)
  replace HB := Aside0.mk (HB.out.trans (b8.mono HB.out.size))
  have R_e0 := Aside0.mk (Kd.R_lower h8 hs8.out)
  clear h8 b8 hs8
  go_wp2_with fail
  refine (laws_eqIntS.calls k A_x0 c_x0 l A_e0 c_e0 l true _ (Kd.R_reads' R_x0.out).2.2 (Kd.R_reads' R_x0.out).2.1 (Kd.R_reads' R_e0.out).2.2 (Kd.R_reads' R_e0.out).2.1 HhE0.out).mono ?_
  rintro e wx9 ⟨rfl, ⟨nd9, rfl⟩⟩
  replace R_w0 := Aside0.mk (Kd.R_drewN R_w0.out nd9)
  replace R_x0 := Aside0.mk (Kd.R_drewN R_x0.out nd9)
  replace R_x1 := Aside0.mk (Kd.R_drewN R_x1.out nd9)
  replace R_g := Aside0.mk (Kd.R_drewN R_g.out nd9)
  replace R_e0 := Aside0.mk (Kd.R_drewN R_e0.out nd9)
  replace HB := Aside0.mk (pw_below_drewN HB.out nd9)
  generalize w8.drewN nd9 = w9 at HB R_w0 R_x0 R_x1 R_g R_e0 ⊢
  clear R_e0
  go_wp2_with fail
  have hs10 := Aside0.mk HB.out.size
  refine (laws_toIntS.calls k A1 c1 m m _ (Kd.C_below Hhr1.out HB.out) hc1 HhT1.out).mono ?_
  rintro e w10 ⟨v10, rfl, h10, b10⟩
  obtain ⟨A_e1, c_e1, rfl⟩ := Kd.R_slice h10
  have NE_e1_w0 : Aside0 (∀ k_, some k_ = (Value.slice A_w0 r.length c_w0).ownBlock → ¬ some k_ = (Value.slice A_e1 m.length c_e1).ownBlock) := ⟨fun k_ e1 e2 => absurd (Kd.R_lt R_w0.out k_ e1.symm) (Nat.not_lt.mpr (Kd.R_base h10 k_ e2.symm))⟩
  have NE_e1_x0 : Aside0 (∀ k_, some k_ = (Value.slice A_x0 l.length c_x0).ownBlock → ¬ some k_ = (Value.slice A_e1 m.length c_e1).ownBlock) := ⟨fun k_ e1 e2 => absurd (Kd.R_lt R_x0.out k_ e1.symm) (Nat.not_lt.mpr (Kd.R_base h10 k_ e2.symm))⟩
  have NE_e1_x1 : Aside0 (∀ k_, some k_ = (Value.slice A_x1 m.length c_x1).ownBlock → ¬ some k_ = (Value.slice A_e1 m.length c_e1).ownBlock) := ⟨fun k_ e1 e2 => absurd (Kd.R_lt R_x1.out k_ e1.symm) (Nat.not_lt.mpr (Kd.R_base h10 k_ e2.symm))⟩
  have NE_e1_g : Aside0 (∀ k_, some k_ = (Value.slice A_g r.length c_g).ownBlock → ¬ some k_ = (Value.slice A_e1 m.length c_e1).ownBlock) := ⟨fun k_ e1 e2 => absurd (Kd.R_lt R_g.out k_ e1.symm) (Nat.not_lt.mpr (Kd.R_base h10 k_ e2.symm))⟩
  replace R_w0 := Aside0.mk (Kd.R_below R_w0.out b10)
  replace R_x0 := Aside0.mk (Kd.R_below R_x0.out b10)
  replace R_x1 := Aside0.mk (Kd.R_below R_x1.out b10)
  replace R_g := Aside0.mk (Kd.R_below R_g.out b10)
  replace HB := Aside0.mk (HB.out.trans (b10.mono HB.out.size))
  have R_e1 := Aside0.mk (Kd.R_lower h10 hs10.out)
  clear h10 b10 hs10
  go_wp2_with fail
  refine (laws_eqIntS.calls k A_x1 c_x1 m A_e1 c_e1 m true _ (Kd.R_reads' R_x1.out).2.2 (Kd.R_reads' R_x1.out).2.1 (Kd.R_reads' R_e1.out).2.2 (Kd.R_reads' R_e1.out).2.1 HhE1.out).mono ?_
  rintro e wx11 ⟨rfl, ⟨nd11, rfl⟩⟩
  replace R_w0 := Aside0.mk (Kd.R_drewN R_w0.out nd11)
  replace R_x0 := Aside0.mk (Kd.R_drewN R_x0.out nd11)
  replace R_x1 := Aside0.mk (Kd.R_drewN R_x1.out nd11)
  replace R_g := Aside0.mk (Kd.R_drewN R_g.out nd11)
  replace R_e1 := Aside0.mk (Kd.R_drewN R_e1.out nd11)
  replace HB := Aside0.mk (pw_below_drewN HB.out nd11)
  generalize w10.drewN nd11 = w11 at HB R_w0 R_x0 R_x1 R_g R_e1 ⊢
  clear R_e1
  go_wp2_with fail
  refine (laws_markIntS.calls k (fun k_ => some k_ = (Value.slice A_x0 l.length c_x0).ownBlock) (Value.slice A_x0 l.length c_x0) l 1 nm0 rm0 w _ HB.out (Kd.R_tight rfl R_x0.out) HhM0.out).mono ?_
  rintro e w12 ⟨rfl, h12, b12, k12⟩
  replace R_w0 := Aside0.mk (Kd.R_kept (Kd.R_tight rfl R_w0.out) k12 (fun k_ h_ => NE_x0_w0.out k_ h_))
  replace R_x1 := Aside0.mk (Kd.R_kept (Kd.R_tight rfl R_x1.out) k12 (fun k_ h_ => fun e_ => NE_x1_x0.out k_ e_ h_))
  replace R_g := Aside0.mk (Kd.R_kept (Kd.R_tight rfl R_g.out) k12 (fun k_ h_ => fun e_ => NE_g_x0.out k_ e_ h_))
  replace R_x0 := Aside0.mk h12
  replace HB := Aside0.mk b12
  clear h12 b12 k12
  clear R_x0
  go_wp2_with fail
  refine (laws_markIntS.calls k (fun k_ => some k_ = (Value.slice A_x1 m.length c_x1).ownBlock) (Value.slice A_x1 m.length c_x1) m nm0 nm1 rm1 w _ HB.out (Kd.R_tight rfl R_x1.out) HhM1.out).mono ?_
  rintro e w13 ⟨rfl, h13, b13, k13⟩
  replace R_w0 := Aside0.mk (Kd.R_kept (Kd.R_tight rfl R_w0.out) k13 (fun k_ h_ => NE_x1_w0.out k_ h_))
  replace R_g := Aside0.mk (Kd.R_kept (Kd.R_tight rfl R_g.out) k13 (fun k_ h_ => fun e_ => NE_g_x1.out k_ e_ h_))
  replace R_x1 := Aside0.mk h13
  replace HB := Aside0.mk b13
  clear h13 b13 k13
  clear R_x1
  go_wp2_with fail
  refine (laws_eqIntS.calls k A_g c_g r A_w0 c_w0 r true _ (Kd.R_reads' R_g.out).2.2 (Kd.R_reads' R_g.out).2.1 (Kd.R_reads' R_w0.out).2.2 (Kd.R_reads' R_w0.out).2.1 HhEr.out).mono ?_
  rintro e wx14 ⟨rfl, ⟨nd14, rfl⟩⟩
  replace R_w0 := Aside0.mk (Kd.R_drewN R_w0.out nd14)
  replace R_g := Aside0.mk (Kd.R_drewN R_g.out nd14)
  replace HB := Aside0.mk (pw_below_drewN HB.out nd14)
  generalize w13.drewN nd14 = w14 at HB R_w0 R_g ⊢
  go_wp2_with fail
  refine (laws_markIntS.calls k (fun k_ => some k_ = (Value.slice A_g r.length c_g).ownBlock) (Value.slice A_g r.length c_g) r 1 n2 rg w _ HB.out (Kd.R_tight rfl R_g.out) HhMr.out).mono ?_
  rintro e w15 ⟨rfl, h15, b15, k15⟩
  replace R_w0 := Aside0.mk (Kd.R_kept (Kd.R_tight rfl R_w0.out) k15 (fun k_ h_ => NE_g_w0.out k_ h_))
  replace R_g := Aside0.mk h15
  replace HB := Aside0.mk b15
  clear h15 b15 k15
  go_wp2_with fail
  refine (held_n k A_g c_g r.length rg 1 n2 _ (Kd.R_reads' R_g.out).1 (Kd.R_reads' R_g.out).2.2 (Kd.R_reads' R_g.out).2.1 HhHr.out).mono ?_
  rintro e wx16 ⟨rfl, ⟨nd16, rfl⟩⟩
  replace R_w0 := Aside0.mk (Kd.R_drewN R_w0.out nd16)
  replace R_g := Aside0.mk (Kd.R_drewN R_g.out nd16)
  replace HB := Aside0.mk (pw_below_drewN HB.out nd16)
  generalize w15.drewN nd16 = w16 at HB R_w0 R_g ⊢
  go_wp2_with fail
  have hs17 := Aside0.mk HB.out.size
  refine (laws_toIntS.calls k A0 c0 l l _ (Kd.C_below Hhr0.out HB.out) hc0 HhT0.out).mono ?_
  rintro e w17 ⟨v17, rfl, h17, b17⟩
  obtain ⟨A_z0, c_z0, rfl⟩ := Kd.R_slice h17
  have NE_z0_w0 : Aside0 (∀ k_, some k_ = (Value.slice A_w0 r.length c_w0).ownBlock → ¬ some k_ = (Value.slice A_z0 l.length c_z0).ownBlock) := ⟨fun k_ e1 e2 => absurd (Kd.R_lt R_w0.out k_ e1.symm) (Nat.not_lt.mpr (Kd.R_base h17 k_ e2.symm))⟩
  have NE_z0_g : Aside0 (∀ k_, some k_ = (Value.slice A_g r.length c_g).ownBlock → ¬ some k_ = (Value.slice A_z0 l.length c_z0).ownBlock) := ⟨fun k_ e1 e2 => absurd (Kd.R_lt R_g.out k_ e1.symm) (Nat.not_lt.mpr (Kd.R_base h17 k_ e2.symm))⟩
  replace R_w0 := Aside0.mk (Kd.R_below R_w0.out b17)
  replace R_g := Aside0.mk (Kd.R_below R_g.out b17)
  replace HB := Aside0.mk (HB.out.trans (b17.mono HB.out.size))
  have R_z0 := Aside0.mk (Kd.R_lower h17 hs17.out)
  clear h17 b17 hs17
  go_wp2_with fail
  have hs18 := Aside0.mk HB.out.size
  refine (laws_toIntS.calls k A1 c1 m m _ (Kd.C_below Hhr1.out HB.out) hc1 HhT1.out).mono ?_
  rintro e w18 ⟨v18, rfl, h18, b18⟩
  obtain ⟨A_z1, c_z1, rfl⟩ := Kd.R_slice h18
  have NE_z1_w0 : Aside0 (∀ k_, some k_ = (Value.slice A_w0 r.length c_w0).ownBlock → ¬ some k_ = (Value.slice A_z1 m.length c_z1).ownBlock) := ⟨fun k_ e1 e2 => absurd (Kd.R_lt R_w0.out k_ e1.symm) (Nat.not_lt.mpr (Kd.R_base h18 k_ e2.symm))⟩
  have NE_z1_g : Aside0 (∀ k_, some k_ = (Value.slice A_g r.length c_g).ownBlock → ¬ some k_ = (Value.slice A_z1 m.length c_z1).ownBlock) := ⟨fun k_ e1 e2 => absurd (Kd.R_lt R_g.out k_ e1.symm) (Nat.not_lt.mpr (Kd.R_base h18 k_ e2.symm))⟩
  have NE_z1_z0 : Aside0 (∀ k_, some k_ = (Value.slice A_z0 l.length c_z0).ownBlock → ¬ some k_ = (Value.slice A_z1 m.length c_z1).ownBlock) := ⟨fun k_ e1 e2 => absurd (Kd.R_lt R_z0.out k_ e1.symm) (Nat.not_lt.mpr (Kd.R_base h18 k_ e2.symm))⟩
  replace R_w0 := Aside0.mk (Kd.R_below R_w0.out b18)
  replace R_g := Aside0.mk (Kd.R_below R_g.out b18)
  replace R_z0 := Aside0.mk (Kd.R_below R_z0.out b18)
  replace HB := Aside0.mk (HB.out.trans (b18.mono HB.out.size))
  have R_z1 := Aside0.mk (Kd.R_lower h18 hs18.out)
  clear h18 b18 hs18
  go_wp2_with fail
  have hs19 := Aside0.mk HB.out.size
  refine (WkFollowOrder.impl k A_z0 c_z0 l A_z1 c_z1 m r b _ (Kd.R_reads' R_z0.out).2.2 (Kd.R_reads' R_z0.out).2.1 hl0 (Kd.R_reads' R_z1.out).2.2 (Kd.R_reads' R_z1.out).2.1 hl1 HhGl.out HhGm.out HhS.out).mono ?_
  rintro e w19 ⟨v19, rfl, h19, b19⟩
  obtain ⟨A_h, c_h, rfl⟩ := Kd.R_slice h19
  have NE_h_w0 : Aside0 (∀ k_, some k_ = (Value.slice A_w0 r.length c_w0).ownBlock → ¬ some k_ = (Value.slice A_h r.length c_h).ownBlock) := ⟨fun k_ e1 e2 => absurd (Kd.R_lt R_w0.out k_ e1.symm) (Nat.not_lt.mpr (Kd.R_base h19 k_ e2.symm))⟩
  have NE_h_g : Aside0 (∀ k_, some k_ = (Value.slice A_g r.length c_g).ownBlock → ¬ some k_ = (Value.slice A_h r.length c_h).ownBlock) := ⟨fun k_ e1 e2 => absurd (Kd.R_lt R_g.out k_ e1.symm) (Nat.not_lt.mpr (Kd.R_base h19 k_ e2.symm))⟩
  have NE_h_z0 : Aside0 (∀ k_, some k_ = (Value.slice A_z0 l.length c_z0).ownBlock → ¬ some k_ = (Value.slice A_h r.length c_h).ownBlock) := ⟨fun k_ e1 e2 => absurd (Kd.R_lt R_z0.out k_ e1.symm) (Nat.not_lt.mpr (Kd.R_base h19 k_ e2.symm))⟩
  have NE_h_z1 : Aside0 (∀ k_, some k_ = (Value.slice A_z1 m.length c_z1).ownBlock → ¬ some k_ = (Value.slice A_h r.length c_h).ownBlock) := ⟨fun k_ e1 e2 => absurd (Kd.R_lt R_z1.out k_ e1.symm) (Nat.not_lt.mpr (Kd.R_base h19 k_ e2.symm))⟩
  replace R_w0 := Aside0.mk (Kd.R_below R_w0.out b19)
  replace R_g := Aside0.mk (Kd.R_below R_g.out b19)
  replace R_z0 := Aside0.mk (Kd.R_below R_z0.out b19)
  replace R_z1 := Aside0.mk (Kd.R_below R_z1.out b19)
  replace HB := Aside0.mk (HB.out.trans (b19.mono HB.out.size))
  have R_h := Aside0.mk (Kd.R_lower h19 hs19.out)
  clear h19 b19 hs19
  clear R_z0
  clear R_z1
  go_wp2_with fail
  refine (laws_eqIntS.calls k A_h c_h r A_w0 c_w0 r true _ (Kd.R_reads' R_h.out).2.2 (Kd.R_reads' R_h.out).2.1 (Kd.R_reads' R_w0.out).2.2 (Kd.R_reads' R_w0.out).2.1 HhEr.out).mono ?_
  rintro e wx20 ⟨rfl, ⟨nd20, rfl⟩⟩
  replace R_w0 := Aside0.mk (Kd.R_drewN R_w0.out nd20)
  replace R_g := Aside0.mk (Kd.R_drewN R_g.out nd20)
  replace R_h := Aside0.mk (Kd.R_drewN R_h.out nd20)
  replace HB := Aside0.mk (pw_below_drewN HB.out nd20)
  generalize w19.drewN nd20 = w20 at HB R_w0 R_g R_h ⊢
  go_wp2_with fail
  refine (held_n k A_g c_g r.length rg 1 n2 _ (Kd.R_reads' R_g.out).1 (Kd.R_reads' R_g.out).2.2 (Kd.R_reads' R_g.out).2.1 HhHr.out).mono ?_
  rintro e wx21 ⟨rfl, ⟨nd21, rfl⟩⟩
  replace R_w0 := Aside0.mk (Kd.R_drewN R_w0.out nd21)
  replace R_g := Aside0.mk (Kd.R_drewN R_g.out nd21)
  replace R_h := Aside0.mk (Kd.R_drewN R_h.out nd21)
  replace HB := Aside0.mk (pw_below_drewN HB.out nd21)
  generalize w20.drewN nd21 = w21 at HB R_w0 R_g R_h ⊢
  go_wp2_with fail
  go_ret
  exact ⟨rfl, HB.out⟩
end Go.Proofs.Ytbfgiccfbaobnaa.LwFollowOrder
