/- The walk of laws.FnExactTurnFront, out of its callees' contracts. Conditions: the callees' answers. -/
import Derived.Test.YtbfgiccfbaobnaaWkTurnFront
import Derived.Test.YtbfgiccfbaobnaaPFnExactTurnFrontx1
import Derived.Test.YtbfgiccfbaobnaaPFnExactTurnFrontx2
import Derived.Test.YtbfgiccfbaobnaaPFnExactTurnFrontx9
namespace Go.Proofs.Ytbfgiccfbaobnaa.LwTurnFront
set_option linter.unusedVariables false
set_option linter.unusedSimpArgs false
open Go.RowKit Go.Proofs.YtbfgiccfbaobnaaW.PrintWords Go.Proofs.YtbfgiccfbaobnaaW.PrintLast Go.Proofs.YtbfgiccfbaobnaaW.PrintMore PFnExactTurnFront

theorem held_n (k : Nat) (A : Option Addr) (c n : Nat) (l : List Int) (a : Int) (r : Int) (w : World) (hn : n = l.length) (hr : Kd.C (Kd.int .i64) w A l.length l) (hc : n ≤ c) (h : laws_heldIntS.f k l a = some r) :
    Calls Try.prog 18 #[.slice A n c, .int .i64 a] w fun e w' => e = .returned (.int .i64 r) ∧ Drawn0 w w' := by
  subst hn; exact laws_heldIntS.calls k A c l a r w hr hc h

set_option maxHeartbeats 4000000 in
set_option maxRecDepth 100000 in
theorem law (k : Nat) (A0 : Option Addr) (c0 : Nat) (l : List Int) (a : Int) (r : List Int) (b : Bool) (rg : List Int) (n2 : Int) (w : World) (hr0 : Kd.C (Kd.int .i64) w A0 l.length l) (hc0 : l.length ≤ c0) (hl0 : l.length ≤ 1048576)
    (hT0 : laws_toIntS.f k l = some l) (hE0 : laws_eqIntS.f k l l = some true) (rm0 : List Int) (nm0 : Int) (hM0 : laws_markIntS.f k l 1 = some (nm0, rm0)) (hn : 0 ≤ nm0)
    (hEr : laws_eqIntS.f k r r = some true) (hMr : laws_markIntS.f k r 1 = some (n2, rg)) (hHr : laws_heldIntS.f k rg 1 = some n2) (hn2 : 0 ≤ n2)
    (hGl : spec_ptGood.f k l = some (Ord.ord l))
    (hS : spec_TurnFront.f k l a = some (r, b)) :
    Calls Try.prog 9 #[.slice A0 l.length c0, .int .i64 a] w fun e w' => e = .returned (.bool true) ∧ Below w.heap.size w w' := by
  have Hhr0 := Aside0.mk hr0
  have HhT0 := Aside0.mk hT0
  have HhE0 := Aside0.mk hE0
  have HhM0 := Aside0.mk hM0
  have HhEr := Aside0.mk hEr
  have HhMr := Aside0.mk hMr
  have HhHr := Aside0.mk hHr
  have HhS := Aside0.mk hS
  have HhGl := Aside0.mk hGl
  clear hr0 hT0 hE0 hM0 hEr hMr hHr hS hGl
  have HB := Aside0.mk (Below.refl w.heap.size w)
  have hbb : (b != b) = false := by simp
  have hn2q : (n2 != n2) = false := by simp
  go_enter Try.func9, Try.ntmps9
  go_wp2_with fail
  have hs1 := Aside0.mk HB.out.size
  refine (laws_toIntS.calls k A0 c0 l l _ (Kd.C_below Hhr0.out HB.out) hc0 HhT0.out).mono ?_
  rintro e w1 ⟨v1, rfl, h1, b1⟩
  obtain ⟨A_s0, c_s0, rfl⟩ := Kd.R_slice h1
  replace HB := Aside0.mk (HB.out.trans (b1.mono HB.out.size))
  have R_s0 := Aside0.mk (Kd.R_lower h1 hs1.out)
  clear h1 b1 hs1
  go_wp2_with fail
  have hs2 := Aside0.mk HB.out.size
  refine (spec_TurnFront.calls k A_s0 c_s0 l a r b _ (Kd.R_reads' R_s0.out).2.2 (Kd.R_reads' R_s0.out).2.1 HhS.out).mono ?_
  rintro e w2 ⟨v2, rfl, h2, b2⟩
  obtain ⟨A_w0, c_w0, rfl⟩ := Kd.R_slice h2
  have NE_w0_s0 : Aside0 (∀ k_, some k_ = (Value.slice A_s0 l.length c_s0).ownBlock → ¬ some k_ = (Value.slice A_w0 r.length c_w0).ownBlock) := ⟨fun k_ e1 e2 => absurd (Kd.R_lt R_s0.out k_ e1.symm) (Nat.not_lt.mpr (Kd.R_base h2 k_ e2.symm))⟩
  replace R_s0 := Aside0.mk (Kd.R_below R_s0.out b2)
  replace HB := Aside0.mk (HB.out.trans (b2.mono HB.out.size))
  have R_w0 := Aside0.mk (Kd.R_lower h2 hs2.out)
  clear h2 b2 hs2
  clear R_s0
  go_wp2_with fail
  have hs3 := Aside0.mk HB.out.size
  refine (laws_toIntS.calls k A0 c0 l l _ (Kd.C_below Hhr0.out HB.out) hc0 HhT0.out).mono ?_
  rintro e w3 ⟨v3, rfl, h3, b3⟩
  obtain ⟨A_x0, c_x0, rfl⟩ := Kd.R_slice h3
  have NE_x0_w0 : Aside0 (∀ k_, some k_ = (Value.slice A_w0 r.length c_w0).ownBlock → ¬ some k_ = (Value.slice A_x0 l.length c_x0).ownBlock) := ⟨fun k_ e1 e2 => absurd (Kd.R_lt R_w0.out k_ e1.symm) (Nat.not_lt.mpr (Kd.R_base h3 k_ e2.symm))⟩
  replace R_w0 := Aside0.mk (Kd.R_below R_w0.out b3)
  replace HB := Aside0.mk (HB.out.trans (b3.mono HB.out.size))
  have R_x0 := Aside0.mk (Kd.R_lower h3 hs3.out)
  clear h3 b3 hs3
  go_wp2_with fail
  have hs4 := Aside0.mk HB.out.size
  refine (WkTurnFront.impl k A_x0 c_x0 l a r b _ (Kd.R_reads' R_x0.out).2.2 (Kd.R_reads' R_x0.out).2.1 hl0 HhGl.out HhS.out).mono ?_
  rintro e w4 ⟨v4, rfl, h4, b4⟩
  obtain ⟨A_g, c_g, rfl⟩ := Kd.R_slice h4
  have NE_g_w0 : Aside0 (∀ k_, some k_ = (Value.slice A_w0 r.length c_w0).ownBlock → ¬ some k_ = (Value.slice A_g r.length c_g).ownBlock) := ⟨fun k_ e1 e2 => absurd (Kd.R_lt R_w0.out k_ e1.symm) (Nat.not_lt.mpr (Kd.R_base h4 k_ e2.symm))⟩
  have NE_g_x0 : Aside0 (∀ k_, some k_ = (Value.slice A_x0 l.length c_x0).ownBlock → ¬ some k_ = (Value.slice A_g r.length c_g).ownBlock) := ⟨fun k_ e1 e2 => absurd (Kd.R_lt R_x0.out k_ e1.symm) (Nat.not_lt.mpr (Kd.R_base h4 k_ e2.symm))⟩
  replace R_w0 := Aside0.mk (Kd.R_below R_w0.out b4)
  replace R_x0 := Aside0.mk (Kd.R_below R_x0.out b4)
  replace HB := Aside0.mk (HB.out.trans (b4.mono HB.out.size))
  have R_g := Aside0.mk (Kd.R_lower h4 hs4.out)
  clear h4 b4 hs4
  go_wp2_with fail
  refine (laws_eqIntS.calls k A_g c_g r A_w0 c_w0 r true _ (Kd.R_reads' R_g.out).2.2 (Kd.R_reads' R_g.out).2.1 (Kd.R_reads' R_w0.out).2.2 (Kd.R_reads' R_w0.out).2.1 HhEr.out).mono ?_
  rintro e wx5 ⟨rfl, ⟨nd5, rfl⟩⟩
  replace R_w0 := Aside0.mk (Kd.R_drewN R_w0.out nd5)
  replace R_x0 := Aside0.mk (Kd.R_drewN R_x0.out nd5)
  replace R_g := Aside0.mk (Kd.R_drewN R_g.out nd5)
  replace HB := Aside0.mk (pw_below_drewN HB.out nd5)
  generalize w4.drewN nd5 = w5 at HB R_w0 R_x0 R_g ⊢
  go_wp2_with fail
  have hs6 := Aside0.mk HB.out.size
  refine (laws_toIntS.calls k A0 c0 l l _ (Kd.C_below Hhr0.out HB.out) hc0 HhT0.out).mono ?_
  rintro e w6 ⟨v6, rfl, h6, b6⟩
  obtain ⟨A_e0, c_e0, rfl⟩ := Kd.R_slice h6
  have NE_e0_w0 : Aside0 (∀ k_, some k_ = (Value.slice A_w0 r.length c_w0).ownBlock → ¬ some k_ = (Value.slice A_e0 l.length c_e0).ownBlock) := ⟨fun k_ e1 e2 => absurd (Kd.R_lt R_w0.out k_ e1.symm) (Nat.not_lt.mpr (Kd.R_base h6 k_ e2.symm))⟩
  have NE_e0_x0 : Aside0 (∀ k_, some k_ = (Value.slice A_x0 l.length c_x0).ownBlock → ¬ some k_ = (Value.slice A_e0 l.length c_e0).ownBlock) := ⟨fun k_ e1 e2 => absurd (Kd.R_lt R_x0.out k_ e1.symm) (Nat.not_lt.mpr (Kd.R_base h6 k_ e2.symm))⟩
  have NE_e0_g : Aside0 (∀ k_, some k_ = (Value.slice A_g r.length c_g).ownBlock → ¬ some k_ = (Value.slice A_e0 l.length c_e0).ownBlock) := ⟨fun k_ e1 e2 => absurd (Kd.R_lt R_g.out k_ e1.symm) (Nat.not_lt.mpr (Kd.R_base h6 k_ e2.symm))⟩
  replace R_w0 := Aside0.mk (Kd.R_below R_w0.out b6)
  replace R_x0 := Aside0.mk (Kd.R_below R_x0.out b6)
  replace R_g := Aside0.mk (Kd.R_below R_g.out b6)
  replace HB := Aside0.mk (HB.out.trans (b6.mono HB.out.size))
  have R_e0 := Aside0.mk (Kd.R_lower h6 hs6.out)
  clear h6 b6 hs6
  go_wp2_with fail
  refine (laws_eqIntS.calls k A_x0 c_x0 l A_e0 c_e0 l true _ (Kd.R_reads' R_x0.out).2.2 (Kd.R_reads' R_x0.out).2.1 (Kd.R_reads' R_e0.out).2.2 (Kd.R_reads' R_e0.out).2.1 HhE0.out).mono ?_
  rintro e wx7 ⟨rfl, ⟨nd7, rfl⟩⟩
  replace R_w0 := Aside0.mk (Kd.R_drewN R_w0.out nd7)
  replace R_x0 := Aside0.mk (Kd.R_drewN R_x0.out nd7)
  replace R_g := Aside0.mk (Kd.R_drewN R_g.out nd7)
  replace R_e0 := Aside0.mk (Kd.R_drewN R_e0.out nd7)
  replace HB := Aside0.mk (pw_below_drewN HB.out nd7)
  generalize w6.drewN nd7 = w7 at HB R_w0 R_x0 R_g R_e0 ⊢
  clear R_e0
  go_wp2_with fail
  refine (laws_markIntS.calls k (fun k_ => some k_ = (Value.slice A_x0 l.length c_x0).ownBlock) (Value.slice A_x0 l.length c_x0) l 1 nm0 rm0 w _ HB.out (Kd.R_tight rfl R_x0.out) HhM0.out).mono ?_
  rintro e w8 ⟨rfl, h8, b8, k8⟩
  replace R_w0 := Aside0.mk (Kd.R_kept (Kd.R_tight rfl R_w0.out) k8 (fun k_ h_ => NE_x0_w0.out k_ h_))
  replace R_g := Aside0.mk (Kd.R_kept (Kd.R_tight rfl R_g.out) k8 (fun k_ h_ => fun e_ => NE_g_x0.out k_ e_ h_))
  replace R_x0 := Aside0.mk h8
  replace HB := Aside0.mk b8
  clear h8 b8 k8
  clear R_x0
  go_wp2_with fail
  refine (laws_eqIntS.calls k A_g c_g r A_w0 c_w0 r true _ (Kd.R_reads' R_g.out).2.2 (Kd.R_reads' R_g.out).2.1 (Kd.R_reads' R_w0.out).2.2 (Kd.R_reads' R_w0.out).2.1 HhEr.out).mono ?_
  rintro e wx9 ⟨rfl, ⟨nd9, rfl⟩⟩
  replace R_w0 := Aside0.mk (Kd.R_drewN R_w0.out nd9)
  replace R_g := Aside0.mk (Kd.R_drewN R_g.out nd9)
  replace HB := Aside0.mk (pw_below_drewN HB.out nd9)
  generalize w8.drewN nd9 = w9 at HB R_w0 R_g ⊢
  go_wp2_with fail
  refine (laws_markIntS.calls k (fun k_ => some k_ = (Value.slice A_g r.length c_g).ownBlock) (Value.slice A_g r.length c_g) r 1 n2 rg w _ HB.out (Kd.R_tight rfl R_g.out) HhMr.out).mono ?_
  rintro e w10 ⟨rfl, h10, b10, k10⟩
  replace R_w0 := Aside0.mk (Kd.R_kept (Kd.R_tight rfl R_w0.out) k10 (fun k_ h_ => NE_g_w0.out k_ h_))
  replace R_g := Aside0.mk h10
  replace HB := Aside0.mk b10
  clear h10 b10 k10
  go_wp2_with fail
  refine (held_n k A_g c_g r.length rg 1 n2 _ (Kd.R_reads' R_g.out).1 (Kd.R_reads' R_g.out).2.2 (Kd.R_reads' R_g.out).2.1 HhHr.out).mono ?_
  rintro e wx11 ⟨rfl, ⟨nd11, rfl⟩⟩
  replace R_w0 := Aside0.mk (Kd.R_drewN R_w0.out nd11)
  replace R_g := Aside0.mk (Kd.R_drewN R_g.out nd11)
  replace HB := Aside0.mk (pw_below_drewN HB.out nd11)
  generalize w10.drewN nd11 = w11 at HB R_w0 R_g ⊢
  go_wp2_with fail
  have hs12 := Aside0.mk HB.out.size
  refine (laws_toIntS.calls k A0 c0 l l _ (Kd.C_below Hhr0.out HB.out) hc0 HhT0.out).mono ?_
  rintro e w12 ⟨v12, rfl, h12, b12⟩
  obtain ⟨A_z0, c_z0, rfl⟩ := Kd.R_slice h12
  have NE_z0_w0 : Aside0 (∀ k_, some k_ = (Value.slice A_w0 r.length c_w0).ownBlock → ¬ some k_ = (Value.slice A_z0 l.length c_z0).ownBlock) := ⟨fun k_ e1 e2 => absurd (Kd.R_lt R_w0.out k_ e1.symm) (Nat.not_lt.mpr (Kd.R_base h12 k_ e2.symm))⟩
  have NE_z0_g : Aside0 (∀ k_, some k_ = (Value.slice A_g r.length c_g).ownBlock → ¬ some k_ = (Value.slice A_z0 l.length c_z0).ownBlock) := ⟨fun k_ e1 e2 => absurd (Kd.R_lt R_g.out k_ e1.symm) (Nat.not_lt.mpr (Kd.R_base h12 k_ e2.symm))⟩
  replace R_w0 := Aside0.mk (Kd.R_below R_w0.out b12)
  replace R_g := Aside0.mk (Kd.R_below R_g.out b12)
  replace HB := Aside0.mk (HB.out.trans (b12.mono HB.out.size))
  have R_z0 := Aside0.mk (Kd.R_lower h12 hs12.out)
  clear h12 b12 hs12
  go_wp2_with fail
  have hs13 := Aside0.mk HB.out.size
  refine (WkTurnFront.impl k A_z0 c_z0 l a r b _ (Kd.R_reads' R_z0.out).2.2 (Kd.R_reads' R_z0.out).2.1 hl0 HhGl.out HhS.out).mono ?_
  rintro e w13 ⟨v13, rfl, h13, b13⟩
  obtain ⟨A_h, c_h, rfl⟩ := Kd.R_slice h13
  have NE_h_w0 : Aside0 (∀ k_, some k_ = (Value.slice A_w0 r.length c_w0).ownBlock → ¬ some k_ = (Value.slice A_h r.length c_h).ownBlock) := ⟨fun k_ e1 e2 => absurd (Kd.R_lt R_w0.out k_ e1.symm) (Nat.not_lt.mpr (Kd.R_base h13 k_ e2.symm))⟩
  have NE_h_g : Aside0 (∀ k_, some k_ = (Value.slice A_g r.length c_g).ownBlock → ¬ some k_ = (Value.slice A_h r.length c_h).ownBlock) := ⟨fun k_ e1 e2 => absurd (Kd.R_lt R_g.out k_ e1.symm) (Nat.not_lt.mpr (Kd.R_base h13 k_ e2.symm))⟩
  have NE_h_z0 : Aside0 (∀ k_, some k_ = (Value.slice A_z0 l.length c_z0).ownBlock → ¬ some k_ = (Value.slice A_h r.length c_h).ownBlock) := ⟨fun k_ e1 e2 => absurd (Kd.R_lt R_z0.out k_ e1.symm) (Nat.not_lt.mpr (Kd.R_base h13 k_ e2.symm))⟩
  replace R_w0 := Aside0.mk (Kd.R_below R_w0.out b13)
  replace R_g := Aside0.mk (Kd.R_below R_g.out b13)
  replace R_z0 := Aside0.mk (Kd.R_below R_z0.out b13)
  replace HB := Aside0.mk (HB.out.trans (b13.mono HB.out.size))
  have R_h := Aside0.mk (Kd.R_lower h13 hs13.out)
  clear h13 b13 hs13
  clear R_z0
  go_wp2_with fail
  refine (laws_eqIntS.calls k A_h c_h r A_w0 c_w0 r true _ (Kd.R_reads' R_h.out).2.2 (Kd.R_reads' R_h.out).2.1 (Kd.R_reads' R_w0.out).2.2 (Kd.R_reads' R_w0.out).2.1 HhEr.out).mono ?_
  rintro e wx14 ⟨rfl, ⟨nd14, rfl⟩⟩
  replace R_w0 := Aside0.mk (Kd.R_drewN R_w0.out nd14)
  replace R_g := Aside0.mk (Kd.R_drewN R_g.out nd14)
  replace R_h := Aside0.mk (Kd.R_drewN R_h.out nd14)
  replace HB := Aside0.mk (pw_below_drewN HB.out nd14)
  generalize w13.drewN nd14 = w14 at HB R_w0 R_g R_h ⊢
  go_wp2_with fail
  refine (held_n k A_g c_g r.length rg 1 n2 _ (Kd.R_reads' R_g.out).1 (Kd.R_reads' R_g.out).2.2 (Kd.R_reads' R_g.out).2.1 HhHr.out).mono ?_
  rintro e wx15 ⟨rfl, ⟨nd15, rfl⟩⟩
  replace R_w0 := Aside0.mk (Kd.R_drewN R_w0.out nd15)
  replace R_g := Aside0.mk (Kd.R_drewN R_g.out nd15)
  replace R_h := Aside0.mk (Kd.R_drewN R_h.out nd15)
  replace HB := Aside0.mk (pw_below_drewN HB.out nd15)
  generalize w14.drewN nd15 = w15 at HB R_w0 R_g R_h ⊢
  go_wp2_with fail
  go_ret
  exact ⟨rfl, HB.out⟩
end Go.Proofs.Ytbfgiccfbaobnaa.LwTurnFront
