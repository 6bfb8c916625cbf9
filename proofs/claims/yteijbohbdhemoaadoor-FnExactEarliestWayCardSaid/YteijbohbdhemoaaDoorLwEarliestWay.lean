/- laws.FnExactEarliestWay: the walk out of its callees' contracts. Condition: both callees give the same. -/
import Derived.Test.YteijbohbdhemoaaDoorEw
import Derived.Test.YteijbohbdhemoaaDoorPFnExactArrivalsOfx1
namespace Go.Proofs.YteijbohbdhemoaaDoor.LwEarliestWay
set_option linter.unusedVariables false
set_option linter.unusedSimpArgs false
open Go.RowKit Go.Proofs.YteijbohbdhemoaaDoorW.PrintWords Go.Proofs.YteijbohbdhemoaaDoorW.PrintLast Go.Proofs.YteijbohbdhemoaaDoorW.PrintMore PFnExactArrivalsOf

theorem held_n (k : Nat) (A : Option Addr) (c n : Nat) (l : List Int) (a : Int) (r : Int) (w : World) (hn : n = l.length) (hr : Kd.C (Kd.int .i64) w A l.length l) (hc : n ≤ c) (h : laws_heldIntS.f k l a = some r) :
    Calls Tryd.prog 17 #[.slice A n c, .int .i64 a] w fun e w' => e = .returned (.int .i64 r) ∧ Drawn0 w w' := by
  subst hn; exact laws_heldIntS.calls k A c l a r w hr hc h

set_option maxHeartbeats 4000000 in
set_option maxRecDepth 100000 in
theorem law (k : Nat) (s t : ByteArray) (l h : Int) (r : List Int) (b : Bool) (rg : List Int) (n2 : Int) (w : World) (hs : s.size ≤ 140737488351232) (ht : t.size ≤ 140737488351232)
    (cS : ∀ W, Calls Tryd.prog 13 #[.string s, .string t, .int .i64 l, .int .i64 h] W fun e w' => ∃ v, e = .returned (.tuple #[v, .bool b]) ∧ Kd.R (Kd.int .i64) 3 w' W.heap.size (fun _ => True) v r ∧ Below W.heap.size W w')
    (cI : ∀ W, Calls Tryd.prog 14 #[.string s, .string t, .int .i64 l, .int .i64 h] W fun e w' => ∃ v, e = .returned (.tuple #[v, .bool b]) ∧ Kd.R (Kd.int .i64) 3 w' W.heap.size (fun _ => True) v r ∧ Below W.heap.size W w')
    (hEr : laws_eqIntS.f k r r = some true) (hMr : laws_markIntS.f k r 1 = some (n2, rg)) (hHr : laws_heldIntS.f k rg 1 = some n2) (hn2 : 0 ≤ n2) :
    Calls Tryd.prog 4 #[.string s, .string t, .int .i64 l, .int .i64 h] w fun e w' => e = .returned (.bool true) ∧ Below w.heap.size w w' := by
  have hs2 : s.size ≤ 9223372036854775807 := by omega
  have ht2 : t.size ≤ 9223372036854775807 := by omega
  have HcS := Aside0.mk cS
  clear cS
  have HcI := Aside0.mk cI
  clear cI
  have HhEr := Aside0.mk hEr
  clear hEr
  have HhMr := Aside0.mk hMr
  clear hMr
  have HhHr := Aside0.mk hHr
  clear hHr
  have hbb : (b != b) = false := by simp
  have hn2q : (n2 != n2) = false := by simp
  by_cases gs : s.size ≤ 1048576
  rotate_left
  · go_enter Tryd.func4, Tryd.ntmps4
    go_wp2_with fail
    go_ret
    exact ⟨rfl, Below.refl _ _⟩
  by_cases gt : t.size ≤ 1048576
  rotate_left
  · go_enter Tryd.func4, Tryd.ntmps4
    go_wp2_with fail
    go_ret
    exact ⟨rfl, Below.refl _ _⟩
  have HB := Aside0.mk (Below.refl w.heap.size w)
  go_enter Tryd.func4, Tryd.ntmps4
  go_wp2_with fail
  have hs1 := Aside0.mk HB.out.size
  refine (HcS.out _).mono ?_
  rintro e w1 ⟨v1, rfl, h1, b1⟩
  obtain ⟨A_w0, c_w0, rfl⟩ := Kd.R_slice h1
  replace HB := Aside0.mk (HB.out.trans (b1.mono HB.out.size))
  have R_w0 := Aside0.mk (Kd.R_lower h1 hs1.out)
  clear h1 b1 hs1
  go_wp2_with fail
  have hs2 := Aside0.mk HB.out.size
  refine (HcI.out _).mono ?_
  rintro e w2 ⟨v2, rfl, h2, b2⟩
  obtain ⟨A_g, c_g, rfl⟩ := Kd.R_slice h2
  have NE_g_w0 : Aside0 (∀ k_, some k_ = (Value.slice A_w0 r.length c_w0).ownBlock → ¬ some k_ = (Value.slice A_g r.length c_g).ownBlock) := ⟨fun k_ e1 e2 => absurd (Kd.R_lt R_w0.out k_ e1.symm) (Nat.not_lt.mpr (Kd.R_base h2 k_ e2.symm))⟩
  replace R_w0 := Aside0.mk (Kd.R_below R_w0.out b2)
  replace HB := Aside0.mk (HB.out.trans (b2.mono HB.out.size))
  have R_g := Aside0.mk (Kd.R_lower h2 hs2.out)
  clear h2 b2 hs2
  go_wp2_with fail
  refine (laws_eqIntS.calls k A_g c_g r A_w0 c_w0 r true _ (Kd.R_reads' R_g.out).2.2 (Kd.R_reads' R_g.out).2.1 (Kd.R_reads' R_w0.out).2.2 (Kd.R_reads' R_w0.out).2.1 HhEr.out).mono ?_
  rintro e wx3 ⟨rfl, ⟨nd3, rfl⟩⟩
  replace R_w0 := Aside0.mk (Kd.R_drewN R_w0.out nd3)
  replace R_g := Aside0.mk (Kd.R_drewN R_g.out nd3)
  replace HB := Aside0.mk (pw_below_drewN HB.out nd3)
  generalize w2.drewN nd3 = w3 at HB R_w0 R_g ⊢
  go_wp2_with fail
  refine (laws_markIntS.calls k (fun k_ => some k_ = (Value.slice A_g r.length c_g).ownBlock) (Value.slice A_g r.length c_g) r 1 n2 rg w _ HB.out (Kd.R_tight rfl R_g.out) HhMr.out).mono ?_
  rintro e w4 ⟨rfl, h4, b4, k4⟩
  replace R_w0 := Aside0.mk (Kd.R_kept (Kd.R_tight rfl R_w0.out) k4 (fun k_ h_ => NE_g_w0.out k_ h_))
  replace R_g := Aside0.mk h4
  replace HB := Aside0.mk b4
  clear h4 b4 k4
  go_wp2_with fail
  refine (held_n k A_g c_g r.length rg 1 n2 _ (Kd.R_reads' R_g.out).1 (Kd.R_reads' R_g.out).2.2 (Kd.R_reads' R_g.out).2.1 HhHr.out).mono ?_
  rintro e wx5 ⟨rfl, ⟨nd5, rfl⟩⟩
  replace R_w0 := Aside0.mk (Kd.R_drewN R_w0.out nd5)
  replace R_g := Aside0.mk (Kd.R_drewN R_g.out nd5)
  replace HB := Aside0.mk (pw_below_drewN HB.out nd5)
  generalize w4.drewN nd5 = w5 at HB R_w0 R_g ⊢
  go_wp2_with fail
  have hs6 := Aside0.mk HB.out.size
  refine (HcI.out _).mono ?_
  rintro e w6 ⟨v6, rfl, h6, b6⟩
  obtain ⟨A_h, c_h, rfl⟩ := Kd.R_slice h6
  have NE_h_w0 : Aside0 (∀ k_, some k_ = (Value.slice A_w0 r.length c_w0).ownBlock → ¬ some k_ = (Value.slice A_h r.length c_h).ownBlock) := ⟨fun k_ e1 e2 => absurd (Kd.R_lt R_w0.out k_ e1.symm) (Nat.not_lt.mpr (Kd.R_base h6 k_ e2.symm))⟩
  have NE_h_g : Aside0 (∀ k_, some k_ = (Value.slice A_g r.length c_g).ownBlock → ¬ some k_ = (Value.slice A_h r.length c_h).ownBlock) := ⟨fun k_ e1 e2 => absurd (Kd.R_lt R_g.out k_ e1.symm) (Nat.not_lt.mpr (Kd.R_base h6 k_ e2.symm))⟩
  replace R_w0 := Aside0.mk (Kd.R_below R_w0.out b6)
  replace R_g := Aside0.mk (Kd.R_below R_g.out b6)
  replace HB := Aside0.mk (HB.out.trans (b6.mono HB.out.size))
  have R_h := Aside0.mk (Kd.R_lower h6 hs6.out)
  clear h6 b6 hs6
  go_wp2_with fail
  refine (laws_eqIntS.calls k A_h c_h r A_w0 c_w0 r true _ (Kd.R_reads' R_h.out).2.2 (Kd.R_reads' R_h.out).2.1 (Kd.R_reads' R_w0.out).2.2 (Kd.R_reads' R_w0.out).2.1 HhEr.out).mono ?_
  rintro e wx7 ⟨rfl, ⟨nd7, rfl⟩⟩
  replace R_w0 := Aside0.mk (Kd.R_drewN R_w0.out nd7)
  replace R_g := Aside0.mk (Kd.R_drewN R_g.out nd7)
  replace R_h := Aside0.mk (Kd.R_drewN R_h.out nd7)
  replace HB := Aside0.mk (pw_below_drewN HB.out nd7)
  generalize w6.drewN nd7 = w7 at HB R_w0 R_g R_h ⊢
  go_wp2_with fail
  refine (held_n k A_g c_g r.length rg 1 n2 _ (Kd.R_reads' R_g.out).1 (Kd.R_reads' R_g.out).2.2 (Kd.R_reads' R_g.out).2.1 HhHr.out).mono ?_
  rintro e wx8 ⟨rfl, ⟨nd8, rfl⟩⟩
  replace R_w0 := Aside0.mk (Kd.R_drewN R_w0.out nd8)
  replace R_g := Aside0.mk (Kd.R_drewN R_g.out nd8)
  replace R_h := Aside0.mk (Kd.R_drewN R_h.out nd8)
  replace HB := Aside0.mk (pw_below_drewN HB.out nd8)
  generalize w7.drewN nd8 = w8 at HB R_w0 R_g R_h ⊢
  go_wp2_with fail
  go_ret
  exact ⟨rfl, HB.out⟩
def R (n : Nat) : List Int := (List.range n).map fun j => ((j + 1 : Nat) : Int)
theorem R_len (n : Nat) : (R n).length = n := by simp [R]
theorem R_succ (n : Nat) : R (n + 1) = R n ++ [((n + 1 : Nat) : Int)] := by simp [R, List.range_succ]
theorem R_rd {n i : Nat} (h : i < n) : rd (R n) (i : Int) = ((i + 1 : Nat) : Int) := by
  unfold rd R
  rw [List.getD_eq_getElem?_getD, show ((i : Int)).toNat = i by omega, List.getElem?_map, List.getElem?_range h]
  rfl
theorem eq_l0 (l : List Int) (hl : l.length ≤ 1099511627776) (d : Nat) : ∀ i, i + d = l.length → ∀ k, d < k → laws_eqIntS.l0 k l l (i : Int) = some true := by
  induction d with
  | zero =>
    intro i hi k hk
    obtain ⟨k, rfl⟩ : ∃ m, k = m + 1 := ⟨k - 1, by omega⟩
    simp only [laws_eqIntS.l0]; rw [if_neg (by omega)]
  | succ d ih =>
    intro i hi k hk
    obtain ⟨k, rfl⟩ : ∃ m, k = m + 1 := ⟨k - 1, by omega⟩
    simp only [laws_eqIntS.l0]
    rw [if_pos (by omega), if_pos (by omega), if_pos (by omega), if_pos trivial, show wrap64 ((i : Int) + 1) = ((i + 1 : Nat) : Int) by unfold wrap64; omega]
    exact ih (i + 1) (by omega) k (by omega)
theorem eq_self (l : List Int) (hl : l.length ≤ 1099511627776) (k : Nat) (hk : l.length < k) : laws_eqIntS.f k l l = some true := by
  unfold laws_eqIntS.f
  rw [if_pos rfl]; exact eq_l0 l hl l.length 0 (by omega) k hk
theorem mark_l0 : ∀ (y : List Int) (i k : Nat), y.length < k → i + y.length ≤ 1099511627776 → laws_markIntS.l0 k (R i ++ y) ((i + 1 : Nat) : Int) (i : Int) = some (((i + y.length + 1 : Nat) : Int), R (i + y.length))
  | [], i, k, hk, hl => by
    obtain ⟨k, rfl⟩ : ∃ m, k = m + 1 := ⟨k - 1, by simp at hk; omega⟩
    simp only [laws_markIntS.l0]
    rw [if_neg (by simp [R_len])]; simp
  | a :: y, i, k, hk, hl => by
    simp only [List.length_cons] at hk hl
    obtain ⟨k, rfl⟩ : ∃ m, k = m + 1 := ⟨k - 1, by omega⟩
    simp only [laws_markIntS.l0]
    rw [if_pos (by simp [R_len]; omega), if_pos (by omega), show wrap64 (((i + 1 : Nat) : Int) + 1) = ((i + 1 + 1 : Nat) : Int) by unfold wrap64; omega, show wrap64 ((i : Int) + 1) = ((i + 1 : Nat) : Int) by unfold wrap64; omega]
    have e : (R i ++ a :: y).set ((i : Int)).toNat ((i + 1 : Nat) : Int) = R (i + 1) ++ y := by
      rw [show ((i : Int)).toNat = i by omega, List.set_append_right _ _ (by rw [R_len]; omega), R_len, R_succ]; simp
    rw [e, mark_l0 y (i + 1) k (by omega) (by omega)]
    simp only [List.length_cons]
    rw [show i + 1 + y.length = i + (y.length + 1) by omega]
theorem held_l0 (n : Nat) (hn : n ≤ 1099511627776) (d : Nat) : ∀ i, i + d = n → ∀ k, d < k → laws_heldIntS.l0 k (R n) ((i + 1 : Nat) : Int) (i : Int) = some ((n + 1 : Nat) : Int) := by
  induction d with
  | zero =>
    intro i hi k hk
    obtain ⟨k, rfl⟩ : ∃ m, k = m + 1 := ⟨k - 1, by omega⟩
    simp only [laws_heldIntS.l0]; rw [if_neg (by rw [R_len]; omega)]
    rw [show i = n by omega]
  | succ d ih =>
    intro i hi k hk
    obtain ⟨k, rfl⟩ : ∃ m, k = m + 1 := ⟨k - 1, by omega⟩
    simp only [laws_heldIntS.l0]
    rw [if_pos (by rw [R_len]; omega), if_pos (by omega), R_rd (by omega), if_pos rfl, show wrap64 (((i + 1 : Nat) : Int) + 1) = ((i + 1 + 1 : Nat) : Int) by unfold wrap64; omega, show wrap64 ((i : Int) + 1) = ((i + 1 : Nat) : Int) by unfold wrap64; omega]
    exact ih (i + 1) (by omega) k (by omega)
theorem mark_ok (l : List Int) (hl : l.length ≤ 1099511627776) (k : Nat) (hk : l.length < k) : laws_markIntS.f k l 1 = some (((l.length + 1 : Nat) : Int), R l.length) := by
  unfold laws_markIntS.f
  have := mark_l0 l 0 k hk (by omega)
  simpa [R] using this
theorem held_ok (n : Nat) (hn : n ≤ 1099511627776) (k : Nat) (hk : n < k) : laws_heldIntS.f k (R n) 1 = some ((n + 1 : Nat) : Int) := by
  unfold laws_heldIntS.f
  have := held_l0 n hn n 0 (by omega) k hk
  simpa using this

theorem whole (s t : ByteArray) (l h : Int) (w : World) (hs : s.size ≤ 140737488351232) (ht : t.size ≤ 140737488351232) (_ : (Lit.int .i64 l).wf = true) (_ : (Lit.int .i64 h).wf = true) : Calls Tryd.prog 4 #[.string s, .string t, .int .i64 l, .int .i64 h] w fun e w' => e = .returned (.bool true) ∧ Below w.heap.size w w' := by
  have hl := Ew.val_len s t l h
  exact law 1000 s t l h (Ew.val s t l h).1 (Ew.val s t l h).2 _ _ w hs ht (fun W => Ew.spec s t l h W hs ht) (fun W => Ew.impl s t l h W hs ht) (eq_self _ (by omega) _ (by omega)) (mark_ok _ (by omega) _ (by omega)) (held_ok _ (by omega) _ (by omega)) (by omega)
end Go.Proofs.YteijbohbdhemoaaDoor.LwEarliestWay
