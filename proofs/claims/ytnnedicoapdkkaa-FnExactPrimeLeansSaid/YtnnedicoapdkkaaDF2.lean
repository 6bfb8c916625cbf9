/- slices.DeleteFunc of a row of slices at this program, whatever block-laying predicate it is given: what the predicate does not tell, in its order. Conditions: the row is the call's own; the predicate answers p at every element, in every world that has grown from the first beside the row's own block. -/
import Derived.Test.YtnnedicoapdkkaaDF
import Derived.Lib.SliceRun
namespace Go.Proofs.Ytnnedicoapdkkaa.DF
set_option linter.unusedVariables false
set_option linter.unusedSimpArgs false
open Go.RowKit Go.Proofs.YtnnedicoapdkkaaW.PrintWords Go.Proofs.YtnnedicoapdkkaaW.PrintLast Go.Proofs.YtnnedicoapdkkaaW.PrintMore
section
variable {α : Type} {d : Kd α} {e g n cap base : Nat} {ok : Nat → Prop} {W : World} {xs : List α}
/-- Cut to its first m elements, whatever is written behind them. -/
theorem R_cut (hs : d.sz = 1) (h : d.R e W base ok (.slice (some ⟨g, 0, none⟩) n cap) xs) (m : Nat) (vs : List Value) (hv : m + vs.length ≤ xs.length) :
    d.R e (W.setCells g m vs) base ok (.slice (some ⟨g, 0, none⟩) m cap) (xs.take m) ∧ W.grownBy (W.setCells g m vs) (some g) := by
  have hm : m ≤ xs.length := by omega
  have h' := Kd.R_take h (m := m) hm
  obtain ⟨hn, hnc, _⟩ := Kd.R_reads' h
  obtain ⟨hok, inner, ho, hr⟩ := h'
  have hlen : (xs.take m).length = m := by rw [List.length_take]; omega
  rw [hlen] at ho
  obtain ⟨ho1, ho2⟩ := ho
  rcases ho2 with ⟨hv', _⟩ | ⟨g', cap', cur, hv', hb, hh, hnc', hcm, hcs, ht⟩
  · cases hv'
  injection hv' with ha _ hc
  injection ha with ha
  injection ha with hg
  subst hg; subst hc
  obtain ⟨cur', h3, h4, h5⟩ := setCells_row vs m W cur hh (by rw [hcs, hs]; omega)
  obtain ⟨s1, s2, s3, s4⟩ := setCells_same g vs m W
  have hfar : ∀ k, k ≠ g → (W.setCells g m vs).heap[k]? = W.heap[k]? := fun k hk => setCells_far vs _ k hk
  have ht' : cur'.toList.take (m * d.sz) = inner := by
    rw [hs, Nat.mul_one] at ht ⊢
    rw [← ht, h5]
    apply List.ext_getElem?
    intro q
    rw [List.getElem?_take, List.getElem?_take]
    by_cases hq : q < m
    · rw [if_pos hq, if_pos hq, seg_get cur.toList vs m (by simp [hcs, hs]; omega) q, if_pos hq]
    · rw [if_neg hq, if_neg hq]
  have ho' : (W.setCells g m vs).ownsRow base e d.sz (.slice (some ⟨g, 0, none⟩) m cap) m inner := ⟨ho1, .inr ⟨g, cap, cur', rfl, hb, h3, hnc', hcm, by rw [h4, hcs], ht'⟩⟩
  refine ⟨⟨hok, inner, by rw [hlen]; exact ho', hr.imp_ (fun _ _ hp => Kd.M_step hp (fun k hk _ => hfar k (fun he => hk.2 (by rw [he]; rfl))))⟩,
    ⟨s1, s2, s3, by rw [s4]; exact Nat.le_refl _, fun k _ hk => hfar k (fun he => hk (by rw [he]))⟩⟩
/-- An element's cell. -/
theorem R_one (hs : d.sz = 1) (h : d.R e W base ok (.slice (some ⟨g, 0, none⟩) n cap) xs) (i : Nat) (hi : i < xs.length) :
    ∃ u, d.M W base (fun k => ok k ∧ k ≠ g) xs[i] [u] ∧ W.cell? ⟨g, i, none⟩ = some u ∧ W.frozen? ⟨g, i, none⟩ = false := by
  obtain ⟨hn, _, _⟩ := Kd.R_reads' h
  obtain ⟨c, hl, hM, hc, hf⟩ := Kd.R_elem h xs[i] (i : Int) (by omega) (by omega)
  rw [Int.toNat_natCast, List.getD_eq_getElem?_getD, List.getElem?_eq_getElem hi] at hM
  rw [hs] at hl
  obtain ⟨u, rfl⟩ : ∃ u, c = [u] := by
    match c, hl with
    | [u], _ => exact ⟨u, rfl⟩
  refine ⟨u, hM, ?_, ?_⟩
  · have := hc 0 u rfl
    rwa [hs, Int.toNat_natCast, Nat.mul_one, Nat.add_zero] at this
  · have := hf 0
    rwa [hs, Int.toNat_natCast, Nat.mul_one, Nat.add_zero] at this
/-- An element laid over another. -/
theorem R_lay (hs : d.sz = 1) (h : d.R e W base ok (.slice (some ⟨g, 0, none⟩) n cap) xs) (i : Nat) (hi : i < xs.length) {x : α} {u : Value} (hM : d.M W base (fun k => ok k ∧ k ≠ g) x [u]) :
    d.R e (W.setCell ⟨g, i, none⟩ u) base ok (.slice (some ⟨g, 0, none⟩) n cap) (xs.set i x) ∧ W.grownBy (W.setCell ⟨g, i, none⟩ u) (some g) := by
  obtain ⟨hn, _, _⟩ := Kd.R_reads' h
  obtain ⟨c, hl, _, hc, _⟩ := Kd.R_elem h x (i : Int) (by omega) (by omega)
  have hl1 : c.length = 1 := by rw [hl, hs]
  obtain ⟨u0, rfl⟩ : ∃ u0, c = [u0] := by
    match c, hl1 with
    | [u0], _ => exact ⟨u0, rfl⟩
  have := Kd.R_seg (okp := fun k => ok k ∧ k ≠ g) (seg := [u]) (j := 0) (x' := x) h (i : Int) (by omega) (by omega) hl hc (by simp [hs]) (by simpa using hM) (fun _ hk => hk)
  rw [Int.toNat_natCast, hs, Nat.mul_one, Nat.add_zero] at this
  exact this
end
theorem grown_then {w W W' : World} {row : Option Nat} (h : w.grownBy W row) (k : Below W.heap.size W W') : w.grownBy W' row :=
  ⟨k.os.trans h.os, k.tape.trans h.tape, k.output.trans h.output, Nat.le_trans h.size k.size, fun i hi hn => (k.block i (Nat.lt_of_lt_of_le hi h.size)).trans (h.block i hi hn)⟩
theorem grown_set {w W W' : World} {row : Option Nat} (h : w.grownBy W row) (k : W.grownBy W' row) : w.grownBy W' row :=
  ⟨k.os.trans h.os, k.tape.trans h.tape, k.output.trans h.output, Nat.le_trans h.size k.size, fun i hi hn => (k.block i (Nat.lt_of_lt_of_le hi h.size) hn).trans (h.block i hi hn)⟩

/-- j places have been looked at; what is kept of them, i elements, stands first; from place j on the row is as it was. -/
structure KI {α : Type} (p : α → Bool) (xs : List α) (i j : Nat) (dk : List α) : Prop where
  len : dk.length = xs.length
  lt : i < j
  cnt : ((xs.take j).filter fun x => !p x).length = i
  low : dk.take i = (xs.take j).filter fun x => !p x
  high : dk.drop j = xs.drop j
theorem KI.at_ {α : Type} {p : α → Bool} {xs dk : List α} {i j : Nat} (h : KI p xs i j dk) (hj : j < xs.length) (hj2 : j < dk.length) : dk[j] = xs[j] := by
  have := congrArg (fun l => l[0]?) h.high
  simp only [List.getElem?_drop, Nat.add_zero, List.getElem?_eq_getElem hj, List.getElem?_eq_getElem hj2] at this
  exact Option.some.inj this
theorem KI.start {α : Type} {p : α → Bool} {xs : List α} {i : Nat} (hi : i < xs.length) (h : ∀ x ∈ xs.take i, p x = false) (hp : ∃ y, xs[i]? = some y ∧ p y = true) : KI p xs i (i + 1) xs := by
  obtain ⟨y, hy, hpy⟩ := hp
  have hyi : xs[i] = y := by rw [List.getElem?_eq_getElem hi] at hy; exact Option.some.inj hy
  have e : (xs.take (i + 1)).filter (fun x => !p x) = xs.take i := by
    rw [List.take_succ_eq_append_getElem hi, List.filter_append, List.filter_eq_self.2 (fun x hx => by simp [h x hx]), hyi]
    simp [hpy]
  exact ⟨rfl, Nat.lt_succ_self _, by rw [e, List.length_take]; omega, e.symm, rfl⟩
theorem KI.keep {α : Type} {p : α → Bool} {xs dk : List α} {i j : Nat} (h : KI p xs i j dk) (hj : j < xs.length) (hp : p xs[j] = false) : KI p xs (i + 1) (j + 1) (dk.set i xs[j]) := by
  have e : (xs.take (j + 1)).filter (fun x => !p x) = (xs.take j).filter (fun x => !p x) ++ [xs[j]] := by
    rw [List.take_succ_eq_append_getElem hj, List.filter_append]
    simp [hp]
  have hlt := h.lt
  have hlen := h.len
  refine ⟨by rw [List.length_set]; exact hlen, by omega, by rw [e, List.length_append, h.cnt]; rfl, ?_, ?_⟩
  · rw [e, ← h.low, List.take_succ_eq_append_getElem (by rw [List.length_set]; omega)]
    congr 1
    · rw [List.take_set_of_le (by omega)]
    · simp
  · rw [List.drop_set_of_lt (by omega)]
    rw [← List.drop_drop, h.high, List.drop_drop]
theorem KI.skip {α : Type} {p : α → Bool} {xs dk : List α} {i j : Nat} (h : KI p xs i j dk) (hj : j < xs.length) (hp : p xs[j] = true) : KI p xs i (j + 1) dk := by
  have e : (xs.take (j + 1)).filter (fun x => !p x) = (xs.take j).filter (fun x => !p x) := by
    rw [List.take_succ_eq_append_getElem hj, List.filter_append]
    simp [hp]
  exact ⟨h.len, by have := h.lt; omega, by rw [e]; exact h.cnt, by rw [e]; exact h.low, by rw [← List.drop_drop, h.high, List.drop_drop]⟩
theorem KI.done {α : Type} {p : α → Bool} {xs dk : List α} {i j : Nat} (h : KI p xs i j dk) (hj : ¬ j < xs.length) : dk.take i = xs.filter fun x => !p x := by
  rw [h.low, List.take_of_length_le (by omega)]

set_option maxHeartbeats 4000000 in
set_option maxRecDepth 100000 in
theorem deleteFunc {α : Type} (d : Kd α) (hs : d.sz = 1) (p : α → Bool) (gf : Nat) (lb : Array Value) (base : Nat) (ok : Nat → Prop) (v : Value) (xs : List α) (w0 w : World)
    (eg : ∀ args w, (callFunc gf args).run Try.prog w = .ok (.enter gf args) w)
    (hT : ∀ W x u, w.grownBy W v.ownBlock → x ∈ xs → d.K W x [u] → Calls Try.prog gf (#[u] ++ lb) W fun e w' => e = .returned (.bool (p x)) ∧ Below W.heap.size W w')
    (hR : d.R 40 w base ok v xs) (hB : Below w0.heap.size w0 w) (hb : w0.heap.size ≤ base) :
    Calls Try.prog 50 #[v, .func (.func gf) #[] lb] w fun e w' => ∃ v', e = .returned v' ∧ d.R 40 w' base ok v' (xs.filter fun x => !p x) ∧ Below w0.heap.size w0 w' := by
  obtain ⟨A, c, rfl⟩ := Kd.R_slice hR
  have HS : Aside0 (d.sz = 1) := ⟨hs⟩
  have HT := Aside0.mk hT
  have HR := Aside0.mk hR
  have HB := Aside0.mk hB
  have hc := (Kd.R_reads' hR).2.1
  have hmx : c ≤ 9223372036854775807 := by
    obtain ⟨_, inner, ho, _⟩ := hR
    rcases ho.2 with ⟨hv', _⟩ | ⟨g', cap', cur, hv', _, _, _, hcm, _⟩
    · injection hv' with h1 h2 h3; omega
    · injection hv' with h1 h2 h3; unfold maxLen at hcm; omega
  have HI := Aside0.mk (indexFunc d hs p gf lb A c xs w eg (fun W x u hW hx hK => hT W x u (grown_then ⟨rfl, rfl, rfl, Nat.le_refl _, fun _ _ _ => rfl⟩ hW) hx hK) (Kd.R_reads' hR).2.2 hc)
  clear hT hR hB hs
  go_enter Try.func50, Try.ntmps50
  go_wp2_with fail
  refine HI.out.mono ?_
  rintro e w1 ⟨r, rfl, hr, hb1⟩
  have HB1 := Aside0.mk (below_then HB.out HB.out.size hb1)
  have HR1 := Aside0.mk (Kd.R_below HR.out hb1)
  have HG1 := Aside0.mk (grown_then (row := (Value.slice A xs.length c).ownBlock) ⟨rfl, rfl, rfl, Nat.le_refl _, fun _ _ _ => rfl⟩ hb1)
  clear HI hb1 HR HB
  rcases hr with ⟨rfl, hall⟩ | ⟨i0, rfl, hi0, hlow, hat⟩
  · have HA := Aside0.mk hall
    clear hall
    go_wp2
    go_ret
    exact ⟨_, rfl, by rw [List.filter_eq_self.2 (fun x hx => by simp [HA.out x hx])]; exact HR1.out, HB1.out⟩
  · obtain ⟨g, cap, hv, hgb, _⟩ := Kd.R_form HR1.out (by omega)
    injection hv with hA _ hc'
    subst hA hc'
    have HG2 : Aside0 (w.grownBy w1 (some g)) := ⟨HG1.out⟩
    have HT2 : Aside0 (∀ W x u, w.grownBy W (some g) → x ∈ xs → d.K W x [u] → Calls Try.prog gf (#[u] ++ lb) W fun e w' => e = .returned (.bool (p x)) ∧ Below W.heap.size W w') := ⟨HT.out⟩
    have HK := Aside0.mk (KI.start hi0 hlow hat)
    have HBG : Aside0 (w0.heap.size ≤ g) := ⟨Nat.le_trans hb hgb⟩
    have hn1 : ((i0 : Int) == -1) = false := beq_eq_false_iff_ne.2 (by omega)
    have HJ : Aside0 (i0 + 1 ≤ xs.length) := ⟨hi0⟩
    clear HG1 HT hlow hat hgb
    go_wp2
    go_loopw [5, 6] (fun v5 v6 wr => ∃ (i j : Nat) (dk : List α), v5 = .int .i64 i ∧ v6 = .int .i64 j ∧ Aside0 (j ≤ xs.length) ∧ Aside0 (KI p xs i j dk) ∧ Aside0 (d.R 40 wr base ok (.slice (some ⟨g, 0, none⟩) xs.length c) dk) ∧ Aside0 (Below w0.heap.size w0 wr) ∧ Aside0 (w.grownBy wr (some g))) (fun _ v6 _ => xs.length - (intOf v6).toNat)
    case atStart => exact ⟨i0, i0 + 1, xs, rfl, by go_num, HJ, HK, HR1, HB1, HG2⟩
    case round =>
      clear HJ HK HR1 HB1 HG2 hn1 hi0
      obtain ⟨i, j, dk, rfl, rfl, HJ, HK, HR, HB, HG⟩ := hrel
      have hij := HK.out.lt
      have hjl := HJ.out
      by_cases hj : j < xs.length
      · have hjd : j < dk.length := by rw [HK.out.len]; exact hj
        have hid : i < dk.length := by rw [HK.out.len]; omega
        obtain ⟨u, hM, hx, _⟩ := R_one HS.out HR.out j hjd
        obtain ⟨u, rfl⟩ : ∃ y : {v : Value // v.oneCell' = true}, u = y.val := ⟨⟨u, d.K_one (d.K_of_M hM) u (by simp)⟩, rfl⟩
        rw [HK.out.at_ hj hjd] at hM
        have hcall := HT2.out wr xs[j] u.val HG.out (List.getElem_mem hj) (d.K_of_M hM)
        have HMv := Aside0.mk hM
        have hjz : (j : Int) < (xs.length : Int) := by omega
        have HJ1 : Aside0 (j + 1 ≤ xs.length) := ⟨hj⟩
        have HID := Aside0.mk hid
        clear hM hjd
        by_cases hq : p xs[j] = true
        · rw [hq] at hcall
          have HQ := Aside0.mk hcall
          have HK1 := Aside0.mk (HK.out.skip hj hq)
          clear hcall hq hid
          go_wp2_with fail
          refine HQ.out.mono ?_
          rintro e w2 ⟨rfl, hb2⟩
          have HB2 := Aside0.mk (below_then HB.out HB.out.size hb2)
          have HR2 := Aside0.mk (Kd.R_below HR.out hb2)
          have HG2 := Aside0.mk (grown_then HG.out hb2)
          clear hb2
          go_wp2
          go_roundw
          case rel => exact ⟨i, j + 1, dk, rfl, by go_num, HJ1, HK1, HR2, HB2, HG2⟩
          case measure => simp [intOf]; omega
        · have hq2 : p xs[j] = false := by simpa using hq
          rw [hq2] at hcall
          have HQ := Aside0.mk hcall
          have HK1 := Aside0.mk (HK.out.keep hj hq2)
          clear hcall hq hq2
          go_wp2_with fail
          refine HQ.out.mono ?_
          rintro e w2 ⟨rfl, hb2⟩
          have HB2 := Aside0.mk (below_then HB.out HB.out.size hb2)
          have HR2 := Aside0.mk (Kd.R_below HR.out hb2)
          have HG2 := Aside0.mk (grown_then HG.out hb2)
          obtain ⟨u1, _, hxi, hfi⟩ := R_one HS.out HR2.out i HID.out
          obtain ⟨hR3, hg3⟩ := R_lay HS.out HR2.out i HID.out (Kd.M_below HMv.out hb2)
          have HR3 := Aside0.mk hR3
          have HG3 := Aside0.mk (grown_set HG2.out hg3)
          have HB3 := Aside0.mk (below_set (j := i) (v := u.val) HB2.out HBG.out)
          have hil : (i : Int) < (xs.length : Int) := by omega
          have hcl0 : u.val.cells = #[u.val] := by
            have := u.2
            generalize u.val = q at this ⊢
            cases q <;> simp_all [Value.oneCell', Value.cells]
          simp only [Value.cells] at hcl0
          have hst : ∀ a m w, Sem.run Try.prog (store a u.val m) w = stored Try.prog w a u.val m := fun a m w => run_store Try.prog w a u.val m u.2
          clear hb2 hR3 hg3 hid
          go_wp2
          go_roundw
          case rel => exact ⟨i + 1, j + 1, dk.set i xs[j], by go_num, by go_num, HJ1, HK1, HR3, HB3, HG3⟩
          case measure => simp [intOf]; omega
      · have hji : ¬ (j : Int) < (xs.length : Int) := by omega
        have hin : i < xs.length := by omega
        have hic : i < c := by omega
        have HC := R_cut HS.out HR.out i (List.replicate (xs.length - i) (Value.slice none 0 0)) (by rw [List.length_replicate, HK.out.len]; omega)
        have HRC := Aside0.mk HC.1
        have HBC := Aside0.mk (HB.out.grown HC.2 HB.out.size (fun k hk => by cases hk; exact HBG.out))
        have HD := Aside0.mk (HK.out.done hj)
        have hcl : ∀ ty, (Builtin.clear_ #[33] ty #[.slice (some ⟨g, i, none⟩) (xs.length - i) (c - i)]).run Try.prog wr = .ok (.tuple #[]) (wr.setCells g i (List.replicate (xs.length - i) (Value.slice none 0 0))) :=
          fun ty => Lib.run_clear_slice wr 33 40 ty _ Try.underlying33 Try.zeroValue40 rfl rfl g i _ _ (by omega)
            (fun t ht => by obtain ⟨u1, _, h1, _⟩ := R_one HS.out HR.out (i + t) (by rw [HK.out.len]; omega); rw [h1]; rfl)
            (fun t ht => by obtain ⟨u1, _, _, h1⟩ := R_one HS.out HR.out (i + t) (by rw [HK.out.len]; omega); exact h1)
        clear HC
        go_wp2
        go_ret
        exact ⟨_, rfl, by rw [← HD.out]; exact HRC.out, HBC.out⟩
end Go.Proofs.Ytnnedicoapdkkaa.DF
