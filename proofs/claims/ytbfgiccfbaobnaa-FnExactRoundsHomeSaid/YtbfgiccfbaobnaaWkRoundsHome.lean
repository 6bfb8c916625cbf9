/- The reference's and the program's RoundsHome at this program: the walks. Condition: the slice is no longer than 2^20; the cycles are told by the printed function. -/
import Derived.Test.YtbfgiccfbaobnaaRnd
import Derived.Test.YtbfgiccfbaobnaaPFnExactRoundsHomex1
import Derived.Test.YtbfgiccfbaobnaaSeq
namespace Go.Proofs.Ytbfgiccfbaobnaa.WkRoundsHome
set_option linter.unusedVariables false
set_option linter.unusedSimpArgs false
open Go.RowKit Go.Proofs.YtbfgiccfbaobnaaW.PrintWords Go.Proofs.YtbfgiccfbaobnaaW.PrintLast Go.Proofs.YtbfgiccfbaobnaaW.PrintMore PFnExactRoundsHome Rnd
theorem ok_of {l : List Int} (h : Ord.ord l = true) : Ok l := by
  obtain ⟨h1, h2, h3, h4⟩ := (Ord.ord_iff l).mp h
  exact ⟨h1, h2, h3, h4⟩
theorem inv_n (A : Option Addr) (c n : Nat) (l : List Int) (w : World) (hn : n = l.length) (hr : Kd.C (Kd.int .i64) w A n l) (hc : n ≤ c) (hl : n ≤ 1048576) :
    Calls Try.prog 35 #[.slice A n c] w fun e w' => e = .returned (.int .i64 ((Inv.pre l n : Nat) : Int)) ∧ w = w' := by
  subst hn
  refine (Inv.ptInverted A c l w hr hc hl).mono ?_
  rintro e w' ⟨rfl, rfl⟩
  exact ⟨rfl, rfl⟩
theorem fol_n (k : Nat) (A0 : Option Addr) (c0 n : Nat) (l0 : List Int) (A1 : Option Addr) (c1 : Nat) (l1 r : List Int) (w : World) (hn : n = l0.length) (hr0 : Kd.C (Kd.int .i64) w A0 n l0) (hc0 : n ≤ c0) (hr1 : Kd.C (Kd.int .i64) w A1 l1.length l1) (hc1 : l1.length ≤ c1) (h : PFnExactFollowOrder.spec_ptFollow.f k l0 l1 = some r) :
    Calls Try.prog 37 #[.slice A0 n c0, .slice A1 l1.length c1] w fun e w' => ∃ v, e = .returned v ∧ Kd.R (Kd.int .i64) 3 w' w.heap.size (fun _ => True) v r ∧ Below w.heap.size w w' := by
  subst hn
  exact PFnExactFollowOrder.spec_ptFollow.calls k A0 c0 l0 A1 c1 l1 r w hr0 hc0 hr1 hc1 h

set_option maxHeartbeats 4000000 in
set_option maxRecDepth 100000 in
theorem spec (k : Nat) (A : Option Addr) (c : Nat) (l : List Int) (w : World) (hr : Kd.C (Kd.int .i64) w A l.length l) (hc : l.length ≤ c) (hl : l.length ≤ 1048576)
    (hg : spec_ptGood.f k l = some (Ord.ord l)) (R : Nat) (hR : Ord.ord l = true → 1 ≤ R ∧ R ≤ 16777216 ∧ ∀ m, Inv.pre (pw l m) l.length = 0 ↔ R ∣ m) :
    Calls Try.prog 29 #[.slice A l.length c] w fun e w' => e = .returned (.tuple #[.int .i64 (if Ord.ord l = true then (R : Int) else 0), .bool (Ord.ord l)]) ∧ Below w.heap.size w w' := by
  have cG : Calls Try.prog 31 #[.slice A l.length c] w fun e w' => e = .returned (.bool (Ord.ord l)) ∧ Below w.heap.size w w' := by
    refine (spec_ptGood.calls k A c l _ w hr hc hg).mono ?_
    rintro e w' ⟨rfl, ⟨nd, rfl⟩⟩
    exact ⟨rfl, pw_below_drewN (Below.refl _ _) nd⟩
  have HR := Aside0.mk hr
  clear hr hg
  cases ho : Ord.ord l with
  | false =>
    rw [ho] at cG
    rw [if_neg (by decide)]
    clear ho hR
    go_enter Try.func29, Try.ntmps29
    go_wp2_with fail
    refine cG.mono ?_
    clear cG
    rintro e w1 ⟨rfl, hb⟩
    have HB := Aside0.mk hb
    clear hb
    go_wp2_with fail
    go_ret2
    exact ⟨rfl, HB.out⟩
  | true =>
    have hok := ok_of ho
    have HO := Aside0.mk hok
    have hl8 := hok.le
    obtain ⟨hR1, hR2, hR3⟩ := hR ho
    have HP := Aside0.mk hR3
    have HC0 : Aside0 (l.length ≤ c ∧ Kd.C (Kd.int .i64) w A l.length (pw l 1)) := ⟨hc, by rw [pw_one hok]; exact HR.out⟩
    rw [ho] at cG
    rw [if_pos rfl]
    clear ho hR hR3 hok
    go_enter Try.func29, Try.ntmps29
    go_wp2_with fail
    refine cG.mono ?_
    clear cG
    rintro e w1 ⟨rfl, hb⟩
    have HB := Aside0.mk hb
    have HC1 : Aside0 (l.length ≤ c ∧ Kd.C (Kd.int .i64) w1 A l.length (pw l 1)) := ⟨HC0.out.1, Kd.C_below HC0.out.2 hb⟩
    clear hb HC0
    go_wp2_with fail
    go_loopw [4, 5] (fun v4 v5 wr => ∃ (m : Nat) (A5 : Option Addr) (c5 : Nat), v4 = .int .i64 (m : Int) ∧ v5 = .slice A5 l.length c5 ∧ Aside0 (1 ≤ m ∧ m ≤ R) ∧ Aside0 (l.length ≤ c5 ∧ Kd.C (Kd.int .i64) wr A5 l.length (pw l m)) ∧ Aside0 (Below w.heap.size w wr)) (fun v4 _ _ => R - (intOf v4).toNat)
    case atStart => exact ⟨1, A, c, rfl, rfl, ⟨⟨Nat.le_refl _, hR1⟩⟩, HC1, HB⟩
    case round =>
      clear HB HC1
      obtain ⟨m, A5, c5, rfl, rfl, HM, HC, HB⟩ := hrel
      have hm1 := HM.out.1
      have hm2 := HM.out.2
      have HI := Aside0.mk (inv_n A5 c5 l.length (pw l m) wr (pw_len l m).symm HC.out.2 HC.out.1 hl)
      have hz := HP.out m
      generalize Inv.pre (pw l m) l.length = z at HI hz
      by_cases hlt : m < R
      · have hzp : 0 < z := by
          rcases Nat.eq_zero_or_pos z with h | h
          · exact absurd (Nat.le_of_dvd (by omega) (hz.mp h)) (by omega)
          · exact h
        have HM1 : Aside0 (1 ≤ m + 1 ∧ m + 1 ≤ R) := ⟨⟨by omega, by omega⟩⟩
        obtain ⟨kk, hk⟩ := Rnd.follow HO.out m
        have HF := Aside0.mk (fun W hA hB => fol_n kk A5 c5 l.length (pw l m) A c l (pw l (m + 1)) W (pw_len l m).symm hA HC.out.1 hB hc hk)
        clear hz hk
        go_wp2_with fail
        refine HI.out.mono ?_
        rintro e w2 ⟨rfl, rfl⟩
        go_wp2_with fail
        refine (HF.out _ HC.out.2 (Kd.C_below HR.out HB.out)).mono ?_
        rintro e w3 ⟨v, rfl, hv, hb⟩
        have HB3 := Aside0.mk (below_then HB.out HB.out.size hb)
        obtain ⟨A7, c7, rfl⟩ := Kd.R_slice hv
        have h7 := Kd.R_reads' hv
        rw [pw_len] at h7 ⊢
        have HC7 : Aside0 (l.length ≤ c7 ∧ Kd.C (Kd.int .i64) w3 A7 l.length (pw l (m + 1))) := ⟨h7.2.1, h7.2.2⟩
        clear hv hb h7
        go_wp2_with fail
        go_roundw
        case rel => exact ⟨m + 1, A7, c7, by go_num, rfl, HM1, HC7, HB3⟩
        case measure => simp [intOf]; omega
      · obtain rfl : m = R := by omega
        have hz0 : z = 0 := hz.mpr (Nat.dvd_refl _)
        clear hz
        subst hz0
        go_wp2_with fail
        refine HI.out.mono ?_
        rintro e w2 ⟨rfl, rfl⟩
        go_wp2_with fail
        go_ret2
        exact ⟨rfl, HB.out⟩

set_option maxHeartbeats 4000000 in
set_option maxRecDepth 100000 in
theorem impl (k : Nat) (A : Option Addr) (c : Nat) (l : List Int) (w : World) (hr : Kd.C (Kd.int .i64) w A l.length l) (hc : l.length ≤ c) (hl : l.length ≤ 1048576)
    (r : List (List Int)) (hcy : Ord.ord l = true → impl_cycles.f k l = some r ∧ r.length ≤ 8 ∧ ∀ own ∈ r, 1 ≤ own.length ∧ own.length ≤ 8) :
    Calls Try.prog 30 #[.slice A l.length c] w fun e w' => e = .returned (.tuple #[.int .i64 (if Ord.ord l = true then ((Rnd.F r : Nat) : Int) else 0), .bool (Ord.ord l)]) ∧ Below w.heap.size w w' := by
  have cG : Calls Try.prog 13 #[.slice A l.length c] w fun e w' => e = .returned (.bool (Ord.ord l)) ∧ Below w.heap.size w w' := Seq.isOrder A c l w hr hl
  have HR := Aside0.mk hr
  clear hr
  cases ho : Ord.ord l with
  | false =>
    rw [ho] at cG
    rw [if_neg (by decide)]
    clear ho hcy
    go_enter Try.func30, Try.ntmps30
    go_wp2_with fail
    refine cG.mono ?_
    clear cG
    rintro e w1 ⟨rfl, hb⟩
    have HB := Aside0.mk hb
    clear hb
    go_wp2_with fail
    go_ret2
    exact ⟨rfl, HB.out⟩
  | true =>
    obtain ⟨hy, hrl, hro⟩ := hcy ho
    have HY := Aside0.mk hy
    have HRo := Aside0.mk hro
    rw [ho] at cG
    rw [if_pos rfl]
    clear ho hcy hy hro
    go_enter Try.func30, Try.ntmps30
    go_wp2_with fail
    refine cG.mono ?_
    clear cG
    rintro e w1 ⟨rfl, hb⟩
    have HB := Aside0.mk hb
    clear hb
    go_wp2_with fail
    refine (impl_cycles.calls k A c l r _ (Kd.C_below HR.out HB.out) hc HY.out).mono ?_
    rintro e w2 ⟨v2, rfl, hS, hb⟩
    obtain ⟨A2, c2, rfl⟩ := Kd.S_slice hS
    have HB2 := Aside0.mk (HB.out.trans (hb.mono HB.out.size))
    have HC := Aside0.mk (Kd.S_reads' hS).2.2
    clear hb hS HB
    go_wp2_with fail
    go_loopw [4, 13] (fun v4 v13 wr => ∃ (i o : Nat), v4 = .int .i64 (o : Int) ∧ v13 = .int .i64 (i : Int) ∧ Aside0 (i ≤ r.length ∧ o = Rnd.F (r.take i)) ∧ Aside0 (Kd.C (Kd.slice 3 (Kd.int .i64)) wr A2 r.length r) ∧ Aside0 (Below w.heap.size w wr)) (fun _ v13 _ => r.length - (intOf v13).toNat)
    case atStart => exact ⟨0, 1, rfl, rfl, ⟨⟨Nat.zero_le _, rfl⟩⟩, HC, HB2⟩
    case round =>
      clear HC HB2
      obtain ⟨i, o, rfl, rfl, HI, HC, HB⟩ := hrel
      have hil := HI.out.1
      have hob : 1 ≤ o ∧ o ≤ 16777216 := by rw [HI.out.2]; exact F_take_le hrl HRo.out i
      by_cases hi : i < r.length
      · obtain ⟨ad, A0, c0, hA, hx, _⟩ := at_L1 HC.out (i : Int) (by omega) (by omega)
        subst hA
        rw [Int.toNat_natCast] at hx
        have hL0 : rd_L1 r (i : Int) = r[i] := by unfold rd_L1; rw [Int.toNat_natCast, List.getD_eq_getElem?_getD, List.getElem?_eq_getElem hi]; rfl
        rw [hL0] at hx
        have hLb := HRo.out r[i] (List.getElem_mem hi)
        have hst := F_step hi
        rw [← HI.out.2] at hst
        unfold fl at hst
        generalize r[i].length = L at hx hLb hst
        obtain ⟨g, hg⟩ : ∃ g, Nat.gcd o L = g := ⟨_, rfl⟩
        have hg0 : 0 < g := by rw [← hg]; exact Nat.gcd_pos_of_pos_left _ (by omega)
        obtain ⟨kk, hk⟩ := common o L
        rw [hg] at hk hst
        have HCm := Aside0.mk (fun W => impl_common.calls kk (o : Int) (L : Int) _ W hk)
        obtain ⟨q, hq⟩ : ∃ q, o / g = q := ⟨_, rfl⟩
        have hqb : q ≤ 16777216 := by rw [← hq]; have := Nat.div_le_self o g; omega
        rw [hq] at hst
        obtain ⟨p, hp⟩ : ∃ p, q * L = p := ⟨_, rfl⟩
        have hpb : p ≤ 134217728 := by rw [← hp]; have := Nat.mul_le_mul hqb hLb.2; omega
        rw [hp] at hst
        have HI1 : Aside0 (i + 1 ≤ r.length ∧ p = Rnd.F (r.take (i + 1))) := ⟨⟨hi, hst.symm⟩⟩
        have g1 : ((g : Int) == 0) = false := by rw [beq_eq_false_iff_ne]; omega
        have g2 : ¬ (g : Int) = 0 := by omega
        have g3 : ¬ g = 0 := by omega
        have hiz : (i : Int) < (r.length : Int) := by omega
        have hqz : (-1000000000 : Int) ≤ (q : Int) ∧ (q : Int) ≤ 1000000000 := by omega
        have hpz : (-1000000000 : Int) ≤ (p : Int) ∧ (p : Int) ≤ 1000000000 := by omega
        have d1 : (o : Int) / (g : Int) = (q : Int) := by rw [← hq]; rfl
        have d3 : (q : Int) * (L : Int) = (p : Int) := by rw [← hp]; simp
        have d4 : wrap64 (q : Int) = (q : Int) := w_id hqz.1 hqz.2
        have d5 : wrap64 (p : Int) = (p : Int) := w_id hpz.1 hpz.2
        have DP : Aside0 (wrap64 (wrap64 ((o : Int) / (g : Int)) * (L : Int)) = (p : Int)) := ⟨by rw [d1, d4, d3, d5]⟩
        clear hg hk hq hp hst hL0 hg0 hqz hpz d1 d3 d4 d5
        go_wp2_with fail
        refine (HCm.out _).mono ?_
        rintro e wx ⟨rfl, ⟨nd, rfl⟩⟩
        have HB3 := Aside0.mk (pw_below_drewN HB.out nd)
        have HC3 : Aside0 (Kd.C (Kd.slice 3 (Kd.int .i64)) (wr.drewN nd) (some ad) r.length r) := ⟨Kd.C_below HC.out (pw_below_drewN (Below.refl _ _) nd)⟩
        generalize wr.drewN nd = w3 at HB3 HC3 ⊢
        go_wp2_with fail
        go_roundw
        case rel => exact ⟨i + 1, p, congrArg (Value.int .i64) DP.out, by go_num, HI1, HC3, HB3⟩
        case measure => simp [intOf]; omega
      · have hiz : ¬ (i : Int) < (r.length : Int) := by omega
        have HF : Aside0 (o = Rnd.F r) := ⟨by have := HI.out.2; rw [List.take_of_length_le (by omega)] at this; exact this⟩
        go_wp2_with fail
        go_ret2
        exact ⟨by rw [← HF.out]; rfl, HB.out⟩
end Go.Proofs.Ytbfgiccfbaobnaa.WkRoundsHome
