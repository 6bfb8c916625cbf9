/- laws.FnExactSpotsFor at this program answers true: its walk out of the contracts of both sides, and these. Condition: the numbers are whole numbers of the type's range. -/
import Derived.Test.YtnnedicoapdkkaaFcSpotsFor
import Derived.Test.YtnnedicoapdkkaaMarkSS
namespace Go.Proofs.Ytnnedicoapdkkaa.LwSpotsFor
set_option linter.unusedVariables false
set_option linter.unusedSimpArgs false
open Go.RowKit Go.Proofs.YtnnedicoapdkkaaW.PrintWords Go.Proofs.YtnnedicoapdkkaaW.PrintLast Go.Proofs.YtnnedicoapdkkaaW.PrintMore Clo Spots Sp PFnExactSpotsFor
abbrev boxL (cw cd : Int) : Obj := .cells #[.int .i64 cw, .int .i64 cd] 23
theorem held_n (k : Nat) (A : Option Addr) (c n : Nat) (l : List (List Int)) (a : Int) (r : Int) (w : World) (hn : n = l.length) (hr : Kd.C KL w A l.length l) (hc : n ≤ c) (h : laws_heldIntSS.f k l a = some r) :
    Calls Try.prog 22 #[.slice A n c, .int .i64 a] w fun e w' => e = .returned (.int .i64 r) ∧ Drawn0 w w' := by
  subst hn; exact laws_heldIntSS.calls k A c l a r w hr hc h

set_option maxHeartbeats 4000000 in
set_option maxRecDepth 100000 in
theorem law (cw cd pl : Int) (r : List (List Int)) (b : Bool) (w : World) (hl : r.length ≤ 1000000) (ht : MarkSS.tot r ≤ 1000000)
    (cS : ∀ W, Calls Try.prog 18 #[.agg #[.int .i64 cw, .int .i64 cd], .int .i64 pl] W fun e w' => ∃ v, e = .returned (.tuple #[v, .bool b]) ∧ Kd.S KL 40 w' W.heap.size (fun _ => True) v r ∧ Below W.heap.size W w')
    (cI : ∀ W, Calls Try.prog 19 #[.agg #[.int .i64 cw, .int .i64 cd], .int .i64 pl] W fun e w' => ∃ v, e = .returned (.tuple #[v, .bool b]) ∧ Kd.S KL 40 w' W.heap.size (fun _ => True) v r ∧ Below W.heap.size W w') :
    Calls Try.prog 6 #[.agg #[.int .i64 cw, .int .i64 cd], .int .i64 pl] w fun e w' => e = .returned (.bool true) ∧ Below w.heap.size w w' := by
  have hu23 := Try.underlying23
  have hu26 := Try.underlying26
  have HT := Aside0.mk (fun W => laws_toCorner.calls cw cd cw cd W rfl)
  have HcS := Aside0.mk cS
  have HcI := Aside0.mk cI
  clear cS cI
  obtain ⟨ke, hke⟩ := MarkSS.eq_ok r ht hl
  obtain ⟨kh, hkh⟩ := MarkSS.held_ok r ht hl
  have HE := Aside0.mk hke
  have HH := Aside0.mk hkh
  have HML : Aside0 (r.length = (MarkSS.mk r 1).length) := ⟨(MarkSS.mk_len r 1).symm⟩
  have HTo := Aside0.mk ht
  clear hke hkh ht
  have hbb : (b != b) = false := by simp
  have hnn : ((1 + (MarkSS.tot r : Int)) != (1 + (MarkSS.tot r : Int))) = false := by simp
  have hn0 : ¬ (1 + (MarkSS.tot r : Int)) < 0 := by omega
  go_enter Try.func6, Try.ntmps6
  go_wp2_with fail
  refine (HT.out _).mono ?_
  rintro e w1 ⟨rfl, hb⟩
  have HB1 := Aside0.mk (below_step (below_alloc (Below.refl w.heap.size w) (boxL cw cd)) hb)
  have BK1 : Aside0 (w1.heap[w.heap.size]? = some (boxL cw cd)) := ⟨blk_below (blk_new w _) hb⟩
  clear hb
  go_wp2_with fail
  refine (HcS.out _).mono ?_
  rintro e w2 ⟨v_w, rfl, hS, hb⟩
  have HB2 := Aside0.mk (below_then HB1.out HB1.out.size hb)
  have BK2 : Aside0 (w2.heap[w.heap.size]? = some (boxL cw cd)) := ⟨blk_below BK1.out hb⟩
  obtain ⟨A_w, c_w, rfl⟩ := Kd.S_slice hS
  have S_w : Aside0 (Kd.S KL 40 w2 w1.heap.size (fun k => w1.heap.size ≤ k) _ r) := ⟨Kd.S_mono (Kd.S_bound hS) (fun _ hk => hk.2.1)⟩
  clear hS hb
  have hc0 : w2.cell? ⟨w.heap.size, 0, none⟩ = some (.int .i64 cw) := (blk_cell BK2.out 0).trans rfl
  have hc1 : w2.cell? ⟨w.heap.size, 1, none⟩ = some (.int .i64 cd) := (blk_cell BK2.out 1).trans rfl
  go_wp2_with fail
  refine (HT.out _).mono ?_
  rintro e w3 ⟨rfl, hb⟩
  have HB3 := Aside0.mk (below_then HB2.out HB2.out.size hb)
  have BK3 : Aside0 (w3.heap[w.heap.size]? = some (boxL cw cd)) := ⟨blk_below BK2.out hb⟩
  replace S_w := Aside0.mk (Kd.S_below S_w.out hb)
  clear hb hc0 hc1
  have SA := S_w
  go_wp2_with fail
  refine (HcI.out _).mono ?_
  rintro e w4 ⟨v_g, rfl, hS, hb⟩
  have HB4 := Aside0.mk (below_then HB3.out HB3.out.size hb)
  have BK4 : Aside0 (w4.heap[w.heap.size]? = some (boxL cw cd)) := ⟨blk_below BK3.out hb⟩
  replace S_w := Aside0.mk (Kd.S_below S_w.out hb)
  have HA := Aside0.mk hb
  obtain ⟨A_g, c_g, rfl⟩ := Kd.S_slice hS
  have S_g : Aside0 (Kd.S KL 40 w4 w3.heap.size (fun k => w3.heap.size ≤ k) _ r) := ⟨Kd.S_mono (Kd.S_bound hS) (fun _ hk => hk.2.1)⟩
  clear hS hb
  go_wp2_with fail
  refine (laws_eqIntSS.calls ke A_g c_g r A_w c_w r true _ (Kd.S_reads' S_g.out).2.2 (Kd.S_reads' S_g.out).2.1 (Kd.S_reads' S_w.out).2.2 (Kd.S_reads' S_w.out).2.1 HE.out).mono ?_
  rintro e wx ⟨rfl, ⟨nd, rfl⟩⟩
  have HB5 := Aside0.mk (pw_below_drewN HB4.out nd)
  have BK5 : Aside0 ((w4.drewN nd).heap[w.heap.size]? = some (boxL cw cd)) := ⟨BK4.out⟩
  replace S_w := Aside0.mk (Kd.S_drewN S_w.out nd)
  replace S_g := Aside0.mk (Kd.S_drewN S_g.out nd)
  have HAd := Aside0.mk (pw_below_drewN HA.out nd)
  generalize w4.drewN nd = w5 at HAd HB5 BK5 S_w S_g ⊢
  have HAg : Aside0 (Below w3.heap.size w3 w5) := HAd
  go_wp2_with fail
  refine (MarkSS.markSS _ r w3 w5 S_g.out HAg.out hl HTo.out).mono ?_
  rintro e w6 ⟨rfl, hS, hb⟩
  have HB6 := Aside0.mk (below_then HB3.out HB3.out.size hb)
  have BK6 : Aside0 (w6.heap[w.heap.size]? = some (boxL cw cd)) := ⟨blk_below BK3.out hb⟩
  replace S_w := Aside0.mk (Kd.S_below SA.out hb)
  replace S_g := Aside0.mk hS
  clear hS hb SA HA HAd HAg
  go_wp2_with fail
  refine (held_n kh A_g c_g r.length (MarkSS.mk r 1) 1 _ _ HML.out (Kd.S_reads' S_g.out).2.2 (Kd.S_reads' S_g.out).2.1 HH.out).mono ?_
  rintro e wx ⟨rfl, ⟨nd, rfl⟩⟩
  have HB7 := Aside0.mk (pw_below_drewN HB6.out nd)
  have BK7 : Aside0 ((w6.drewN nd).heap[w.heap.size]? = some (boxL cw cd)) := ⟨BK6.out⟩
  replace S_w := Aside0.mk (Kd.S_drewN S_w.out nd)
  replace S_g := Aside0.mk (Kd.S_drewN S_g.out nd)
  generalize w6.drewN nd = w7 at HB7 BK7 S_w S_g ⊢
  have hc0 : w7.cell? ⟨w.heap.size, 0, none⟩ = some (.int .i64 cw) := (blk_cell BK7.out 0).trans rfl
  have hc1 : w7.cell? ⟨w.heap.size, 1, none⟩ = some (.int .i64 cd) := (blk_cell BK7.out 1).trans rfl
  go_wp2_with fail
  refine (HT.out _).mono ?_
  rintro e w8 ⟨rfl, hb⟩
  have HB8 := Aside0.mk (below_then HB7.out HB7.out.size hb)
  have BK8 : Aside0 (w8.heap[w.heap.size]? = some (boxL cw cd)) := ⟨blk_below BK7.out hb⟩
  replace S_w := Aside0.mk (Kd.S_below S_w.out hb)
  replace S_g := Aside0.mk (Kd.S_below S_g.out hb)
  clear hb hc0 hc1
  go_wp2_with fail
  refine (HcI.out _).mono ?_
  rintro e w9 ⟨v_h, rfl, hS, hb⟩
  have HB9 := Aside0.mk (below_then HB8.out HB8.out.size hb)
  have BK9 : Aside0 (w9.heap[w.heap.size]? = some (boxL cw cd)) := ⟨blk_below BK8.out hb⟩
  replace S_w := Aside0.mk (Kd.S_below S_w.out hb)
  replace S_g := Aside0.mk (Kd.S_below S_g.out hb)
  obtain ⟨A_h, c_h, rfl⟩ := Kd.S_slice hS
  have S_h : Aside0 (Kd.S KL 40 w9 w8.heap.size (fun k => w8.heap.size ≤ k) _ r) := ⟨Kd.S_mono (Kd.S_bound hS) (fun _ hk => hk.2.1)⟩
  clear hS hb
  go_wp2_with fail
  refine (laws_eqIntSS.calls ke A_h c_h r A_w c_w r true _ (Kd.S_reads' S_h.out).2.2 (Kd.S_reads' S_h.out).2.1 (Kd.S_reads' S_w.out).2.2 (Kd.S_reads' S_w.out).2.1 HE.out).mono ?_
  rintro e wx ⟨rfl, ⟨nd, rfl⟩⟩
  have HB10 := Aside0.mk (pw_below_drewN HB9.out nd)
  have BK10 : Aside0 ((w9.drewN nd).heap[w.heap.size]? = some (boxL cw cd)) := ⟨BK9.out⟩
  replace S_w := Aside0.mk (Kd.S_drewN S_w.out nd)
  replace S_g := Aside0.mk (Kd.S_drewN S_g.out nd)
  replace S_h := Aside0.mk (Kd.S_drewN S_h.out nd)
  generalize w9.drewN nd = w10 at HB10 BK10 S_w S_g S_h ⊢
  go_wp2_with fail
  refine (held_n kh A_g c_g r.length (MarkSS.mk r 1) 1 _ _ HML.out (Kd.S_reads' S_g.out).2.2 (Kd.S_reads' S_g.out).2.1 HH.out).mono ?_
  rintro e wx ⟨rfl, ⟨nd, rfl⟩⟩
  have HB11 := Aside0.mk (pw_below_drewN HB10.out nd)
  have BK11 : Aside0 ((w10.drewN nd).heap[w.heap.size]? = some (boxL cw cd)) := ⟨BK10.out⟩
  replace S_w := Aside0.mk (Kd.S_drewN S_w.out nd)
  replace S_g := Aside0.mk (Kd.S_drewN S_g.out nd)
  replace S_h := Aside0.mk (Kd.S_drewN S_h.out nd)
  generalize w10.drewN nd = w11 at HB11 BK11 S_w S_g S_h ⊢
  go_wp2_with fail
  go_ret
  exact ⟨rfl, HB11.out⟩
theorem impl (cw cd pl : Int) (w : World) : Calls Try.prog 19 #[.agg #[.int .i64 cw, .int .i64 cd], .int .i64 pl] w fun e w' => ∃ v, e = .returned (.tuple #[v, .bool (FcSpotsFor.val cw cd pl).2]) ∧ Kd.S KL 40 w' w.heap.size (fun _ => True) v (FcSpotsFor.val cw cd pl).1 ∧ Below w.heap.size w w' := by
  unfold FcSpotsFor.val
  refine spotsFor cw cd pl _ _ _ w (fun W => ?_) (fun hb W => ?_)
  · unfold FcSpotsFor.cnt
    by_cases h1 : (1 ≤ cw ∧ cw ≤ 100) ∧ 1 ≤ cd ∧ cd ≤ 100
    · by_cases h2 : 1 ≤ pl ∧ pl ≤ 200
      · rw [if_pos ⟨h1, h2⟩]
        obtain ⟨k, hk⟩ := (firsts h2.1 h2.2).rounds
        exact count_yes k cw cd pl (F pl) W (by rw [corner_eq, decide_eq_true h1]) (by rw [plank_eq, decide_eq_true h2]) hk (F_two pl)
      · rw [if_neg (fun q => h2 q.2)]
        exact count_no cw cd pl true W (by rw [corner_eq, decide_eq_true h1]) (fun _ => by rw [plank_eq, decide_eq_false h2])
    · rw [if_neg (fun q => h1 q.1)]
      exact count_no cw cd pl false W (by rw [corner_eq, decide_eq_false h1]) (fun q => by cases q)
  · unfold FcSpotsFor.cnt at hb
    by_cases h : ((1 ≤ cw ∧ cw ≤ 100) ∧ 1 ≤ cd ∧ cd ≤ 100) ∧ 1 ≤ pl ∧ pl ≤ 200
    · obtain ⟨k, hk⟩ := (firsts h.2.1 h.2.2).rounds
      exact spots k cw cd pl (F pl) W hk (F_two pl)
    · rw [if_neg h] at hb
      cases hb
theorem tot_le {m : Nat} : ∀ l : List (List Int), (∀ x ∈ l, x.length ≤ m) → MarkSS.tot l ≤ m * l.length
  | [], _ => by simp [MarkSS.tot]
  | x :: t, h => by
    have h1 := h x (by simp)
    have h2 := tot_le t (fun y hy => h y (by simp [hy]))
    simp only [MarkSS.tot, List.length_cons, Nat.mul_add, Nat.mul_one]
    omega
theorem cols_le (pl a : Int) : ∀ m b, ∀ x ∈ cols pl a m b, x.length ≤ 2
  | 0, _ => by simp [cols]
  | m + 1, b => by
    intro x hx
    rw [cols] at hx
    split at hx
    · rcases List.mem_cons.1 hx with h | h
      · rw [h]; simp
      · exact cols_le pl a m (b + 1) x h
    · cases hx
theorem rows_le (pl : Int) : ∀ d a, ∀ x ∈ rows pl d a, x.length ≤ 2
  | 0, _ => by simp [rows]
  | d + 1, a => by
    intro x hx
    rw [rows] at hx
    rcases List.mem_append.1 hx with h | h
    · exact cols_le _ _ _ _ x h
    · exact rows_le pl d (a + 1) x h
theorem val_le (cw cd pl : Int) : (FcSpotsFor.val cw cd pl).1.length ≤ 1000 ∧ ∀ x ∈ (FcSpotsFor.val cw cd pl).1, x.length ≤ 2 := by
  unfold FcSpotsFor.val sf
  split
  · next h =>
    refine ⟨?_, fun x hx => rows_le _ _ _ x (List.mem_filter.1 hx).1⟩
    have h1 := h.1
    have h2 := h.2
    unfold FcSpotsFor.cnt at h1 h2
    split at h1
    · next h3 =>
      rw [if_pos h3] at h2
      show (good cw cd pl (F pl)).length ≤ 1000
      have h4 : ((good cw cd pl (F pl)).length : Int) ≤ 1000 := h2
      omega
    · cases h1
  · simp
theorem whole (cw cd pl : Int) (w : World) (_ : (Lit.int .i64 cw).wf = true) (_ : (Lit.int .i64 cd).wf = true) (_ : (Lit.int .i64 pl).wf = true) : Calls Try.prog 6 #[.agg #[.int .i64 cw, .int .i64 cd], .int .i64 pl] w fun e w' => e = .returned (.bool true) ∧ Below w.heap.size w w' := by
  obtain ⟨k, hk⟩ := FcSpotsFor.spec_eq cw cd pl
  have hle := val_le cw cd pl
  have ht := tot_le _ hle.2
  have hI := fun W => impl cw cd pl W
  generalize FcSpotsFor.val cw cd pl = q at hk hle ht hI
  obtain ⟨r, b⟩ := q
  have h1 : r.length ≤ 1000 := hle.1
  have h2 : MarkSS.tot r ≤ 2 * r.length := ht
  exact law cw cd pl r b w (by omega) (by omega) (fun W => PFnExactSpotsFor.spec_SpotsFor.calls k cw cd pl r b W hk) hI
end Go.Proofs.Ytnnedicoapdkkaa.LwSpotsFor
