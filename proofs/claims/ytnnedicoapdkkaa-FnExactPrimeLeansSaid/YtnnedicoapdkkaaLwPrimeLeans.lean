/- laws.FnExactPrimeLeans at this program answers true: its walk out of the contracts of both sides, and these. Condition: the numbers are whole numbers of the type's range. -/
import Derived.Test.YtnnedicoapdkkaaWkPrime
import Derived.Test.YtnnedicoapdkkaaMarkSS
namespace Go.Proofs.Ytnnedicoapdkkaa.LwPrimeLeans
set_option linter.unusedVariables false
set_option linter.unusedSimpArgs false
open Go.RowKit Go.Proofs.YtnnedicoapdkkaaW.PrintWords Go.Proofs.YtnnedicoapdkkaaW.PrintLast Go.Proofs.YtnnedicoapdkkaaW.PrintMore Clo Spots Sp PFnExactSpotsFor
abbrev boxL (cw cd : Int) : Obj := .cells #[.int .i64 cw, .int .i64 cd] 23
theorem held_n (k : Nat) (A : Option Addr) (c n : Nat) (l : List (List Int)) (a : Int) (r : Int) (w : World) (hn : n = l.length) (hr : Kd.C KL w A l.length l) (hc : n ≤ c) (h : laws_heldIntSS.f k l a = some r) :
    Calls Try.prog 22 #[.slice A n c, .int .i64 a] w fun e w' => e = .returned (.int .i64 r) ∧ Drawn0 w w' := by
  subst hn; exact laws_heldIntSS.calls k A c l a r w hr hc h

set_option maxHeartbeats 4000000 in
set_option maxRecDepth 100000 in
theorem law (pl : Int) (r : List (List Int)) (b : Bool) (w : World) (hl : r.length ≤ 1000000) (ht : MarkSS.tot r ≤ 1000000)
    (cS : ∀ W, Calls Try.prog 27 #[.int .i64 pl] W fun e w' => ∃ v, e = .returned (.tuple #[v, .bool b]) ∧ Kd.S KL 40 w' W.heap.size (fun _ => True) v r ∧ Below W.heap.size W w')
    (cI : ∀ W, Calls Try.prog 28 #[.int .i64 pl] W fun e w' => ∃ v, e = .returned (.tuple #[v, .bool b]) ∧ Kd.S KL 40 w' W.heap.size (fun _ => True) v r ∧ Below W.heap.size W w') :
    Calls Try.prog 9 #[.int .i64 pl] w fun e w' => e = .returned (.bool true) ∧ Below w.heap.size w w' := by
  have HcS := Aside0.mk cS
  have HcI := Aside0.mk cI
  clear cS cI
  obtain ⟨ke, hke⟩ := MarkSS.eq_ok r ht hl
  obtain ⟨kh, hkh⟩ := MarkSS.held_ok r ht hl
  have HE := Aside0.mk hke
  have HH := Aside0.mk hkh
  have HML : Aside0 (r.length = (MarkSS.mk r 1).length) := ⟨(MarkSS.mk_len r 1).symm⟩
  have HTo := Aside0.mk ht
  clear hke hkh ht
  have hbb : (b != b) = false := by simp
  have hnn : ((1 + (MarkSS.tot r : Int)) != (1 + (MarkSS.tot r : Int))) = false := by simp
  have hn0 : ¬ (1 + (MarkSS.tot r : Int)) < 0 := by omega
  go_enter Try.func9, Try.ntmps9
  go_wp2_with fail
  refine (HcS.out _).mono ?_
  rintro e w1 ⟨v_w, rfl, hS, hb⟩
  have HB1 := Aside0.mk (hb)
  obtain ⟨A_w, c_w, rfl⟩ := Kd.S_slice hS
  have S_w : Aside0 (Kd.S KL 40 w1 w.heap.size (fun k => w.heap.size ≤ k) _ r) := ⟨Kd.S_mono (Kd.S_bound hS) (fun _ hk => hk.2.1)⟩
  clear hS hb
  have SA := S_w
  go_wp2_with fail
  refine (HcI.out _).mono ?_
  rintro e w2 ⟨v_g, rfl, hS, hb⟩
  have HB2 := Aside0.mk (below_then HB1.out HB1.out.size hb)
  replace S_w := Aside0.mk (Kd.S_below S_w.out hb)
  have HA := Aside0.mk hb
  obtain ⟨A_g, c_g, rfl⟩ := Kd.S_slice hS
  have S_g : Aside0 (Kd.S KL 40 w2 w1.heap.size (fun k => w1.heap.size ≤ k) _ r) := ⟨Kd.S_mono (Kd.S_bound hS) (fun _ hk => hk.2.1)⟩
  clear hS hb
  go_wp2_with fail
  refine (laws_eqIntSS.calls ke A_g c_g r A_w c_w r true _ (Kd.S_reads' S_g.out).2.2 (Kd.S_reads' S_g.out).2.1 (Kd.S_reads' S_w.out).2.2 (Kd.S_reads' S_w.out).2.1 HE.out).mono ?_
  rintro e wx ⟨rfl, ⟨nd, rfl⟩⟩
  have HB3 := Aside0.mk (pw_below_drewN HB2.out nd)
  replace S_w := Aside0.mk (Kd.S_drewN S_w.out nd)
  replace S_g := Aside0.mk (Kd.S_drewN S_g.out nd)
  have HAd := Aside0.mk (pw_below_drewN HA.out nd)
  generalize w2.drewN nd = w3 at HAd HB3 S_w S_g ⊢
  have HAg : Aside0 (Below w1.heap.size w1 w3) := HAd
  go_wp2_with fail
  refine (MarkSS.markSS _ r w1 w3 S_g.out HAg.out hl HTo.out).mono ?_
  rintro e w4 ⟨rfl, hS, hb⟩
  have HB4 := Aside0.mk (below_then HB1.out HB1.out.size hb)
  replace S_w := Aside0.mk (Kd.S_below SA.out hb)
  replace S_g := Aside0.mk hS
  clear hS hb SA HA HAd HAg
  go_wp2_with fail
  refine (held_n kh A_g c_g r.length (MarkSS.mk r 1) 1 _ _ HML.out (Kd.S_reads' S_g.out).2.2 (Kd.S_reads' S_g.out).2.1 HH.out).mono ?_
  rintro e wx ⟨rfl, ⟨nd, rfl⟩⟩
  have HB5 := Aside0.mk (pw_below_drewN HB4.out nd)
  replace S_w := Aside0.mk (Kd.S_drewN S_w.out nd)
  replace S_g := Aside0.mk (Kd.S_drewN S_g.out nd)
  generalize w4.drewN nd = w5 at HB5 S_w S_g ⊢
  go_wp2_with fail
  refine (HcI.out _).mono ?_
  rintro e w6 ⟨v_h, rfl, hS, hb⟩
  have HB6 := Aside0.mk (below_then HB5.out HB5.out.size hb)
  replace S_w := Aside0.mk (Kd.S_below S_w.out hb)
  replace S_g := Aside0.mk (Kd.S_below S_g.out hb)
  obtain ⟨A_h, c_h, rfl⟩ := Kd.S_slice hS
  have S_h : Aside0 (Kd.S KL 40 w6 w5.heap.size (fun k => w5.heap.size ≤ k) _ r) := ⟨Kd.S_mono (Kd.S_bound hS) (fun _ hk => hk.2.1)⟩
  clear hS hb
  go_wp2_with fail
  refine (laws_eqIntSS.calls ke A_h c_h r A_w c_w r true _ (Kd.S_reads' S_h.out).2.2 (Kd.S_reads' S_h.out).2.1 (Kd.S_reads' S_w.out).2.2 (Kd.S_reads' S_w.out).2.1 HE.out).mono ?_
  rintro e wx ⟨rfl, ⟨nd, rfl⟩⟩
  have HB7 := Aside0.mk (pw_below_drewN HB6.out nd)
  replace S_w := Aside0.mk (Kd.S_drewN S_w.out nd)
  replace S_g := Aside0.mk (Kd.S_drewN S_g.out nd)
  replace S_h := Aside0.mk (Kd.S_drewN S_h.out nd)
  generalize w6.drewN nd = w7 at HB7 S_w S_g S_h ⊢
  go_wp2_with fail
  refine (held_n kh A_g c_g r.length (MarkSS.mk r 1) 1 _ _ HML.out (Kd.S_reads' S_g.out).2.2 (Kd.S_reads' S_g.out).2.1 HH.out).mono ?_
  rintro e wx ⟨rfl, ⟨nd, rfl⟩⟩
  have HB8 := Aside0.mk (pw_below_drewN HB7.out nd)
  replace S_w := Aside0.mk (Kd.S_drewN S_w.out nd)
  replace S_g := Aside0.mk (Kd.S_drewN S_g.out nd)
  replace S_h := Aside0.mk (Kd.S_drewN S_h.out nd)
  generalize w7.drewN nd = w8 at HB8 S_w S_g S_h ⊢
  go_wp2_with fail
  go_ret
  exact ⟨rfl, HB8.out⟩
theorem tot_le {m : Nat} : ∀ l : List (List Int), (∀ x ∈ l, x.length ≤ m) → MarkSS.tot l ≤ m * l.length
  | [], _ => by simp [MarkSS.tot]
  | x :: t, h => by
    have h1 := h x (by simp)
    have h2 := tot_le t (fun y hy => h y (by simp [hy]))
    simp only [MarkSS.tot, List.length_cons, Nat.mul_add, Nat.mul_one]
    omega
theorem whole (pl : Int) (w : World) (_ : (Lit.int .i64 pl).wf = true) : Calls Try.prog 9 #[.int .i64 pl] w fun e w' => e = .returned (.bool true) ∧ Below w.heap.size w w' := by
  have hle := WkAll.val_le pl true
  have ht := tot_le _ hle.2
  have hI := fun W => WkAll.implPr pl W
  have hS := fun W => WkAll.specPr pl W
  generalize WkAll.val pl true = q at hle ht hI hS
  obtain ⟨r, b⟩ := q
  have h1 : r.length ≤ 40000 := hle.1
  have h2 : MarkSS.tot r ≤ 3 * r.length := ht
  exact law pl r b w (by omega) (by omega) hS hI
end Go.Proofs.Ytnnedicoapdkkaa.LwPrimeLeans
