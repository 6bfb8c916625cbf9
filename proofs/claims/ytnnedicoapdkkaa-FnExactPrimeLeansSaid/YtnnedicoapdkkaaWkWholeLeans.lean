/- impl.WholeLeans and spec.WholeLeans at this program hand back the first two numbers of each lean. No condition. -/
import Derived.Test.YtnnedicoapdkkaaFcWholeLeans
import Derived.Test.YtnnedicoapdkkaaDF2
namespace Go.Proofs.Ytnnedicoapdkkaa.WkWholeLeans
set_option linter.unusedVariables false
set_option linter.unusedSimpArgs false
open Go.RowKit Go.Proofs.YtnnedicoapdkkaaW.PrintWords Go.Proofs.YtnnedicoapdkkaaW.PrintLast Go.Proofs.YtnnedicoapdkkaaW.PrintMore DF Spots Sp Leans FcWholeLeans PFnExactSpotsFor

def val (p : Int) : List (List Int) × Bool := if 1 ≤ p ∧ p ≤ 200 then (Ws p.toNat (p.toNat - 1), true) else ([], false)
theorem ln_row {p a : Nat} : ∀ x ∈ ln p a, x.length = 3 := by unfold ln; split <;> simp
theorem Ls_row (p : Nat) : ∀ n, ∀ x ∈ Ls p n, x.length = 3
  | 0 => by simp [Ls]
  | n + 1 => by
    intro x hx
    rw [Ls] at hx
    rcases List.mem_append.1 hx with h | h
    · exact Ls_row p n x h
    · exact ln_row x h
/-- The blocks that the first i leans lie in, those from before and those from later. -/
def okR (f : Nat → Nat) (N0 N i : Nat) (k : Nat) : Prop := k < N0 ∨ N ≤ k ∨ f k < i
def mine (f : Nat → Nat) (N0 N i : Nat) (k : Nat) : Prop := (N0 ≤ k ∧ k < N) ∧ f k = i
theorem R_at {f : Nat → Nat} {W : World} {base : Nat} {ok : Nat → Prop} {v : Value} {l : List (List Int)} (h : (Kd.tag f KL).R 40 W base ok v l.zipIdx) {i : Nat} (hi : i < l.length) :
    ∃ ad A c n, v = .slice (some ad) n c ∧ W.cell? (ad.add i) = some A ∧ Kd.R (Kd.int .i64) 3 W base (fun k => (ok k ∧ some k ≠ v.ownBlock) ∧ f k = i) A l[i] := by
  obtain ⟨A, c, rfl⟩ := Kd.R_slice h
  obtain ⟨ad, rfl⟩ : ∃ ad, A = some ad := by
    obtain ⟨g, cap, hv, _⟩ := Kd.R_form h (by rw [List.length_zipIdx]; omega)
    injection hv with hA
    exact ⟨_, hA⟩
  obtain ⟨cc, hl, hM, hcc⟩ := Kd.R_getA h (l[i], i) (i : Int) (by omega) (by rw [List.length_zipIdx]; omega)
  have e : l.zipIdx.getD (i : Int).toNat (l[i], i) = (l[i], i) := by
    rw [Int.toNat_natCast, List.getD_eq_getElem?_getD, List.getElem?_zipIdx, List.getElem?_eq_getElem hi]
    simp
  rw [e] at hM
  obtain ⟨u, rfl, hR⟩ := hM
  refine ⟨ad, u, c, _, rfl, ?_, hR⟩
  have := hcc 0 u rfl
  rwa [Int.toNat_natCast, show i * (Kd.tag f KL).sz + 0 = i by show i * 1 + 0 = i; omega] at this

set_option maxHeartbeats 4000000 in
set_option maxRecDepth 100000 in
theorem impl_yes (p : Nat) (w : World) (h1 : 1 ≤ p) (h2 : p ≤ 200) :
    Calls Try.prog 24 #[.int .i64 (p : Int)] w fun e w' => ∃ v, e = .returned (.tuple #[v, .bool true]) ∧ Kd.S KL 40 w' w.heap.size (fun _ => True) v (Ws p (p - 1)) ∧ Below w.heap.size w w' := by
  have CP := Aside0.mk (fun W => impl_isPlankLong.calls (p : Int) true W (by rw [plank_eq, decide_eq_true (show (1 : Int) ≤ p ∧ (p : Int) ≤ 200 by omega)]))
  have CL := Aside0.mk (fun W => leans p W h1 h2)
  obtain ⟨l, hl⟩ : ∃ l, Ls p (p - 1) = l := ⟨_, rfl⟩
  have hW : Ws p (p - 1) = l.map (List.take 2) := by unfold Ws; rw [hl]
  have H3 : Aside0 (∀ x ∈ l, x.length = 3) := ⟨by rw [← hl]; exact Ls_row p _⟩
  have HLn : Aside0 (l.length ≤ 200) := ⟨by rw [← hl]; have := Ls_len p (p - 1); omega⟩
  rw [hW]
  rw [hl] at CL
  clear hl hW
  go_enter Try.func24, Try.ntmps24
  go_wp2_with fail
  refine (CP.out _).mono ?_
  rintro e wx ⟨rfl, ⟨nd, rfl⟩⟩
  have HB := Aside0.mk (pw_below_drewN (Below.refl w.heap.size w) nd)
  generalize w.drewN nd = w1 at HB ⊢
  go_wp2_with (first | ((with_reducible refine gate_dst (N := 10) rfl ?_); refine Kd.S_lit (Kd.slice 3 (Kd.int .i64)) _ 40 ?hg (N := 10) ?hd (xs := ([] : List (List Int))) (inner := []) (ok := fun _ => True) (okp := fun _ => True) ?hr ?hp (fun _ hk => hk) trivial (Below.refl _ _) (Nat.le_refl _) (by simp) ?_; (case hd => rfl); (case hg => rfl); (case hr => first | (go_simp; done) | (go_simp; rfl)); (case hp => exact (Reps.none _ _)); intro v_S4 w_S4 ho3 hb hg_ hnew_; clear hg_ hnew_; have S4 := Aside0.mk (Kd.S_lower ho3 (below_size (by repeat (first | (with_reducible first | exact HB.out | apply below_alloc | apply pw_below_drewN | apply below_drew1) | exact HB.out)))); have n1_ := Aside0.mk (below_step (by repeat (first | (with_reducible first | exact HB.out | apply below_alloc | apply pw_below_drewN | apply below_drew1) | exact HB.out)) hb); clear HB; have HB := n1_; clear n1_; clear hb ho3))
  refine (CL.out _).mono ?_
  rintro e w3 ⟨vL, rfl, hS, hb⟩
  obtain ⟨AL, cL, rfl⟩ := Kd.S_slice hS
  have S4w := Aside0.mk (Kd.S_below S4.out hb)
  have HB3 := Aside0.mk (below_then HB.out HB.out.size hb)
  obtain ⟨f, hf⟩ := hS
  have hnL := (Kd.R_reads' hf).1
  rw [List.length_zipIdx] at hnL
  have RL : Aside0 ((Kd.tag f KL).R 40 w3 w_S4.heap.size (fun k => w_S4.heap.size ≤ k ∧ k < w3.heap.size) (.slice AL l.length cL) l.zipIdx) := ⟨Kd.R_mono (Kd.R_bound hf) (fun _ hk => ⟨hk.2.1, hk.2.2.1⟩)⟩
  have SO : Aside0 (Kd.S KL 40 w3 w.heap.size (okR f w_S4.heap.size w3.heap.size 0) v_S4 ((l.take 0).map (List.take 2))) := ⟨by
    refine Kd.S_mono (Kd.S_kept (S := fun _ => False) (Kd.S_bound S4.out) (Kept.of_below hb _) (fun _ _ h => h)) (fun k hk => .inl hk.2.2.1)⟩
  have OB : Aside0 (∀ k, v_S4.ownBlock = some k → k < w_S4.heap.size ∨ w3.heap.size ≤ k) := ⟨fun k hk => .inl (Kd.S_lt S4.out k hk)⟩
  have HN0 : Aside0 (w.heap.size ≤ w_S4.heap.size) := ⟨HB.out.size⟩
  generalize hN0 : w_S4.heap.size = N0 at RL SO OB HN0
  have HN : Aside0 (w3.heap.size ≤ w3.heap.size) := ⟨Nat.le_refl _⟩
  generalize hN : w3.heap.size = N at RL SO OB HN
  replace HN : Aside0 (N ≤ w3.heap.size) := ⟨by rw [hN]; exact Nat.le_refl _⟩
  clear hb hf hnL S4 S4w HB hN0 hN
  go_wp2_with fail
  go_loopw [4, 14] (fun v4 v14 wr => ∃ i : Nat, v14 = .int .i64 (i : Int) ∧ Aside0 (i ≤ l.length) ∧ Aside0 (Kd.S KL 40 wr w.heap.size (okR f N0 N i) v4 ((l.take i).map (List.take 2))) ∧ Aside0 (∀ k, v4.ownBlock = some k → k < N0 ∨ N ≤ k) ∧ Aside0 ((Kd.tag f KL).R 40 wr N0 (fun k => N0 ≤ k ∧ k < N) (.slice AL l.length cL) l.zipIdx) ∧ Aside0 (Below w.heap.size w wr) ∧ Aside0 (N ≤ wr.heap.size)) (fun _ v14 _ => l.length - (intOf v14).toNat)
  case atStart => exact ⟨0, rfl, ⟨Nat.zero_le _⟩, SO, OB, RL, HB3, HN⟩
  case round =>
    clear SO OB RL HB3 HN
    obtain ⟨i, rfl, HI, SO, OB, RL, HB, HN⟩ := hrel
    have hil := HI.out
    have hll := HLn.out
    by_cases hi : i < l.length
    · obtain ⟨ad, u, c, n, hv, hx, hR⟩ := R_at RL.out hi
      cases hv
      have h3 := H3.out l[i] (List.getElem_mem hi)
      obtain ⟨A2, c2, rfl⟩ := Kd.R_slice hR
      have hR2 := Kd.R_take hR (m := 2) (by omega)
      obtain ⟨y, hy⟩ : ∃ y, l[i].take 2 = y := ⟨_, rfl⟩
      have hyl : y.length = 2 := by rw [← hy, List.length_take]; omega
      have hc2 : 3 ≤ c2 := by have := (Kd.R_reads' hR).2.1; omega
      have hc2m : c2 ≤ 9223372036854775807 := by
        obtain ⟨_, inner, ho, _⟩ := hR
        rcases ho.2 with ⟨hv', _⟩ | ⟨g', cap', cur, hv', _, _, _, hcm, _⟩
        · injection hv' with h1 h2 h3; omega
        · injection hv' with h1 h2 h3; unfold maxLen at hcm; omega
      rw [h3] at hx
      rw [hy] at hR2
      have hN0 := HN0.out
      have RY : Aside0 (Kd.R (Kd.int .i64) 3 wr w.heap.size (mine f N0 N i) (.slice A2 2 c2) y) := ⟨Kd.R_lower (Kd.R_mono hR2 (fun k hk => ⟨hk.1.1, hk.2⟩)) hN0⟩
      have NL : Aside0 ((l.take (i + 1)).map (List.take 2) = (l.take i).map (List.take 2) ++ [y]) := ⟨by rw [List.take_succ_eq_append_getElem hi, List.map_append, ← hy]; rfl⟩
      have HI1 : Aside0 (i + 1 ≤ l.length) := ⟨hi⟩
      have hiz : (i : Int) < (l.length : Int) := by omega
      have LB : Aside0 (((l.take i).map (List.take 2)).length ≤ 200) := ⟨by rw [List.length_map, List.length_take]; omega⟩
      clear hR hR2 hy h3
      go_wp2_with (first | ((with_reducible refine gate_builtin (b := .append) (xs := #[.tmp 18, .tmp 21]) rfl ?_); at_builtin; refine Kd.S_append (Kd.slice 3 (Kd.int .i64)) (w0 := w) w.heap.size rfl (.tmp 18) (.tmp 21) 33 40 (.slice none 0 0) 24 rfl Try.underlying33 info40 rfl (by decide) (by omega) u4 ((l.take i).map (List.take 2)) y [.slice A2 2 c2] (okR f N0 N (i + 1)) (mine f N0 N i) rfl rfl ?aP ?aK ?aF ?aO ?aB ?aS ?aL ?_; (case aP => exact Kd.M_row (Kd.R_mono RY.out (fun _ h_ => h_))); (case aK => exact (fun k_ hk_ => ⟨.inr (.inr (by have := hk_.2; omega)), fun e_ => (OB.out k_ e_.symm).elim (fun q_ => by have := hk_.1.1; omega) (fun q_ => by have := hk_.1.2; omega)⟩)); (case aF => exact (fun k_ hk_ => .inr (.inl (Nat.le_trans HN.out hk_)))); (case aO => exact Kd.S_mono SO.out (fun k_ hk_ => ⟨hk_.imp_right (fun q_ => q_.imp_right (fun r_ => by omega)), fun m_ => hk_.elim (fun q_ => by have := m_.1.1; omega) (fun q_ => q_.elim (fun r_ => by have := m_.1.2; omega) (fun r_ => by have := m_.2; omega))⟩)); (case aB => exact HB.out); (case aS => exact HB.out.size); (case aL => have := LB.out; omega); intro v_n w_n ho hb hg hat; rw [← NL.out] at ho; have n1_ := Aside0.mk hb; have n2_ := Aside0.mk ho; have n3_ := Aside0.mk (Kd.R_grown RL.out hg (fun k_ hk_ e_ => (OB.out k_ e_.symm).elim (fun q_ => by have := hk_.1; omega) (fun q_ => by have := hk_.2; omega))); have n4_ := Aside0.mk (Nat.le_trans HN.out hg.size); have n5_ : Aside0 (∀ k, v_n.ownBlock = some k → k < N0 ∨ N ≤ k) := ⟨fun k_ e_ => hat.elim (fun q_ => OB.out k_ (q_ ▸ e_)) (fun ⟨b_, q1_, q2_⟩ => .inr (by rw [q1_] at e_; cases e_; exact Nat.le_trans HN.out q2_))⟩; clear HB SO RL HN OB RY; have HB := n1_; have SO := n2_; have RL := n3_; have HN := n4_; have OB := n5_; clear n1_ n2_ n3_ n4_ n5_; clear ho hb hg hat))
      go_roundw
      case rel => exact ⟨i + 1, by go_num, HI1, SO, OB, RL, HB, HN⟩
      case measure => simp [intOf]; omega
    · have hiz : ¬ (i : Int) < (l.length : Int) := by omega
      have SF : Aside0 (Kd.S KL 40 wr w.heap.size (fun _ => True) u4 (l.map (List.take 2))) := ⟨by have := SO.out; rw [List.take_of_length_le (by omega)] at this; exact Kd.S_mono this (fun _ _ => trivial)⟩
      go_wp2
      go_ret2
      exact ⟨_, rfl, SF.out, HB.out⟩

set_option maxHeartbeats 4000000 in
theorem impl_no (p : Int) (w : World) (h : ¬ (1 ≤ p ∧ p ≤ 200)) :
    Calls Try.prog 24 #[.int .i64 p] w fun e w' => ∃ v, e = .returned (.tuple #[v, .bool false]) ∧ Kd.S KL 40 w' w.heap.size (fun _ => True) v [] ∧ Below w.heap.size w w' := by
  have CP := Aside0.mk (fun W => impl_isPlankLong.calls p false W (by rw [plank_eq, decide_eq_false h]))
  clear h
  go_enter Try.func24, Try.ntmps24
  go_wp2_with fail
  refine (CP.out _).mono ?_
  rintro e wx ⟨rfl, ⟨nd, rfl⟩⟩
  have HB := Aside0.mk (pw_below_drewN (Below.refl w.heap.size w) nd)
  generalize w.drewN nd = w1 at HB ⊢
  go_wp2_with fail
  go_ret2
  exact ⟨_, rfl, Kd.S_nil _ _ _ _ _, HB.out⟩
theorem impl (p : Int) (w : World) : Calls Try.prog 24 #[.int .i64 p] w fun e w' => ∃ v, e = .returned (.tuple #[v, .bool (val p).2]) ∧ Kd.S KL 40 w' w.heap.size (fun _ => True) v (val p).1 ∧ Below w.heap.size w w' := by
  unfold val
  by_cases h : 1 ≤ p ∧ p ≤ 200
  · rw [if_pos h]
    obtain ⟨n, rfl⟩ : ∃ n : Nat, p = (n : Int) := ⟨p.toNat, by omega⟩
    rw [Int.toNat_natCast]
    exact impl_yes n w (by omega) (by omega)
  · rw [if_neg h]
    exact impl_no p w h

theorem splank_eq (pl : Int) : PFnExactWholeLeans.spec_cnPlank.f pl = some (decide (1 ≤ pl ∧ pl ≤ 200)) := by
  unfold PFnExactWholeLeans.spec_cnPlank.f PFnExactWholeLeans.spec_l1In.f
  by_cases h1 : 1 ≤ pl <;> simp [h1]
set_option maxHeartbeats 4000000 in
theorem spec (p : Int) (w : World) : Calls Try.prog 23 #[.int .i64 p] w fun e w' => ∃ v, e = .returned (.tuple #[v, .bool (val p).2]) ∧ Kd.S KL 40 w' w.heap.size (fun _ => True) v (val p).1 ∧ Below w.heap.size w w' := by
  unfold val
  by_cases h : 1 ≤ p ∧ p ≤ 200
  · rw [if_pos h]
    have CP := Aside0.mk (fun W => PFnExactWholeLeans.spec_cnPlank.calls p true W (by rw [splank_eq, decide_eq_true h]))
    obtain ⟨n, rfl⟩ : ∃ n : Nat, p = (n : Int) := ⟨p.toNat, by omega⟩
    rw [Int.toNat_natCast]
    obtain ⟨k, hk⟩ := cnLeans (p := n) (by omega) (by omega)
    have CL := Aside0.mk (fun W => PFnExactWholeLeans.spec_cnLeans.calls k n _ W hk)
    clear hk h
    generalize Ws n (n - 1) = r at CL ⊢
    go_enter Try.func23, Try.ntmps23
    go_wp2_with fail
    refine (CP.out _).mono ?_
    rintro e wx ⟨rfl, ⟨nd, rfl⟩⟩
    have HB := Aside0.mk (pw_below_drewN (Below.refl w.heap.size w) nd)
    generalize w.drewN nd = w1 at HB ⊢
    go_wp2_with fail
    refine (CL.out _).mono ?_
    rintro e w2 ⟨v, rfl, hS, hb⟩
    have HS := Aside0.mk (Kd.S_lower hS HB.out.size)
    have HB2 := Aside0.mk (below_then HB.out HB.out.size hb)
    obtain ⟨A, c, rfl⟩ := Kd.S_slice hS
    clear hS hb
    go_wp2_with fail
    go_ret2
    exact ⟨_, rfl, HS.out, HB2.out⟩
  · rw [if_neg h]
    have CP := Aside0.mk (fun W => PFnExactWholeLeans.spec_cnPlank.calls p false W (by rw [splank_eq, decide_eq_false h]))
    clear h
    go_enter Try.func23, Try.ntmps23
    go_wp2_with fail
    refine (CP.out _).mono ?_
    rintro e wx ⟨rfl, ⟨nd, rfl⟩⟩
    have HB := Aside0.mk (pw_below_drewN (Below.refl w.heap.size w) nd)
    generalize w.drewN nd = w1 at HB ⊢
    go_wp2_with fail
    go_ret2
    exact ⟨_, rfl, Kd.S_nil _ _ _ _ _, HB.out⟩
end Go.Proofs.Ytnnedicoapdkkaa.WkWholeLeans
