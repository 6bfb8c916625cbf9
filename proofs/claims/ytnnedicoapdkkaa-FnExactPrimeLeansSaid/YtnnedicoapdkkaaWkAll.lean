/- spec.cnAll, spec.LeansUpTo, impl.LeansUpTo at this program, told in plain Lean. Conditions: as in the theorems. -/
import Derived.Test.YtnnedicoapdkkaaWkWholeLeans
namespace Go.Proofs.Ytnnedicoapdkkaa.WkAll
set_option linter.unusedVariables false
set_option linter.unusedSimpArgs false
open Go.RowKit Go.Proofs.YtnnedicoapdkkaaW.PrintWords Go.Proofs.YtnnedicoapdkkaaW.PrintLast Go.Proofs.YtnnedicoapdkkaaW.PrintMore DF Clo Spots Sp Leans FcWholeLeans WkWholeLeans PFnExactSpotsFor

def All : Nat → List (List Int)
  | 0 => []
  | m + 1 => All m ++ Ls (m + 1) m
def keep (pr : Bool) (x : List Int) : Bool := !pr || (Nat.gcd (rd x 0).toNat (rd x 1).toNat == 1)
theorem All_len : ∀ m, m ≤ 200 → (All m).length ≤ m * 200
  | 0, _ => by simp [All]
  | m + 1, h => by rw [All, List.length_append]; have := All_len m (by omega); have := Ls_len (m + 1) m; omega
theorem ln_in {p a : Nat} (hp : p ≤ 200) (ha : 1 ≤ a) : ∀ x ∈ ln p a, ∃ c b : Nat, x = [(c : Int), (b : Int), (p : Int)] ∧ 1 ≤ c ∧ c ≤ b ∧ b ≤ 200 := by
  intro x hx
  unfold ln at hx
  split at hx
  · next h =>
    have hx' := List.mem_singleton.1 hx
    have hb := sq_lt (n := p * p - a * a) (m := 201) (by have := Nat.mul_le_mul hp hp; omega)
    exact ⟨a, _, hx', ha, h.1, by omega⟩
  · cases hx
theorem Ls_in {p : Nat} (hp : p ≤ 200) : ∀ n, ∀ x ∈ Ls p n, ∃ c b : Nat, x = [(c : Int), (b : Int), (p : Int)] ∧ 1 ≤ c ∧ c ≤ b ∧ b ≤ 200
  | 0 => by simp [Ls]
  | n + 1 => by
    intro x hx
    rw [Ls] at hx
    rcases List.mem_append.1 hx with h | h
    · exact Ls_in hp n x h
    · exact ln_in hp (by omega) x h
theorem All_in : ∀ m, m ≤ 200 → ∀ x ∈ All m, ∃ c b p : Nat, x = [(c : Int), (b : Int), (p : Int)] ∧ 1 ≤ c ∧ c ≤ b ∧ b ≤ 200
  | 0, _ => by simp [All]
  | m + 1, hm => by
    intro x hx
    rw [All] at hx
    rcases List.mem_append.1 hx with h | h
    · exact All_in m (by omega) x h
    · obtain ⟨c, b, h1, h2⟩ := Ls_in hm m x h
      exact ⟨c, b, _, h1, h2⟩
theorem All_succ {q : Nat} (h : 1 ≤ q) : All (q + 1 - 1) = All (q - 1) ++ Ls q (q - 1) := by
  obtain ⟨n, rfl⟩ : ∃ n, q = n + 1 := ⟨q - 1, by omega⟩
  rfl
def val (pl : Int) (pr : Bool) : List (List Int) × Bool := if 1 ≤ pl ∧ pl ≤ 200 then ((All pl.toNat).filter (keep pr), true) else ([], false)
theorem val_le (pl : Int) (pr : Bool) : (val pl pr).1.length ≤ 40000 ∧ ∀ x ∈ (val pl pr).1, x.length ≤ 3 := by
  unfold val
  split
  · next h =>
    refine ⟨?_, fun x hx => ?_⟩
    · show ((All pl.toNat).filter (keep pr)).length ≤ 40000
      have h1 := List.length_filter_le (keep pr) (All pl.toNat)
      have h2 := All_len pl.toNat (by omega)
      have h3 := Nat.mul_le_mul (show pl.toNat ≤ 200 by omega) (Nat.le_refl 200)
      omega
    · obtain ⟨c, b, p, rfl, _⟩ := All_in pl.toNat (by omega) x (List.mem_filter.1 hx).1
      simp
  · simp
theorem keep_all (l : List (List Int)) : l.filter (keep false) = l := List.filter_eq_self.2 (fun x _ => rfl)

section
variable {ops : Array Oper} {rest : List Oper} {o : Oper} {a : Act} {Q : Exit → Act → World → Prop}
/-- append(v, ys...), ys newer than all of v's. -/
theorem S_append_rows {w0 W : World} (base : Nat) (hgd : o.guard = none) (s x : Operand)
    (ho : o.op = .call { callee := .builtin .append, args := #[s, x], argTypes := #[33, 33] })
    (v : Value) (xs ys : List (List Int)) (A : Option Addr) (m c N : Nat) (hs : a.eval s = v) (hx : a.eval x = .slice A m c)
    (HO : Kd.S KL 40 W base (fun k => k < N) v xs) (HR : Kd.S KL 40 W N (fun _ => True) (.slice A m c) ys) (HB : Below base w0 W) (hbN : base ≤ N) (hNW : N ≤ W.heap.size) (hl : (xs.length + m) * 24 ≤ 140737488355328)
    (h : ∀ v1 w1, Kd.S KL 40 w1 base (fun _ => True) v1 (xs ++ ys) → Below base w0 w1 → wpList Try.prog ops Q rest (a.put o.dst v1) w1) :
    wpList Try.prog ops Q (o :: rest) a W := by
  obtain ⟨f1, h1⟩ := HO
  obtain ⟨f2, h2⟩ := HR
  have h1' := Kd.R_tag (f' := fun k => if k < N then f1 k else xs.length + f2 k) h1 (fun k hk _ => if_pos hk)
  have hmy : ys.length = m := by have := (Kd.R_reads' h2).1; rw [List.length_zipIdx] at this; exact this.symm
  have hrow : ReadsRow ((Kd.tag (fun k => if k < N then f1 k else xs.length + f2 k) KL).M W base (fun k => N ≤ k)) (Kd.tag (fun k => if k < N then f1 k else xs.length + f2 k) KL).sz W A m (ys.zipIdx xs.length) := by
    obtain ⟨A', c', he, _, hr⟩ := OwnRow.reads h2.2
    injection he with hA hm' hc'
    subst hA
    rw [List.length_zipIdx, hmy] at hr
    refine ⟨by rw [List.length_zipIdx]; exact hmy, hr.2.1, fun h0 => ?_⟩
    obtain ⟨ad, e, hc⟩ := hr.2.2 h0
    refine ⟨ad, e, fun j p hj => ?_⟩
    rw [List.getElem?_zipIdx] at hj
    obtain ⟨y, hy, rfl⟩ := Option.map_eq_some_iff.1 hj
    obtain ⟨cs, hl1, hM, hcc⟩ := hc j (y, j) (by rw [List.getElem?_zipIdx, hy, Nat.zero_add]; rfl)
    refine ⟨cs, hl1, ?_, hcc⟩
    have hM2 := KL.M_bound (show KL.M W N _ y cs from hM)
    refine KL.M_mono (fun k hk => ?_) (KL.M_lower hbN hM2)
    have hf : f2 k = j := hk.1.2
    have hNk : N ≤ k := hk.2.1
    exact ⟨hNk, by show (if k < N then f1 k else xs.length + f2 k) = xs.length + j; rw [if_neg (by omega), hf]⟩
  refine Kd.R_append_rows (Kd.tag (fun k => if k < N then f1 k else xs.length + f2 k) KL) base hgd s x 33 40 (.slice none 0 0) 24 ho Try.underlying33 info40 rfl Nat.zero_lt_one (by omega) v xs.zipIdx (ys.zipIdx xs.length) A m c (fun _ => True) (fun k => N ≤ k) hs hx (Kd.R_mono h1' (fun _ _ => trivial)) hrow (fun _ _ hM => hM) (fun k hk => ⟨trivial, fun e => by have := h1.1 k e.symm; omega⟩) (fun _ _ => trivial) HB (Nat.le_trans hbN hNW) (by rw [List.length_zipIdx]; exact hl) ?_
  intro v1 w1 hr hb _ _
  have hS : Kd.S KL 40 w1 base (fun _ => True) v1 (xs ++ ys) := ⟨fun k => if k < N then f1 k else xs.length + f2 k, by rw [List.zipIdx_append, Nat.zero_add]; exact hr⟩
  exact h v1 w1 hS hb
end

set_option maxHeartbeats 4000000 in
set_option maxRecDepth 100000 in
theorem up_yes (m : Nat) (w : World) (h1 : 1 ≤ m) (h2 : m ≤ 200) :
    Calls Try.prog 26 #[.int .i64 (m : Int)] w fun e w' => ∃ v, e = .returned (.tuple #[v, .bool true]) ∧ Kd.S KL 40 w' w.heap.size (fun _ => True) v (All m) ∧ Below w.heap.size w w' := by
  have CP := Aside0.mk (fun W => impl_isPlankLong.calls (m : Int) true W (by rw [plank_eq, decide_eq_true (show (1 : Int) ≤ m ∧ (m : Int) ≤ 200 by omega)]))
  have CL := Aside0.mk (fun (q : Nat) (a : 1 ≤ q) (b : q ≤ 200) W => leans q W a b)
  go_enter Try.func26, Try.ntmps26
  go_wp2_with fail
  refine (CP.out _).mono ?_
  rintro e wx ⟨rfl, ⟨nd, rfl⟩⟩
  have HB := Aside0.mk (pw_below_drewN (Below.refl w.heap.size w) nd)
  generalize w.drewN nd = w1 at HB ⊢
  go_wp2_with (first | ((with_reducible refine gate_dst (N := 9) rfl ?_); refine Kd.S_lit (Kd.slice 3 (Kd.int .i64)) _ 40 ?hg (N := 9) ?hd (xs := ([] : List (List Int))) (inner := []) (ok := fun _ => True) (okp := fun _ => True) ?hr ?hp (fun _ hk => hk) trivial (Below.refl _ _) (Nat.le_refl _) (by simp) ?_; (case hd => rfl); (case hg => rfl); (case hr => first | (go_simp; done) | (go_simp; rfl)); (case hp => exact (Reps.none _ _)); intro v_S4 w_S4 ho3 hb hg_ hnew_; clear hg_ hnew_; have S4 := Aside0.mk (Kd.S_lower ho3 (below_size (by repeat (first | (with_reducible first | exact HB.out | apply below_alloc | apply pw_below_drewN | apply below_drew1) | exact HB.out)))); have n1_ := Aside0.mk (below_step (by repeat (first | (with_reducible first | exact HB.out | apply below_alloc | apply pw_below_drewN | apply below_drew1) | exact HB.out)) hb); clear HB; have HB := n1_; clear n1_; clear hb ho3))
  go_loopw [4, 5] (fun v4 v5 wr => ∃ q : Nat, v5 = .int .i64 (q : Int) ∧ Aside0 (1 ≤ q ∧ q ≤ m + 1) ∧ Aside0 (Kd.S KL 40 wr w.heap.size (fun _ => True) v4 (All (q - 1))) ∧ Aside0 (Below w.heap.size w wr)) (fun _ v5 _ => m + 1 - (intOf v5).toNat)
  case atStart => exact ⟨1, rfl, ⟨⟨Nat.le_refl _, by omega⟩⟩, S4, HB⟩
  case round =>
    clear S4 HB
    obtain ⟨q, rfl, HQ, S4, HB⟩ := hrel
    have hq1 := HQ.out.1
    have hq2 := HQ.out.2
    by_cases hq : q ≤ m
    · have HQ1 : Aside0 (1 ≤ q + 1 ∧ q + 1 ≤ m + 1) := ⟨⟨by omega, by omega⟩⟩
      have HA := Aside0.mk (All_succ hq1)
      have LB : Aside0 ((All (q - 1)).length ≤ 40000 ∧ (Ls q (q - 1)).length ≤ 200) := ⟨by
        have h3 := All_len (q - 1) (by omega)
        have h4 := Nat.mul_le_mul (show q - 1 ≤ 200 by omega) (Nat.le_refl 200)
        have h5 := Ls_len q (q - 1)
        omega⟩
      have HC := Aside0.mk (CL.out q hq1 (by omega))
      go_wp2_with fail
      refine (HC.out _).mono ?_
      rintro e w2 ⟨vL, rfl, hS, hb⟩
      obtain ⟨AL, cL, rfl⟩ := Kd.S_slice hS
      have HO : Aside0 (Kd.S KL 40 w2 w.heap.size (fun k => k < wr.heap.size) u4 (All (q - 1))) := ⟨Kd.S_mono (Kd.S_kept (S := fun _ => False) (Kd.S_bound S4.out) (Kept.of_below hb _) (fun _ _ h => h)) (fun k hk => hk.2.2.1)⟩
      have HR := Aside0.mk hS
      have HB2 := Aside0.mk (below_then HB.out HB.out.size hb)
      have HN : Aside0 (w.heap.size ≤ wr.heap.size ∧ wr.heap.size ≤ w2.heap.size) := ⟨⟨HB.out.size, hb.size⟩⟩
      generalize wr.heap.size = N at HO HR HN
      clear hS hb S4 HB
      go_wp2_with (first | ((with_reducible refine gate_builtin (b := .append) (xs := #[.tmp 15, .tmp 17]) rfl ?_); at_builtin; refine S_append_rows (w0 := w) w.heap.size rfl (.tmp 15) (.tmp 17) rfl u4 (All (q - 1)) (Ls q (q - 1)) AL (Ls q (q - 1)).length cL N rfl rfl HO.out HR.out HB2.out HN.out.1 HN.out.2 (by have := LB.out; omega) ?_; intro v_n w_n ho hb; rw [← HA.out] at ho; have SN := Aside0.mk ho; have HB := Aside0.mk hb; clear ho hb HB2 HO HR HN))
      go_roundw
      case rel => exact ⟨q + 1, by go_num, HQ1, SN, HB⟩
      case measure => simp [intOf]; omega
    · obtain rfl : q = m + 1 := by omega
      have SF : Aside0 (Kd.S KL 40 wr w.heap.size (fun _ => True) u4 (All m)) := ⟨S4.out⟩
      go_wp2
      go_ret2
      exact ⟨_, rfl, SF.out, HB.out⟩
set_option maxHeartbeats 4000000 in
theorem up_no (p : Int) (w : World) (h : ¬ (1 ≤ p ∧ p ≤ 200)) :
    Calls Try.prog 26 #[.int .i64 p] w fun e w' => ∃ v, e = .returned (.tuple #[v, .bool false]) ∧ Kd.S KL 40 w' w.heap.size (fun _ => True) v [] ∧ Below w.heap.size w w' := by
  have CP := Aside0.mk (fun W => impl_isPlankLong.calls p false W (by rw [plank_eq, decide_eq_false h]))
  clear h
  go_enter Try.func26, Try.ntmps26
  go_wp2_with fail
  refine (CP.out _).mono ?_
  rintro e wx ⟨rfl, ⟨nd, rfl⟩⟩
  have HB := Aside0.mk (pw_below_drewN (Below.refl w.heap.size w) nd)
  generalize w.drewN nd = w1 at HB ⊢
  go_wp2_with fail
  go_ret2
  exact ⟨_, rfl, Kd.S_nil _ _ _ _ _, HB.out⟩
theorem implUp (p : Int) (w : World) : Calls Try.prog 26 #[.int .i64 p] w fun e w' => ∃ v, e = .returned (.tuple #[v, .bool (val p false).2]) ∧ Kd.S KL 40 w' w.heap.size (fun _ => True) v (val p false).1 ∧ Below w.heap.size w w' := by
  unfold val
  by_cases h : 1 ≤ p ∧ p ≤ 200
  · rw [if_pos h, keep_all]
    obtain ⟨n, rfl⟩ : ∃ n : Nat, p = (n : Int) := ⟨p.toNat, by omega⟩
    rw [Int.toNat_natCast]
    exact up_yes n w (by omega) (by omega)
  · rw [if_neg h]
    exact up_no p w h

/-- What is known in the middle of spec.cnAll: the rows that have come out, and the leans of the plank at hand. -/
structure St (w wr : World) (N0 N1 : Nat) (v : Value) (out : List (List Int)) (rv : Value) (l : List (List Int)) : Prop where
  so : Kd.S KL 40 wr w.heap.size (fun _ => True) v out
  ob : ∀ k, v.ownBlock = some k → k < N0 ∨ N1 ≤ k
  rl : Kd.S KL 40 wr N0 (fun k => N0 ≤ k ∧ k < N1) rv l
  hb : Below w.heap.size w wr
  hn : N1 ≤ wr.heap.size
theorem St.below {w wr wr' : World} {N0 N1 : Nat} {v : Value} {out : List (List Int)} {rv : Value} {l : List (List Int)} (h : St w wr N0 N1 v out rv l) (hb : Below wr.heap.size wr wr') : St w wr' N0 N1 v out rv l :=
  ⟨Kd.S_below h.so hb, h.ob, Kd.S_below h.rl hb, below_then h.hb h.hb.size hb, Nat.le_trans h.hn hb.size⟩
theorem St.drew {w wr : World} {N0 N1 : Nat} {v : Value} {out : List (List Int)} {rv : Value} {l : List (List Int)} (h : St w wr N0 N1 v out rv l) : St w wr.drew N0 N1 v out rv l := h.below (below_drew (Below.refl _ _))
theorem St.step {w wr w1 : World} {N0 N1 : Nat} {v v1 : Value} {out out1 : List (List Int)} {rv : Value} {l : List (List Int)} (h : St w wr N0 N1 v out rv l) (hs : Kd.S KL 40 w1 w.heap.size (fun _ => True) v1 out1) (hb : Below w.heap.size w w1) (hg : wr.grownBy w1 v.ownBlock) (hat : v1.ownBlock = v.ownBlock ∨ ∃ b, v1.ownBlock = some b ∧ wr.heap.size ≤ b) : St w w1 N0 N1 v1 out1 rv l :=
  ⟨hs, fun k e => hat.elim (fun q => h.ob k (q ▸ e)) (fun ⟨b, q1, q2⟩ => .inr (by rw [q1] at e; cases e; exact Nat.le_trans h.hn q2)),
    Kd.S_grown h.rl hg (fun k hk e => (h.ob k e.symm).elim (fun q => by have := hk.1; omega) (fun q => by have := hk.2; omega)), hb, Nat.le_trans h.hn hg.size⟩
theorem cell_grown {W w1 : World} {a : Addr} {v : Value} {row : Option Nat} (hc : W.cell? a = some v) (hg : W.grownBy w1 row) (hne : some a.block ≠ row) : w1.cell? a = some v := by
  have := hg.block a.block (World.block_lt_of_cell? W a hc) hne
  simpa [World.cell?, this] using hc
theorem gcd_step {x y g : Nat} (h : Nat.gcd x y = g) (hy : 0 < y) : Nat.gcd y (x % y) = g := by rw [← h, Nat.gcd_comm x y, Nat.gcd_rec y x, Nat.gcd_comm]
theorem cnl (q : Nat) (W : World) (h1 : 1 ≤ q) (h2 : q ≤ 200) : Calls Try.prog 47 #[.int .i64 (q : Int)] W fun e w' => ∃ v, e = .returned v ∧ Kd.S KL 40 w' W.heap.size (fun _ => True) v (Ws q (q - 1)) ∧ Below W.heap.size W w' := by
  obtain ⟨k, hk⟩ := cnLeans h1 h2
  exact PFnExactWholeLeans.spec_cnLeans.calls k q _ W hk

set_option maxHeartbeats 8000000 in
set_option maxRecDepth 100000 in
theorem cnAll (m : Nat) (pr : Bool) (w : World) (hm : m ≤ 200) :
    Calls Try.prog 49 #[.int .i64 (m : Int), .bool pr] w fun e w' => ∃ v, e = .returned v ∧ Kd.S KL 40 w' w.heap.size (fun _ => True) v ((All m).filter (keep pr)) ∧ Below w.heap.size w w' := by
  have CL := Aside0.mk (fun (q : Nat) (a : 1 ≤ q) (b : q ≤ 200) W => cnl q W a b)
  have HB := Aside0.mk (Below.refl w.heap.size w)
  have S5 : Aside0 (Kd.S KL 40 w w.heap.size (fun _ => True) (.slice none 0 0) ((All (1 - 1)).filter (keep pr))) := ⟨Kd.S_nil _ _ _ _ _⟩
  go_enter Try.func49, Try.ntmps49
  go_wp2
  go_loopw [5, 6] (fun v5 v6 wr => ∃ q : Nat, v6 = .int .i64 (q : Int) ∧ Aside0 (1 ≤ q ∧ q ≤ m + 1) ∧ Aside0 (Kd.S KL 40 wr w.heap.size (fun _ => True) v5 ((All (q - 1)).filter (keep pr))) ∧ Aside0 (Below w.heap.size w wr)) (fun _ v6 _ => m + 1 - (intOf v6).toNat)
  case atStart => exact ⟨1, rfl, ⟨⟨Nat.le_refl _, by omega⟩⟩, S5, HB⟩
  case round =>
    clear S5 HB
    obtain ⟨q, rfl, HQ, S5, HB⟩ := hrel
    have hq1 := HQ.out.1
    have hq2 := HQ.out.2
    by_cases hq : q ≤ m
    · have HQ1 : Aside0 (1 ≤ q + 1 ∧ q + 1 ≤ m + 1) := ⟨⟨by omega, by omega⟩⟩
      have HA := Aside0.mk (All_succ hq1)
      have HC := Aside0.mk (CL.out q hq1 (by omega))
      obtain ⟨L3, hL3⟩ : ∃ L3, Ls q (q - 1) = L3 := ⟨_, rfl⟩
      have HIn : Aside0 (∀ x ∈ L3, ∃ c b : Nat, x = [(c : Int), (b : Int), (q : Int)] ∧ 1 ≤ c ∧ c ≤ b ∧ b ≤ 200) := ⟨by rw [← hL3]; exact Ls_in (by omega) _⟩
      have HLl : Aside0 (L3.length ≤ 200) := ⟨by rw [← hL3]; have := Ls_len q (q - 1); omega⟩
      have hW : Ws q (q - 1) = L3.map (List.take 2) := by unfold Ws; rw [hL3]
      have HAl : Aside0 ((All (q - 1)).length ≤ 40000) := ⟨by
        have h3 := All_len (q - 1) (by omega)
        have h4 := Nat.mul_le_mul (show q - 1 ≤ 200 by omega) (Nat.le_refl 200)
        omega⟩
      rw [hW] at HC
      replace HA : Aside0 (All (q + 1 - 1) = All (q - 1) ++ L3) := ⟨by rw [HA.out, hL3]⟩
      obtain ⟨l, hl⟩ : ∃ l, L3.map (List.take 2) = l := ⟨_, rfl⟩
      have hll : l.length = L3.length := by rw [← hl, List.length_map]
      have HLL := Aside0.mk hll
      have Hl := Aside0.mk hl
      rw [hl] at HC
      clear hL3 hW hl hll
      go_wp2_with fail
      refine (HC.out _).mono ?_
      rintro e w2 ⟨vL, rfl, hS, hb⟩
      obtain ⟨AL, cL, rfl⟩ := Kd.S_slice hS
      have HT : Aside0 (St w w2 wr.heap.size w2.heap.size u5 ((All (q - 1) ++ L3.take 0).filter (keep pr)) (.slice AL l.length cL) l) :=
        ⟨⟨by rw [List.take_zero, List.append_nil]; exact Kd.S_below S5.out hb, fun k e => .inl (Kd.S_lt S5.out k e), Kd.S_mono (Kd.S_bound hS) (fun k hk => ⟨hk.2.1, hk.2.2.1⟩), below_then HB.out HB.out.size hb, Nat.le_refl _⟩⟩
      generalize wr.heap.size = N0 at HT
      generalize hN1 : w2.heap.size = N1 at HT
      clear hS hb S5 HB HC hN1
      go_wp2_with fail
      go_loopw [5, 19] (fun v5 v19 wr => ∃ i : Nat, v19 = .int .i64 (i : Int) ∧ Aside0 (i ≤ l.length) ∧ Aside0 (St w wr N0 N1 v5 ((All (q - 1) ++ L3.take i).filter (keep pr)) (.slice AL l.length cL) l)) (fun _ v19 _ => l.length - (intOf v19).toNat)
      case atStart => exact ⟨0, rfl, ⟨Nat.zero_le _⟩, HT⟩
      case round =>
        clear HT
        obtain ⟨i, rfl, HI, ST⟩ := hrel
        have hil := HI.out
        have hll := HLl.out
        have hlL := HLL.out
        by_cases hi : i < l.length
        · have hi3 : i < L3.length := by omega
          obtain ⟨c, b, hx3, hc1, hc2, hb2⟩ := HIn.out L3[i] (List.getElem_mem hi3)
          have hli : l[i] = [(c : Int), (b : Int)] := by
            have : l[i]? = some [(c : Int), (b : Int)] := by rw [← Hl.out, List.getElem?_map, List.getElem?_eq_getElem hi3, hx3]; rfl
            rw [List.getElem?_eq_getElem hi] at this
            exact Option.some.inj this
          obtain ⟨g, cap, hv, _⟩ := Kd.S_form ST.out.rl (by omega)
          injection hv with hA hlen0 hcc
          subst hA hcc
          clear hlen0
          obtain ⟨u, hM, hx, _⟩ := R_one (d := KL) rfl (Kd.S_R ST.out.rl) i hi
          rw [hli] at hM
          obtain ⟨u', hu, hRu⟩ := hM
          obtain rfl : u = u' := by injection hu
          obtain ⟨ad, cu, rfl, hca, hcb⟩ := two (x := [(c : Int), (b : Int)]) (by simp) ((KL).K_of_M ⟨_, rfl, hRu⟩)
          have HNE : Aside0 (some ad.block ≠ u5.ownBlock) := ⟨fun e => by
            have h1 := hRu.1 ad.block rfl
            exact (ST.out.ob _ e.symm).elim (fun q => by have := h1.1.1; omega) (fun q => by have := h1.1.2; omega)⟩
          replace hca : wr.cell? ad = some (.int .i64 (c : Int)) := hca
          replace hcb : wr.cell? ⟨ad.block, ad.off + 1, none⟩ = some (.int .i64 (b : Int)) := hcb
          have HKp : Aside0 ((All (q - 1) ++ L3.take (i + 1)).filter (keep pr) = (All (q - 1) ++ L3.take i).filter (keep pr) ++ (if keep pr [(c : Int), (b : Int), (q : Int)] = true then [[(c : Int), (b : Int), (q : Int)]] else [])) := ⟨by
            rw [List.take_succ_eq_append_getElem hi3, hx3, ← List.append_assoc, List.filter_append]
            congr 1
            by_cases hk : keep pr [(c : Int), (b : Int), (q : Int)] = true
            · rw [if_pos hk, List.filter_cons_of_pos hk]; rfl
            · rw [if_neg hk, List.filter_cons_of_neg hk]; rfl⟩
          have HKe : Aside0 (keep pr [(c : Int), (b : Int), (q : Int)] = (!pr || (Nat.gcd c b == 1))) := ⟨rfl⟩
          have HOl : Aside0 (((All (q - 1) ++ L3.take i).filter (keep pr)).length ≤ 40200) := ⟨by
            have h1 := List.length_filter_le (keep pr) (All (q - 1) ++ L3.take i)
            rw [List.length_append, List.length_take] at h1
            have h2 := HAl.out
            omega⟩
          have HI1 : Aside0 (i + 1 ≤ l.length) := ⟨hi⟩
          have hiz : (i : Int) < (l.length : Int) := by omega
          have hiz2 : i < l.length := hi
          have hl0 : (0 : Int) < 2 := by omega
          have HG0 : Aside0 (Nat.gcd c b = Nat.gcd c b ∧ c ≤ 200 ∧ b ≤ 200) := ⟨⟨rfl, by omega, hb2⟩⟩
          obtain ⟨gg, hgg⟩ : ∃ gg, Nat.gcd c b = gg := ⟨_, rfl⟩
          rw [hgg] at HKe
          replace HG0 : Aside0 (Nat.gcd c b = gg ∧ c ≤ 200 ∧ b ≤ 200) := ⟨⟨hgg, HG0.out.2⟩⟩
          generalize (All (q - 1) ++ L3.take i).filter (keep pr) = out at ST HKp HOl
          have hSt : wr.drew.cell? ad = some (.int .i64 (c : Int)) ∧ wr.drew.cell? ⟨ad.block, ad.off + 1, none⟩ = some (.int .i64 (b : Int)) := ⟨hca, hcb⟩
          have ST1 := Aside0.mk ST.out.drew
          clear hca hcb hRu hx3 hli hgg hu hc1 hc2 hb2 ST hlL
          go_upto_region 8 with (fail)
          refine start_ (n := 8) (S := fun w' => w'.cell? ad = some (.int .i64 (c : Int)) ∧ w'.cell? ⟨ad.block, ad.off + 1, none⟩ = some (.int .i64 (b : Int))) (ds := []) #[false, false, false, false, false, false, false, false] (by kernel_rfl) rfl rfl hSt (fun hHeld => ?_)
          refine pure_ (i := 0) (N := some 23) (v := ?_) (a' := ?_) #[true, false, false, false, false, false, false, false] rfl rfl (by kernel_rfl) (fun _ _ _ h => h) (Or.inl ⟨by rfl, ?_⟩) ?_ ?_
          rotate_left
          · intro w'
            go_simp
            with_reducible rfl
          rotate_left
          · simp only [Act.put, List.setIfInBounds_toArray, List.set_cons_zero, List.set_cons_succ, i64_w, i32_w]
            rfl
          refine pure_ (i := 1) (N := some 24) (v := ?_) (a' := ?_) #[true, true, false, false, false, false, false, false] rfl rfl (by kernel_rfl) (fun _ _ _ h => h) (Or.inl ⟨by rfl, ?_⟩) ?_ ?_
          rotate_left
          · intro w'
            go_simp
            with_reducible rfl
          rotate_left
          · simp only [Act.put, List.setIfInBounds_toArray, List.set_cons_zero, List.set_cons_succ, i64_w, i32_w]
            rfl
          refine pure_ (i := 3) (N := some 26) (v := ?_) (a' := ?_) #[true, true, false, true, false, false, false, false] rfl rfl (by kernel_rfl) (fun _ _ _ h => h) (Or.inl ⟨by rfl, ?_⟩) ?_ ?_
          rotate_left
          · intro w'
            go_simp
            with_reducible rfl
          rotate_left
          · simp only [Act.put, List.setIfInBounds_toArray, List.set_cons_zero, List.set_cons_succ, i64_w, i32_w]
            rfl
          refine pure_ (i := 4) (N := some 27) (v := ?_) (a' := ?_) #[true, true, false, true, true, false, false, false] rfl rfl (by kernel_rfl) (fun _ _ _ h => h) (Or.inl ⟨by rfl, ?_⟩) ?_ ?_
          rotate_left
          · intro w'
            go_simp
            with_reducible rfl
          rotate_left
          · simp only [Act.put, List.setIfInBounds_toArray, List.set_cons_zero, List.set_cons_succ, i64_w, i32_w]
            rfl
          refine take_ (i := 2) (N := some 25) (v := ?_) (a' := ?_) #[true, true, true, true, true, false, false, false] rfl rfl (by kernel_rfl) (fun _ _ _ h => h) (Or.inl ⟨by rfl, ?_⟩) hHeld ?_ ?_
          rotate_left
          · rintro w' ⟨s0, s1⟩
            go_simp
            with_reducible rfl
          rotate_left
          · simp only [Act.put, List.setIfInBounds_toArray, List.set_cons_zero, List.set_cons_succ, i64_w, i32_w]
            rfl
          refine take_ (i := 5) (N := some 28) (v := ?_) (a' := ?_) #[true, true, true, true, true, true, false, false] rfl rfl (by kernel_rfl) (fun _ _ _ h => h) (Or.inl ⟨by rfl, ?_⟩) hHeld ?_ ?_
          rotate_left
          · rintro w' ⟨s0, s1⟩
            go_simp
            with_reducible rfl
          rotate_left
          · simp only [Act.put, List.setIfInBounds_toArray, List.set_cons_zero, List.set_cons_succ, i64_w, i32_w]
            rfl
          refine pure_ (i := 6) (N := some 9) (v := ?_) (a' := ?_) #[true, true, true, true, true, true, true, false] rfl rfl (by kernel_rfl) (fun _ _ _ h => h) (Or.inl ⟨by rfl, ?_⟩) ?_ ?_
          rotate_left
          · intro w'
            go_simp
            with_reducible rfl
          rotate_left
          · simp only [Act.put, List.setIfInBounds_toArray, List.set_cons_zero, List.set_cons_succ, i64_w, i32_w]
            rfl
          refine pure_ (i := 7) (N := some 10) (v := ?_) (a' := ?_) #[true, true, true, true, true, true, true, true] rfl rfl (by kernel_rfl) (fun _ _ _ h => h) (Or.inl ⟨by rfl, ?_⟩) ?_ ?_
          rotate_left
          · intro w'
            go_simp
            with_reducible rfl
          rotate_left
          · simp only [Act.put, List.setIfInBounds_toArray, List.set_cons_zero, List.set_cons_succ, i64_w, i32_w]
            rfl
          refine done_ (by kernel_rfl) ?_
          generalize wr.drew = wd at ST1 hHeld ⊢
          have HCs := Aside0.mk hHeld
          clear hHeld hSt hx
          go_wp2_with fail
          go_loopw [9, 10] (fun v9 v10 wz => ∃ x y : Nat, v9 = .int .i64 (x : Int) ∧ v10 = .int .i64 (y : Int) ∧ Aside0 (Nat.gcd x y = gg ∧ x ≤ 200 ∧ y ≤ 200) ∧ Aside0 (wz.cell? ad = some (.int .i64 (c : Int)) ∧ wz.cell? ⟨ad.block, ad.off + 1, none⟩ = some (.int .i64 (b : Int))) ∧ Aside0 (St w wz N0 N1 u5 out (.slice (some ⟨g, 0, none⟩) l.length cL) l)) (fun _ v10 _ => (intOf v10).toNat)
          case atStart => exact ⟨c, b, rfl, rfl, HG0, HCs, ST1⟩
          case round =>
            clear HCs ST1 HG0
            obtain ⟨x, y, rfl, rfl, HG, HCs, ST⟩ := hrel
            have hxb := HG.out.2.1
            have hyb := HG.out.2.2
            by_cases hy : 0 < y
            · obtain ⟨z, hz⟩ : ∃ z, x % y = z := ⟨_, rfl⟩
              have hzy : z < y := by rw [← hz]; exact Nat.mod_lt _ hy
              have HG1 : Aside0 (Nat.gcd y z = gg ∧ y ≤ 200 ∧ z ≤ 200) := ⟨⟨by rw [← hz]; exact gcd_step HG.out.1 hy, hyb, by omega⟩⟩
              have g1 : ((y : Int) == 0) = false := by rw [beq_eq_false_iff_ne]; omega
              have g2 : ¬ (y : Int) = 0 := by omega
              have g3 : ¬ y = 0 := by omega
              have hz0 : (-1000000000 : Int) ≤ (z : Int) ∧ (z : Int) ≤ 1000000000 := by omega
              have hz1 : -(9223372036854775808 : Int) ≤ (z : Int) ∧ (z : Int) < 9223372036854775808 := by omega
              have d3 : (x : Int) % (y : Int) = (z : Int) := by rw [← hz]; rfl
              have d9 : Int.tmod (x : Int) (y : Int) = (z : Int) := by rw [← hz]; exact (Int.ofNat_tmod x y).symm
              have d4 : wrap64 (z : Int) = (z : Int) := w_id hz0.1 hz0.2
              have d7 : IntKind.i64.wrap (z : Int) = (z : Int) := (i64_w _).trans d4
              clear hz0 hz1
              have HZ := Aside0.mk hzy
              have HCd : Aside0 (wr.drew.cell? ad = some (.int .i64 (c : Int)) ∧ wr.drew.cell? ⟨ad.block, ad.off + 1, none⟩ = some (.int .i64 (b : Int))) := ⟨HCs.out⟩
              have STd := Aside0.mk ST.out.drew
              have hSt : True := trivial
              clear hz HG HCs ST hzy
              go_upto_region 10 with (fail)
              refine start_ (n := 6) (S := fun _ => True) (ds := []) #[false, false, false, false, false, false] (by kernel_rfl) rfl rfl hSt (fun hHeld => ?_)
              refine pure_ (i := 0) (N := some 31) (v := ?_) (a' := ?_) #[true, false, false, false, false, false] rfl rfl (by kernel_rfl) (fun _ _ _ h => h) (Or.inl ⟨by rfl, ?_⟩) ?_ ?_
              rotate_left
              · intro w'
                go_simp
                with_reducible rfl
              rotate_left
              · simp only [Act.put, List.setIfInBounds_toArray, List.set_cons_zero, List.set_cons_succ, i64_w, i32_w]
                rfl
              refine pure_ (i := 1) (N := some 32) (v := ?_) (a' := ?_) #[true, true, false, false, false, false] rfl rfl (by kernel_rfl) (fun _ _ _ h => h) (Or.inl ⟨by rfl, ?_⟩) ?_ ?_
              rotate_left
              · intro w'
                go_simp
                with_reducible rfl
              rotate_left
              · simp only [Act.put, List.setIfInBounds_toArray, List.set_cons_zero, List.set_cons_succ, i64_w, i32_w]
                rfl
              refine pure_ (i := 2) (N := some 33) (v := ?_) (a' := ?_) #[true, true, true, false, false, false] rfl rfl (by kernel_rfl) (fun _ _ _ h => h) (Or.inl ⟨by rfl, ?_⟩) ?_ ?_
              rotate_left
              · intro w'
                go_simp
                with_reducible rfl
              rotate_left
              · simp only [Act.put, List.setIfInBounds_toArray, List.set_cons_zero, List.set_cons_succ, i64_w, i32_w]
                rfl
              refine pure_ (i := 3) (N := some 34) (v := ?_) (a' := ?_) #[true, true, true, true, false, false] rfl rfl (by kernel_rfl) (fun _ _ _ h => h) (Or.inl ⟨by rfl, ?_⟩) ?_ ?_
              rotate_left
              · intro w'
                go_simp
                with_reducible rfl
              rotate_left
              · simp only [Act.put, List.setIfInBounds_toArray, List.set_cons_zero, List.set_cons_succ, i64_w, i32_w]
                rfl
              refine pure_ (i := 4) (N := some 9) (v := ?_) (a' := ?_) #[true, true, true, true, true, false] rfl rfl (by kernel_rfl) (fun _ _ _ h => h) (Or.inl ⟨by rfl, ?_⟩) ?_ ?_
              rotate_left
              · intro w'
                go_simp
                with_reducible rfl
              rotate_left
              · simp only [Act.put, List.setIfInBounds_toArray, List.set_cons_zero, List.set_cons_succ, i64_w, i32_w]
                rfl
              refine pure_ (i := 5) (N := some 10) (v := ?_) (a' := ?_) #[true, true, true, true, true, true] rfl rfl (by kernel_rfl) (fun _ _ _ h => h) (Or.inl ⟨by rfl, ?_⟩) ?_ ?_
              rotate_left
              · intro w'
                go_simp
                with_reducible rfl
              rotate_left
              · simp only [Act.put, List.setIfInBounds_toArray, List.set_cons_zero, List.set_cons_succ, i64_w, i32_w]
                rfl
              refine done_ (by kernel_rfl) ?_
              generalize wr.drew = wd2 at HCd STd ⊢
              go_wp2_with fail
              go_roundw
              case rel => exact ⟨y, z, rfl, rfl, HG1, HCd, STd⟩
              case measure => simp [intOf]; exact HZ.out
            · obtain rfl : y = 0 := by omega
              have hxg : x = gg := by have := HG.out.1; rw [Nat.gcd_zero_right] at this; exact this
              subst hxg
              clear HG
              cases hk : (!pr || (x == 1)) with
              | false =>
                have hpr : pr = true := by cases pr <;> simp_all
                have hx1 : ¬ x = 1 := by intro e; subst e; simp at hk
                have hx1b : ((x : Int) == 1) = false := beq_eq_false_iff_ne.2 (by omega)
                have STn : Aside0 (St w wr N0 N1 u5 ((All (q - 1) ++ L3.take (i + 1)).filter (keep pr)) (.slice (some ⟨g, 0, none⟩) l.length cL) l) := ⟨by rw [HKp.out, HKe.out, hk]; simpa using ST.out⟩
                subst hpr
                clear ST hk HKp HKe
                go_wp2
                go_roundw
                case rel => exact ⟨i + 1, by go_num, HI1, STn⟩
                case measure => simp [intOf]; omega
              | true =>
                obtain ⟨y, hy'⟩ : ∃ y : List Int, y = [(c : Int), (b : Int), (q : Int)] := ⟨_, rfl⟩
                have Ny := Aside0.mk hy'
                have NL : Aside0 ((All (q - 1) ++ L3.take (i + 1)).filter (keep pr) = out ++ [y]) := ⟨by rw [HKp.out, HKe.out, hk, if_pos rfl, hy']⟩
                have hSt : wr.drew.cell? ad = some (.int .i64 (c : Int)) ∧ wr.drew.cell? ⟨ad.block, ad.off + 1, none⟩ = some (.int .i64 (b : Int)) := HCs.out
                have STd := Aside0.mk ST.out.drew
                have hcond : pr = false ∨ pr = true ∧ x = 1 := by
                  cases pr
                  · exact .inl rfl
                  · exact .inr ⟨rfl, by simpa using hk⟩
                clear hk HKp HKe HCs ST hy'
                rcases hcond with rfl | ⟨rfl, rfl⟩
                all_goals
                  go_upto_region 12 with (fail)
                  refine start_ (n := 12) (S := fun w' => w'.cell? ad = some (.int .i64 (c : Int)) ∧ w'.cell? ⟨ad.block, ad.off + 1, none⟩ = some (.int .i64 (b : Int))) (ds := []) #[false, false, false, false, false, false, false, false, false, false, false, false] (by kernel_rfl) rfl rfl hSt (fun hHeld => ?_)
                  refine pure_ (i := 0) (N := some 41) (v := ?_) (a' := ?_) #[true, false, false, false, false, false, false, false, false, false, false, false] rfl rfl (by kernel_rfl) (fun _ _ _ h => h) (Or.inl ⟨by rfl, ?_⟩) ?_ ?_
                  rotate_left
                  · intro w'
                    go_simp
                    with_reducible rfl
                  rotate_left
                  · simp only [Act.put, List.setIfInBounds_toArray, List.set_cons_zero, List.set_cons_succ, i64_w, i32_w]
                    rfl
                  refine pure_ (i := 1) (N := some 42) (v := ?_) (a' := ?_) #[true, true, false, false, false, false, false, false, false, false, false, false] rfl rfl (by kernel_rfl) (fun _ _ _ h => h) (Or.inl ⟨by rfl, ?_⟩) ?_ ?_
                  rotate_left
                  · intro w'
                    go_simp
                    with_reducible rfl
                  rotate_left
                  · simp only [Act.put, List.setIfInBounds_toArray, List.set_cons_zero, List.set_cons_succ, i64_w, i32_w]
                    rfl
                  refine pure_ (i := 2) (N := some 43) (v := ?_) (a' := ?_) #[true, true, true, false, false, false, false, false, false, false, false, false] rfl rfl (by kernel_rfl) (fun _ _ _ h => h) (Or.inl ⟨by rfl, ?_⟩) ?_ ?_
                  rotate_left
                  · intro w'
                    go_simp
                    with_reducible rfl
                  rotate_left
                  · simp only [Act.put, List.setIfInBounds_toArray, List.set_cons_zero, List.set_cons_succ, i64_w, i32_w]
                    rfl
                  refine pure_ (i := 4) (N := some 45) (v := ?_) (a' := ?_) #[true, true, true, false, true, false, false, false, false, false, false, false] rfl rfl (by kernel_rfl) (fun _ _ _ h => h) (Or.inl ⟨by rfl, ?_⟩) ?_ ?_
                  rotate_left
                  · intro w'
                    go_simp
                    with_reducible rfl
                  rotate_left
                  · simp only [Act.put, List.setIfInBounds_toArray, List.set_cons_zero, List.set_cons_succ, i64_w, i32_w]
                    rfl
                  refine pure_ (i := 5) (N := some 46) (v := ?_) (a' := ?_) #[true, true, true, false, true, true, false, false, false, false, false, false] rfl rfl (by kernel_rfl) (fun _ _ _ h => h) (Or.inl ⟨by rfl, ?_⟩) ?_ ?_
                  rotate_left
                  · intro w'
                    go_simp
                    with_reducible rfl
                  rotate_left
                  · simp only [Act.put, List.setIfInBounds_toArray, List.set_cons_zero, List.set_cons_succ, i64_w, i32_w]
                    rfl
                  refine pure_ (i := 7) (N := some 48) (v := ?_) (a' := ?_) #[true, true, true, false, true, true, false, true, false, false, false, false] rfl rfl (by kernel_rfl) (fun _ _ _ h => h) (Or.inl ⟨by rfl, ?_⟩) ?_ ?_
                  rotate_left
                  · intro w'
                    go_simp
                    with_reducible rfl
                  rotate_left
                  · simp only [Act.put, List.setIfInBounds_toArray, List.set_cons_zero, List.set_cons_succ, i64_w, i32_w]
                    rfl
                  refine take_ (i := 3) (N := some 44) (v := ?_) (a' := ?_) #[true, true, true, true, true, true, false, true, false, false, false, false] rfl rfl (by kernel_rfl) (fun _ _ _ h => h) (Or.inl ⟨by rfl, ?_⟩) hHeld ?_ ?_
                  rotate_left
                  · rintro w' ⟨s0, s1⟩
                    go_simp
                    with_reducible rfl
                  rotate_left
                  · simp only [Act.put, List.setIfInBounds_toArray, List.set_cons_zero, List.set_cons_succ, i64_w, i32_w]
                    rfl
                  refine take_ (i := 6) (N := some 47) (v := ?_) (a' := ?_) #[true, true, true, true, true, true, true, true, false, false, false, false] rfl rfl (by kernel_rfl) (fun _ _ _ h => h) (Or.inl ⟨by rfl, ?_⟩) hHeld ?_ ?_
                  rotate_left
                  · rintro w' ⟨s0, s1⟩
                    go_simp
                    with_reducible rfl
                  rotate_left
                  · simp only [Act.put, List.setIfInBounds_toArray, List.set_cons_zero, List.set_cons_succ, i64_w, i32_w]
                    rfl
                  refine one_ (i := 8) (N := some 49) #[true, true, true, true, true, true, true, true, true, false, false, false] rfl rfl (by kernel_rfl) (by decide) (fun K hK => ?_)
                  refine Kd.R_lit_step (Kd.int .i64) _ 3 ?hg (N := 49) ?hd (xs := ([(c : Int), (b : Int), (q : Int)] : List Int)) (inner := [.int .i64 (c : Int), .int .i64 (b : Int), .int .i64 (q : Int)]) (ok := fun _ => True) (okp := fun _ => True) ?hr ?hp (fun _ hk => hk) trivial (Below.refl _ _) (Nat.le_refl _) (by simp) ?_; (case hd => rfl); (case hg => rfl); (case hr => first | (go_simp; done) | (go_simp; rfl)); (case hp => exact (Reps.one (show Kd.M (Kd.int .i64) _ _ _ ((c : Int)) [.int .i64 ((c : Int))] from rfl) (Reps.one (show Kd.M (Kd.int .i64) _ _ _ ((b : Int)) [.int .i64 ((b : Int))] from rfl) (Reps.one (show Kd.M (Kd.int .i64) _ _ _ ((q : Int)) [.int .i64 ((q : Int))] from rfl) (Reps.none _ _)))))
                  intro v127 w22 ho hb hg_ hnew_
                  clear hg_ hnew_
                  rw [← Ny.out] at ho
                  have SO := Aside0.mk (Kd.S_elder' STd.out.so (Kd.R_base ho) hb)
                  have RY := Aside0.mk (Kd.R_lower ho STd.out.hb.size)
                  have ST2 := Aside0.mk (STd.out.below hb)
                  have hS22 : w22.cell? ad = some (.int .i64 (c : Int)) ∧ w22.cell? ⟨ad.block, ad.off + 1, none⟩ = some (.int .i64 (b : Int)) := ⟨pw_cell_below hb hHeld.1, pw_cell_below hb hHeld.2⟩
                  clear hb ho
                  obtain ⟨Ao, co, eo⟩ := Kd.R_slice RY.out
                  subst eo
                  refine hK.out _ _ hS22 (fun hHeld => ?_)
                  clear hK K hS22
                  refine norm_ (a' := ?_) ?_ ?_
                  rotate_left
                  · show Act.put _ (some 49) _ = _
                    simp only [Act.put, List.setIfInBounds_toArray, List.set_cons_zero, List.set_cons_succ, i64_w, i32_w]
                    rfl
                  refine one_ (i := 9) (N := some 50) #[true, true, true, true, true, true, true, true, true, true, false, false] rfl rfl (by kernel_rfl) (by decide) (fun K hK => ?_)
                  have HCW := Aside0.mk hHeld
                  rw [if_pos (by rfl)]
                  go_simp
                  refine hK.out _ _ ⟨pw_cell_below (below_alloc (Below.refl _ _) _) hHeld.1, pw_cell_below (below_alloc (Below.refl _ _) _) hHeld.2⟩ (fun hHeld => ?_)
                  clear hK K
                  refine one_ (i := 10) (N := some 51) #[true, true, true, true, true, true, true, true, true, true, true, false] rfl rfl (by kernel_rfl) (by decide) (fun K hK => ?_)
                  refine Kd.S_append_step (Kd.slice 3 (Kd.int .i64)) (w0 := w) w.heap.size (by rfl) (.tmp 41) (.tmp 50) 33 40 (.slice none 0 0) 24 rfl Try.underlying33 info40 rfl (by decide) (by omega) u5 out y [.slice Ao y.length co] (fun _ => True) (fun k_ => some k_ = (.slice Ao y.length co : Value).ownBlock) rfl ?aX ?aP (fun k_ hk_ => (Kd.R_mono (ok' := fun k_ => ((fun _ => True)) k_ ∧ some k_ ≠ (u5 : Value).ownBlock) (Kd.R_apart' RY.out (Kd.S_typed SO.out) (by decide)) (fun k_ hk => ⟨trivial, hk.2⟩)).1 k_ hk_.symm) (fun _ _ => trivial) ?aO ST2.out.hb ST2.out.hb.size (by have := HOl.out; omega) ?_
                  case aX => first | rfl | (show Value.slice (some ⟨w22.heap.size, 0, none⟩) 1 1 = _; simp)
                  case aP => exact Kd.M_row (Kd.R_mono (Kd.R_tight rfl (Kd.R_mono (ok' := fun k_ => ((fun _ => True)) k_ ∧ some k_ ≠ (u5 : Value).ownBlock) (Kd.R_apart' RY.out (Kd.S_typed SO.out) (by decide)) (fun k_ hk => ⟨trivial, hk.2⟩))) (fun _ h_ => h_))
                  case aO => exact Kd.S_mono SO.out (fun k_ hk => ⟨trivial, fun e_ => hk.2 e_⟩)
                  intro v8 w8 h8 b8 hg8 hat8
                  rw [← NL.out] at h8
                  have ST8 := Aside0.mk (ST2.out.step h8 b8 hg8 hat8)
                  have hS8 : w8.cell? ad = some (.int .i64 (c : Int)) ∧ w8.cell? ⟨ad.block, ad.off + 1, none⟩ = some (.int .i64 (b : Int)) := ⟨cell_grown HCW.out.1 hg8 HNE.out, cell_grown HCW.out.2 hg8 HNE.out⟩
                  clear h8 b8 hg8 hat8 ST2 SO RY HCW
                  refine hK.out _ _ hS8 (fun hHeld => ?_)
                  clear hK K hS8
                  refine norm_ (a' := ?_) ?_ ?_
                  rotate_left
                  · show Act.put _ (some 51) _ = _
                    simp only [Act.put, List.setIfInBounds_toArray, List.set_cons_zero, List.set_cons_succ, i64_w, i32_w]
                    rfl
                  refine pure_ (i := 11) (N := some 5) (v := ?_) (a' := ?_) #[true, true, true, true, true, true, true, true, true, true, true, true] rfl rfl (by kernel_rfl) (fun _ _ _ h => h) (Or.inl ⟨by rfl, ?_⟩) ?_ ?_
                  rotate_left
                  · intro w'
                    go_simp
                    with_reducible rfl
                  rotate_left
                  · simp only [Act.put, List.setIfInBounds_toArray, List.set_cons_zero, List.set_cons_succ, i64_w, i32_w]
                    rfl
                  refine done_ (by kernel_rfl) ?_
                  go_wp2
                  go_roundw
                  case rel => exact ⟨i + 1, by go_num, HI1, ST8⟩
                  case measure => simp [intOf]; omega
        · have hiz : ¬ (i : Int) < (l.length : Int) := by omega
          have SF : Aside0 (Kd.S KL 40 wr w.heap.size (fun _ => True) u5 ((All (q + 1 - 1)).filter (keep pr))) := ⟨by have := ST.out.so; rw [List.take_of_length_le (by omega)] at this; rw [HA.out]; exact this⟩
          have HBF := Aside0.mk ST.out.hb
          clear ST hlL
          go_wp2
          go_roundw
          case rel => exact ⟨q + 1, by go_num, HQ1, SF, HBF⟩
          case measure => simp [intOf]; omega
    · obtain rfl : q = m + 1 := by omega
      have SF : Aside0 (Kd.S KL 40 wr w.heap.size (fun _ => True) u5 ((All m).filter (keep pr))) := ⟨S5.out⟩
      go_wp2
      go_ret
      exact ⟨_, rfl, SF.out, HB.out⟩

set_option maxHeartbeats 4000000 in
theorem specUp (p : Int) (w : World) : Calls Try.prog 25 #[.int .i64 p] w fun e w' => ∃ v, e = .returned (.tuple #[v, .bool (val p false).2]) ∧ Kd.S KL 40 w' w.heap.size (fun _ => True) v (val p false).1 ∧ Below w.heap.size w w' := by
  unfold val
  by_cases h : 1 ≤ p ∧ p ≤ 200
  · rw [if_pos h]
    have CP := Aside0.mk (fun W => PFnExactWholeLeans.spec_cnPlank.calls p true W (by rw [splank_eq, decide_eq_true h]))
    obtain ⟨n, rfl⟩ : ∃ n : Nat, p = (n : Int) := ⟨p.toNat, by omega⟩
    rw [Int.toNat_natCast]
    have CL := Aside0.mk (fun W => cnAll n false W (by omega))
    clear h
    generalize (All n).filter (keep false) = r at CL ⊢
    go_enter Try.func25, Try.ntmps25
    go_wp2_with fail
    refine (CP.out _).mono ?_
    rintro e wx ⟨rfl, ⟨nd, rfl⟩⟩
    have HB := Aside0.mk (pw_below_drewN (Below.refl w.heap.size w) nd)
    generalize w.drewN nd = w1 at HB ⊢
    go_wp2_with fail
    refine (CL.out _).mono ?_
    rintro e w2 ⟨v, rfl, hS, hb⟩
    have HS := Aside0.mk (Kd.S_lower hS HB.out.size)
    have HB2 := Aside0.mk (below_then HB.out HB.out.size hb)
    obtain ⟨A, c, rfl⟩ := Kd.S_slice hS
    clear hS hb
    go_wp2_with fail
    go_ret2
    exact ⟨_, rfl, HS.out, HB2.out⟩
  · rw [if_neg h]
    have CP := Aside0.mk (fun W => PFnExactWholeLeans.spec_cnPlank.calls p false W (by rw [splank_eq, decide_eq_false h]))
    clear h
    go_enter Try.func25, Try.ntmps25
    go_wp2_with fail
    refine (CP.out _).mono ?_
    rintro e wx ⟨rfl, ⟨nd, rfl⟩⟩
    have HB := Aside0.mk (pw_below_drewN (Below.refl w.heap.size w) nd)
    generalize w.drewN nd = w1 at HB ⊢
    go_wp2_with fail
    go_ret2
    exact ⟨_, rfl, Kd.S_nil _ _ _ _ _, HB.out⟩
end Go.Proofs.Ytnnedicoapdkkaa.WkAll
