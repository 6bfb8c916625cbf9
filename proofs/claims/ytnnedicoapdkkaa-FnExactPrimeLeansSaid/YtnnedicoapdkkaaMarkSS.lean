/- laws.markIntSS at this program, and what its printed companions eqIntSS, heldIntSS answer: rows that lie apart are numbered through. Conditions: the rows are the call's own, and not longer, all told, than a million. -/
import Derived.Test.YtnnedicoapdkkaaSp
import Derived.Test.YtnnedicoapdkkaaPFnExactSpotsForx2
namespace Go.Proofs.Ytnnedicoapdkkaa.MarkSS
set_option linter.unusedVariables false
set_option linter.unusedSimpArgs false
open Go.RowKit Go.Proofs.YtnnedicoapdkkaaW.PrintWords Go.Proofs.YtnnedicoapdkkaaW.PrintLast Go.Proofs.YtnnedicoapdkkaaW.PrintMore Spots Sp PFnExactSpotsFor

def run : Int → Nat → List Int
  | _, 0 => []
  | s, n + 1 => s :: run (s + 1) n
def tot : List (List Int) → Nat
  | [] => 0
  | x :: t => x.length + tot t
def mk : List (List Int) → Int → List (List Int)
  | [], _ => []
  | x :: t, s => run s x.length :: mk t (s + x.length)
theorem run_len (n : Nat) : ∀ s, (run s n).length = n := by
  induction n with
  | zero => intro s; rfl
  | succ n ih => intro s; simp [run, ih]
theorem mk_len : ∀ l s, (mk l s).length = l.length
  | [], _ => rfl
  | x :: t, s => by simp [mk, mk_len t]
theorem tot_snoc (x : List Int) : ∀ l, tot (l ++ [x]) = tot l + x.length
  | [] => by simp [tot]
  | y :: t => by simp [tot, tot_snoc x t]; omega
theorem mk_snoc (x : List Int) : ∀ l s, mk (l ++ [x]) s = mk l s ++ [run (s + tot l) x.length]
  | [], s => by simp [mk, tot]
  | y :: t, s => by
    simp only [List.cons_append, mk, tot, mk_snoc x t]
    rw [show s + (y.length : Int) + (tot t : Int) = s + ((y.length + tot t : Nat) : Int) by omega]
theorem tot_take_le : ∀ (l : List (List Int)) (i : Nat), tot (l.take i) ≤ tot l
  | [], i => by simp [tot]
  | x :: t, 0 => by simp [tot]
  | x :: t, i + 1 => by simp only [List.take_succ_cons, tot]; have := tot_take_le t i; omega
theorem rd_at (pre : List Int) (x : Int) (t : List Int) : rd (pre ++ x :: t) (pre.length : Int) = x := by simp [rd]
theorem rdL_at (pre : List (List Int)) (x : List Int) (t : List (List Int)) : rd_L1 (pre ++ x :: t) (pre.length : Int) = x := by simp [rd_L1]

theorem mark_l0 : ∀ (y pre : List Int) (s : Int), 0 ≤ s → s + y.length ≤ 100000000 → pre.length + y.length ≤ 100000000 → Ev (fun k => laws_markIntS.l0 k (pre ++ y) s (pre.length : Int)) (s + y.length, pre ++ run s y.length)
  | [], pre, s, h0, h1, h2 => by
    refine ev_end (fun k => ?_)
    simp only [laws_markIntS.l0]
    rw [if_neg (by simp)]
    simp [run]
  | a :: y, pre, s, h0, h1, h2 => by
    simp only [List.length_cons] at h1 h2
    have hi := mark_l0 y (pre ++ [s]) (s + 1) (by omega) (by omega) (by simp; omega)
    have e1 : (((pre ++ [s]).length : Nat) : Int) = (pre.length : Int) + 1 := by simp
    have e2 : s + 1 + (y.length : Int) = s + ((a :: y).length : Int) := by simp; omega
    have e3 : pre ++ [s] ++ run (s + 1) y.length = pre ++ run s (a :: y).length := by simp [run]
    rw [e1, e2, e3] at hi
    refine ev_step (fun k => ?_) hi
    simp only [laws_markIntS.l0]
    rw [if_pos (by simp; omega), if_pos (by omega), w_id (x := s + 1) (by omega) (by omega), w_id (x := (pre.length : Int) + 1) (by omega) (by omega)]
    congr 1
    simp
theorem mark_ok (y : List Int) (s : Int) (h0 : 0 ≤ s) (h1 : s + y.length ≤ 100000000) (h2 : y.length ≤ 1000000) : ∃ k, laws_markIntS.f k y s = some (s + y.length, run s y.length) := (mark_l0 y [] s h0 h1 (by simp; omega)).rounds
theorem held_l0 : ∀ (n : Nat) (pre : List Int) (s : Int), 0 ≤ s → s + n ≤ 100000000 → pre.length + n ≤ 100000000 → Ev (fun k => laws_heldIntS.l0 k (pre ++ run s n) s (pre.length : Int)) (s + n)
  | 0, pre, s, h0, h1, h2 => by
    refine ev_end (fun k => ?_)
    simp only [laws_heldIntS.l0]
    rw [if_neg (by simp [run])]
    simp
  | n + 1, pre, s, h0, h1, h2 => by
    have hi := held_l0 n (pre ++ [s]) (s + 1) (by omega) (by omega) (by simp; omega)
    have e1 : (((pre ++ [s]).length : Nat) : Int) = (pre.length : Int) + 1 := by simp
    have e2 : s + 1 + (n : Int) = s + ((n + 1 : Nat) : Int) := by omega
    have e3 : pre ++ [s] ++ run (s + 1) n = pre ++ run s (n + 1) := by simp [run]
    rw [e1, e2, e3] at hi
    refine ev_step (fun k => ?_) hi
    simp only [laws_heldIntS.l0]
    rw [if_pos (by simp [run]; omega), if_pos (by omega), show run s (n + 1) = s :: run (s + 1) n from rfl, rd_at, if_pos rfl, w_id (x := s + 1) (by omega) (by omega), w_id (x := (pre.length : Int) + 1) (by omega) (by omega)]
theorem held_row (n : Nat) (s : Int) (h0 : 0 ≤ s) (h1 : s + n ≤ 100000000) (h2 : n ≤ 1000000) : Ev (fun k => laws_heldIntS.f k (run s n) s) (s + n) := held_l0 n [] s h0 h1 (by simp; omega)
theorem heldS_l0 : ∀ (l pre : List (List Int)) (s : Int), 0 ≤ s → s + tot l ≤ 10000000 → pre.length + l.length ≤ 10000000 → tot l ≤ 1000000 → Ev (fun k => laws_heldIntSS.l0 k (pre ++ mk l s) s (pre.length : Int)) (s + tot l)
  | [], pre, s, h0, h1, h2, h3 => by
    refine ev_end (fun k => ?_)
    simp only [laws_heldIntSS.l0]
    rw [if_neg (by simp [mk])]
    simp [tot]
  | x :: l, pre, s, h0, h1, h2, h3 => by
    simp only [List.length_cons, tot] at h1 h2 h3
    have hi := heldS_l0 l (pre ++ [run s x.length]) (s + x.length) (by omega) (by omega) (by simp; omega) (by omega)
    have e1 : (((pre ++ [run s x.length]).length : Nat) : Int) = (pre.length : Int) + 1 := by simp
    have e2 : s + (x.length : Int) + (tot l : Int) = s + ((tot (x :: l) : Nat) : Int) := by simp only [tot]; omega
    have e3 : pre ++ [run s x.length] ++ mk l (s + x.length) = pre ++ mk (x :: l) s := by simp [mk]
    rw [e1, e2, e3] at hi
    have hrow := held_row x.length s h0 (by omega) (by omega)
    refine ev_step (g' := fun k => (laws_heldIntS.f k (run s x.length) s).bind fun t => if t < 0 then some (-1) else laws_heldIntSS.l0 k (pre ++ mk (x :: l) s) t ((pre.length : Int) + 1)) (fun k => ?_) (Ev.bind hrow ?_)
    · simp only [laws_heldIntSS.l0]
      rw [if_pos (by simp [mk]; omega), if_pos (by omega), show mk (x :: l) s = run s x.length :: mk l (s + x.length) from rfl, rdL_at, w_id (x := (pre.length : Int) + 1) (by omega) (by omega)]
    · rw [show (fun k => if s + (x.length : Int) < 0 then some (-1) else laws_heldIntSS.l0 k (pre ++ mk (x :: l) s) (s + x.length) ((pre.length : Int) + 1)) = fun k => laws_heldIntSS.l0 k (pre ++ mk (x :: l) s) (s + x.length) ((pre.length : Int) + 1) from funext fun k => if_neg (by omega)]
      exact hi
theorem held_ok (l : List (List Int)) (h1 : tot l ≤ 1000000) (h2 : l.length ≤ 1000000) : ∃ k, laws_heldIntSS.f k (mk l 1) 1 = some (1 + (tot l : Int)) := (heldS_l0 l [] 1 (by omega) (by omega) (by simp; omega) h1).rounds
theorem eq_l0 (l : List Int) (hl : l.length ≤ 1000000) : ∀ (d i : Nat), i + d = l.length → Ev (fun k => laws_eqIntS.l0 k l l (i : Int)) true
  | 0, i, h => by
    refine ev_end (fun k => ?_)
    simp only [laws_eqIntS.l0]; rw [if_neg (by omega)]
  | d + 1, i, h => by
    refine ev_step (fun k => ?_) (eq_l0 l hl d (i + 1) (by omega))
    simp only [laws_eqIntS.l0]
    rw [if_pos (by omega), if_pos (by omega), if_pos (by omega), if_pos trivial, w_id (by omega) (by omega)]
    rfl
theorem eq_row (l : List Int) (hl : l.length ≤ 1000000) : Ev (fun k => laws_eqIntS.f k l l) true := by
  have := eq_l0 l hl l.length 0 (by omega)
  unfold laws_eqIntS.f
  simpa using this
theorem rdL_len (l : List (List Int)) (i : Int) (h : ∀ x ∈ l, x.length ≤ 1000000) : (rd_L1 l i).length ≤ 1000000 := by
  unfold rd_L1
  rw [List.getD_eq_getElem?_getD]
  cases hx : l[i.toNat]? with
  | none => simp
  | some x => exact h x (List.mem_of_getElem? hx)
theorem eqS_l0 (l : List (List Int)) (hl : l.length ≤ 1000000) (hx : ∀ x ∈ l, x.length ≤ 1000000) : ∀ (d i : Nat), i + d = l.length → Ev (fun k => laws_eqIntSS.l0 k l l (i : Int)) true
  | 0, i, h => by
    refine ev_end (fun k => ?_)
    simp only [laws_eqIntSS.l0]; rw [if_neg (by omega)]
  | d + 1, i, h => by
    refine ev_step (g' := fun k => (laws_eqIntS.f k (rd_L1 l i) (rd_L1 l i)).bind fun t => if t = true then laws_eqIntSS.l0 k l l ((i + 1 : Nat) : Int) else some false) (fun k => ?_) (Ev.bind (eq_row _ (rdL_len l i hx)) ?_)
    · simp only [laws_eqIntSS.l0]
      rw [if_pos (by omega), if_pos (by omega), if_pos (by omega), w_id (by omega) (by omega)]
      rfl
    · simp only [if_true]
      exact eqS_l0 l hl hx d (i + 1) (by omega)
theorem tot_row : ∀ (l : List (List Int)), ∀ x ∈ l, x.length ≤ tot l
  | y :: t, x, h => by
    simp only [tot]
    rcases List.mem_cons.1 h with h | h
    · rw [h]; omega
    · have := tot_row t x h; omega
theorem eq_ok (l : List (List Int)) (h1 : tot l ≤ 1000000) (h2 : l.length ≤ 1000000) : ∃ k, laws_eqIntSS.f k l l = some true := by
  obtain ⟨k, hk⟩ := (eqS_l0 l h2 (fun x hx => Nat.le_trans (tot_row l x hx) h1) l.length 0 (by omega)).rounds
  refine ⟨k, ?_⟩
  unfold laws_eqIntSS.f
  rw [if_pos rfl]
  exact hk

/-- i rows have been numbered. -/
structure MS (xs : List (List Int)) (i : Nat) (n : Int) (cur : List (List Int)) : Prop where
  cnt : n = 1 + (tot (xs.take i) : Int)
  all : cur = mk (xs.take i) 1 ++ xs.drop i
theorem MS.at_ {xs : List (List Int)} {i : Nat} {n : Int} {cur : List (List Int)} (h : MS xs i n cur) (hi : i < xs.length) : cur.getD i [] = xs[i] := by
  rw [h.all, List.drop_eq_getElem_cons hi, List.getD_eq_getElem?_getD, List.getElem?_append_right (by rw [mk_len, List.length_take]; omega), mk_len, List.length_take, Nat.min_eq_left (by omega), Nat.sub_self]
  rfl
theorem MS.len {xs : List (List Int)} {i : Nat} {n : Int} {cur : List (List Int)} (h : MS xs i n cur) : cur.length = xs.length := by
  rw [h.all, List.length_append, mk_len, ← List.length_append, List.take_append_drop]
theorem MS.step {xs : List (List Int)} {i : Nat} {n : Int} {cur : List (List Int)} (h : MS xs i n cur) (hi : i < xs.length) : MS xs (i + 1) (n + (xs[i].length : Int)) (cur.set i (run n xs[i].length)) := by
  have e := List.take_succ_eq_append_getElem hi
  refine ⟨by rw [e, tot_snoc, h.cnt]; omega, ?_⟩
  rw [e, mk_snoc, ← h.cnt, h.all, List.drop_eq_getElem_cons hi, List.set_append_right _ _ (by rw [mk_len, List.length_take]; omega), mk_len, List.length_take, Nat.min_eq_left (by omega), Nat.sub_self, List.set_cons_zero, List.append_assoc]
  rfl
theorem MS.done {xs : List (List Int)} {i : Nat} {n : Int} {cur : List (List Int)} (h : MS xs i n cur) (hi : ¬ i < xs.length) : n = 1 + (tot xs : Int) ∧ cur = MarkSS.mk xs 1 := by
  have e : xs.take i = xs := List.take_of_length_le (by omega)
  refine ⟨by rw [h.cnt, e], by rw [h.all, e, List.drop_eq_nil_of_le (by omega), List.append_nil]⟩

set_option maxHeartbeats 4000000 in
set_option maxRecDepth 100000 in
theorem markSS (v : Value) (xs : List (List Int)) (w0 w : World) (hS : Kd.S KL 40 w w0.heap.size (fun k => w0.heap.size ≤ k) v xs) (hB : Below w0.heap.size w0 w) (hn : xs.length ≤ 1000000) (ht : tot xs ≤ 1000000) :
    Calls Try.prog 21 #[v, .int .i64 1] w fun e w' => e = .returned (.int .i64 (1 + (tot xs : Int))) ∧ Kd.S KL 40 w' w0.heap.size (fun k => w0.heap.size ≤ k) v (mk xs 1) ∧ Below w0.heap.size w0 w' := by
  obtain ⟨A, c, rfl⟩ := Kd.S_slice hS
  have HS := Aside0.mk hS
  have HB := Aside0.mk hB
  have HT := Aside0.mk ht
  have HM : Aside0 (MS xs 0 1 xs) := ⟨⟨by simp [tot], by simp [mk]⟩⟩
  clear hS hB ht
  go_enter Try.func21, Try.ntmps21
  go_wp2
  go_loopw [1, 5] (fun v1 v5 wr => ∃ (i : Nat) (n : Int) (cur : List (List Int)), v1 = .int .i64 n ∧ v5 = .int .i64 (i : Int) ∧ Aside0 (i ≤ xs.length) ∧ Aside0 (MS xs i n cur) ∧ Aside0 (Kd.S KL 40 wr w0.heap.size (fun k => w0.heap.size ≤ k) (.slice A xs.length c) cur) ∧ Aside0 (Below w0.heap.size w0 wr)) (fun _ v5 _ => xs.length - (intOf v5).toNat)
  case atStart => exact ⟨0, 1, xs, rfl, rfl, ⟨Nat.zero_le _⟩, HM, HS, HB⟩
  case round =>
    clear HS HB HM
    obtain ⟨i, n, cur, rfl, rfl, HI, HM, HS, HB⟩ := hrel
    by_cases hi : i < xs.length
    · have hcl := HM.out.len
      obtain ⟨g, cap, hv, _⟩ := Kd.S_form HS.out (by omega)
      injection hv with hA hlen0 hc
      clear hlen0
      subst hA hc
      obtain ⟨oki, cc, hl, hM, hcell, hoki, hH⟩ := Kd.S_lend HS.out ([] : List Int) (i : Int) (by omega) (by omega)
      rw [Int.toNat_natCast, HM.out.at_ hi] at hM
      obtain ⟨u, rfl, hU⟩ := hM
      have hx : wr.cell? ⟨g, i, none⟩ = some u := by
        have := hcell 0 u rfl
        rwa [Int.toNat_natCast, show i * KL.sz + 0 = i by show i * 1 + 0 = i; omega] at this
      obtain ⟨A2, c2, rfl⟩ := Kd.R_slice hU
      have hbn : 0 ≤ n ∧ n + (xs[i].length : Int) ≤ 100000000 ∧ xs[i].length ≤ 1000000 := by
        have h1 := HM.out.cnt
        have h2 := tot_take_le xs i
        have h3 := tot_row xs xs[i] (List.getElem_mem hi)
        have h4 := HT.out
        omega
      obtain ⟨kk, hk⟩ := mark_ok xs[i] n hbn.1 hbn.2.1 hbn.2.2
      have HC := Aside0.mk (laws_markIntS.calls kk oki _ xs[i] n _ _ w0 wr HB.out hU hk)
      have HH := Aside0.mk hH
      have HU := Aside0.mk hU.1
      have HM1 := Aside0.mk (HM.out.step hi)
      have HI1 : Aside0 (i + 1 ≤ xs.length) := ⟨hi⟩
      have hil : (i : Int) < (xs.length : Int) := by omega
      clear hl hcell hoki hH hU hk hbn hcl
      go_wp2_with fail
      refine HC.out.mono ?_
      rintro e w2 ⟨rfl, hR2, hB2, hK2⟩
      have HS2 : Aside0 (Kd.S KL 40 w2 w0.heap.size (fun k => w0.heap.size ≤ k) (.slice (some ⟨g, 0, none⟩) xs.length c) (cur.set i (run n xs[i].length))) :=
        ⟨by have := Kd.H_back (Kd.H_kept HH.out hK2 (fun _ _ h => h)) (x' := run n xs[i].length) (okp := fun k => some k = (Value.slice A2 xs[i].length c2).ownBlock) ⟨_, rfl, Kd.R_tight rfl hR2⟩ (fun k hk => HU.out k hk.symm); rwa [Int.toNat_natCast] at this⟩
      have HB2 := Aside0.mk hB2
      clear hR2 hB2 hK2
      go_wp2
      go_roundw
      case rel => exact ⟨i + 1, _, _, rfl, by go_num, HI1, HM1, HS2, HB2⟩
      case measure => simp [intOf]; omega
    · obtain ⟨rfl, rfl⟩ := HM.out.done hi
      have hil : ¬ (i : Int) < (xs.length : Int) := by omega
      go_wp2
      go_ret
      exact ⟨rfl, HS.out, HB.out⟩
end Go.Proofs.Ytnnedicoapdkkaa.MarkSS
