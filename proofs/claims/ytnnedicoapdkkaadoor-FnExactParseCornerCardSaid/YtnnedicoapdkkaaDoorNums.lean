/- impl.numbers at this program, with "x" between the numbers and 100 as the most: the numbers of the fields, all or none. Conditions: at most 2^20 bytes; the library's table and error variables stand as laid. -/
import Derived.Test.YtnnedicoapdkkaaDoorNumb
namespace Go.Proofs.YtnnedicoapdkkaaDoor.Nums
set_option linter.unusedVariables false
set_option linter.unusedSimpArgs false
open Go.RowKit Go.Proofs.YtnnedicoapdkkaaDoorW.PrintWords Go.Proofs.YtnnedicoapdkkaaDoorW.PrintLast Go.Proofs.YtnnedicoapdkkaaDoorW.PrintMore Numb Rune

theorem info3 : (Tryd.prog.info? 3).map (fun i => (i.zero, i.size, i.bytes)) = some (some (.int .i64 0), 1, 8) := by kernel_rfl
def nums : List ByteArray → Option (List Int)
  | [] => some []
  | s :: l => match num1 s with
    | none => none
    | some v => (nums l).map (v :: ·)
theorem nums_step {l : List ByteArray} {i : Nat} (hi : i < l.length) (ys : List Int) (h : nums l = (nums (l.drop i)).map (ys ++ ·)) {v : Int} (hv : num1 l[i] = some v) : nums l = (nums (l.drop (i + 1))).map ((ys ++ [v]) ++ ·) := by
  rw [h, List.drop_eq_getElem_cons hi]
  simp only [nums, hv]
  cases nums (l.drop (i + 1)) <;> simp
theorem nums_bad {l : List ByteArray} {i : Nat} (hi : i < l.length) (ys : List Int) (h : nums l = (nums (l.drop i)).map (ys ++ ·)) (hv : num1 l[i] = none) : nums l = none := by
  rw [h, List.drop_eq_getElem_cons hi]
  simp only [nums, hv]
  rfl
theorem nums_end {l : List ByteArray} {i : Nat} (hi : l.length ≤ i) (ys : List Int) (h : nums l = (nums (l.drop i)).map (ys ++ ·)) : nums l = some ys := by
  rw [h, List.drop_of_length_le hi]
  simp [nums]

/-! How many fields there are, and how long they are. -/
theorem spans_len (p : Nat → Bool) (s : ByteArray) : ∀ (f pos : Nat) (st : Option Nat) (acc : List (Nat × Nat)), (Lib.spansFromP p s f pos st acc).1.length ≤ acc.length + f
  | 0, _, _, _ => Nat.le_refl _
  | f + 1, pos, st, acc => by
    unfold Lib.spansFromP
    split
    · split
      · split
        · refine Nat.le_trans (spans_len p s f _ _ _) ?_
          rw [List.length_append, List.length_singleton]; omega
        · exact Nat.le_trans (spans_len p s f _ _ _) (by omega)
      · split
        · exact Nat.le_trans (spans_len p s f _ _ _) (by omega)
        · exact Nat.le_trans (spans_len p s f _ _ _) (by omega)
    · simp
theorem fields_len (p : Nat → Bool) (s : ByteArray) : (Lib.goFieldsP p s).length ≤ s.size + 1 := by
  unfold Lib.goFieldsP Lib.spansOfP Lib.closeSpans
  rw [List.length_map]
  have h := spans_len p s s.size 0 none []
  split
  · rw [List.length_append, List.length_singleton]; simp at h; omega
  · simp at h; omega
theorem fields_size (p : Nat → Bool) (s : ByteArray) : ∀ x ∈ Lib.goFieldsP p s, x.size ≤ s.size := by
  intro x hx
  unfold Lib.goFieldsP at hx
  obtain ⟨⟨a, b⟩, _, rfl⟩ := List.mem_map.1 hx
  simp only [ByteArray.size_extract]
  omega

set_option maxHeartbeats 4000000 in
set_option maxRecDepth 100000 in
theorem numbers (t : ByteArray) (w : World) (ht : t.size ≤ 1048576) (hV : Vars w) :
    Calls Tryd.prog 8 #[.string t, .string X, .int .i64 100] w fun e w' => ∃ v, e = .returned (.tuple #[v, .bool (nums (Lib.goFieldsP isx t)).isSome]) ∧ Kd.R (Kd.int .i64) 3 w' w.heap.size (fun _ => True) v ((nums (Lib.goFieldsP isx t)).getD []) ∧ Below w.heap.size w w' := by
  have CF := Aside0.mk (fun b W => fields t b W (by omega))
  have CN := Aside0.mk (fun s W => number s W)
  have HV := Aside0.mk hV
  have HS := Aside0.mk (fields_size isx t)
  have HL := Aside0.mk (fields_len isx t)
  have HT := Aside0.mk ht
  generalize Lib.goFieldsP isx t = FS at CF HS HL ⊢
  obtain ⟨x, hx⟩ : ∃ x, X = x := ⟨_, rfl⟩
  rw [hx] at CF ⊢
  clear hx hV ht
  have HB := Aside0.mk (Below.refl w.heap.size w)
  have BK := Aside0.mk (show (w.alloc (.cells #[.string x] 9)).cell? ⟨w.heap.size, 0, none⟩ = some (.string x) from (blk_cell (blk_new w _) 0).trans rfl)
  go_enter Tryd.func8, Tryd.ntmps8
  go_wp2_with (first | ((with_reducible refine gate_dst (N := 13) rfl ?_); refine Kd.R_lit (Kd.int .i64) _ 3 ?hg (N := 13) ?hd (xs := ([] : List Int)) (inner := []) (ok := fun _ => True) (okp := fun _ => True) ?hr ?hp (fun _ hk => hk) trivial (Below.refl _ _) (Nat.le_refl _) (by simp) ?_; (case hd => rfl); (case hg => rfl); (case hr => first | (go_simp; done) | (go_simp; rfl)); (case hp => exact (Reps.none _ _)); intro v1 w1 ho3 hb hg_ hnew_; clear hnew_; have n0_ : Aside0 (w1.cell? ⟨w.heap.size, 0, none⟩ = some (.string x)) := ⟨by rw [hb.cell (by show w.heap.size < (w.heap.push _).size; rw [Array.size_push]; omega)]; exact BK.out⟩; have SO := Aside0.mk (Kd.R_lower ho3 (below_size (by repeat (first | (with_reducible first | exact HB.out | apply below_alloc | apply pw_below_drewN | apply below_drew1) | exact HB.out)))); have n1_ := Aside0.mk (below_step (by repeat (first | (with_reducible first | exact HB.out | apply below_alloc | apply pw_below_drewN | apply below_drew1) | exact HB.out)) hb); have n2_ : Aside0 (w.heap.size < w1.heap.size) := ⟨by have h_ := hb.size; have h2_ : w.heap.size < (w.heap.push (Obj.cells #[.string x] 9)).size := (by rw [Array.size_push]; omega); exact Nat.lt_of_lt_of_le h2_ h_⟩; clear HB BK hg_; have HB := n1_; have BK := n0_; have HN := n2_; clear n1_ n0_ n2_; clear hb ho3))
  refine (CF.out _ _ HN.out BK.out).mono ?_
  rintro e w2 ⟨A, rfl, hA, hown, hb⟩
  clear hA
  generalize (⟨A, 0, none⟩ : Addr) = ad at hown ⊢
  have RL : Aside0 (Kd.R Kd.string 9 w2 w1.heap.size (fun k => w1.heap.size ≤ k ∧ k < w2.heap.size) (.slice (some ad) FS.length FS.length) FS) :=
    ⟨Kd.R_mono (Kd.R_bound (Kd.R_of_own (ok := fun _ => True) hown (fun _ _ => trivial))) (fun _ hk => ⟨hk.2.1, hk.2.2.1⟩)⟩
  have OB : Aside0 (∀ k, v1.ownBlock = some k → k < w1.heap.size ∨ w2.heap.size ≤ k) := ⟨fun k hk => .inl ((Kd.R_bound SO.out).1 k hk).2.2.1⟩
  have SO2 := Aside0.mk (Kd.R_below SO.out hb)
  have HB2 := Aside0.mk (below_then HB.out HB.out.size hb)
  have NH : Aside0 (nums FS = (nums (FS.drop 0)).map (([] : List Int) ++ ·)) := ⟨by rw [List.drop_zero]; cases nums FS <;> simp⟩
  have HN2 : Aside0 (w2.heap.size ≤ w2.heap.size) := ⟨Nat.le_refl _⟩
  generalize hN0 : w1.heap.size = N0 at RL OB
  generalize hN1 : w2.heap.size = N1 at RL OB HN2
  replace HN2 : Aside0 (N1 ≤ w2.heap.size) := ⟨Nat.le_of_eq hN1.symm⟩
  clear hN0 hN1 hown hb SO BK HN HB CF
  go_wp2_with fail
  go_loopw [8, 18, 10, 11, 12] (fun v8 v18 v10 v11 v12 wr => ∃ (i : Nat) (ys : List Int), v18 = .int .i64 (i : Int) ∧ Aside0 (i ≤ FS.length) ∧ Aside0 (ys.length = i) ∧ Aside0 (nums FS = (nums (FS.drop i)).map (ys ++ ·)) ∧ Aside0 (Kd.R (Kd.int .i64) 3 wr w.heap.size (fun _ => True) v8 ys) ∧ Aside0 (∀ k, v8.ownBlock = some k → k < N0 ∨ N1 ≤ k) ∧ Aside0 (Kd.R Kd.string 9 wr N0 (fun k => N0 ≤ k ∧ k < N1) (.slice (some ad) FS.length FS.length) FS) ∧ Aside0 (Below w.heap.size w wr) ∧ Aside0 (N1 ≤ wr.heap.size)) (fun _ v18 _ _ _ _ => FS.length - (intOf v18).toNat)
  case atStart => exact ⟨0, [], rfl, ⟨Nat.zero_le _⟩, ⟨rfl⟩, NH, SO2, OB, RL, HB2, HN2⟩
  case round =>
    clear SO2 OB RL HB2 HN2 NH
    obtain ⟨i, ys, rfl, HI, HY, NH, SO, OB, RL, HB, HN⟩ := hrel
    by_cases hi : i < FS.length
    · obtain ⟨c, hcl, hM, hcc⟩ := Kd.R_getA RL.out FS[i] (i : Int) (by omega) (by omega)
      have e : FS.getD (i : Int).toNat FS[i] = FS[i] := by
        rw [Int.toNat_natCast, List.getD_eq_getElem?_getD, List.getElem?_eq_getElem hi]; rfl
      rw [e] at hM
      obtain ⟨s, hs⟩ : ∃ s, FS[i] = s := ⟨_, rfl⟩
      have hsz : s.size ≤ t.size := by rw [← hs]; exact HS.out _ (List.getElem_mem hi)
      have hc : c = [.string s] := by rw [← hs]; exact hM
      have hx : wr.cell? (ad.add i) = some (.string s) := by
        have := hcc 0 (.string s) (by rw [hc]; rfl)
        rwa [Int.toNat_natCast, show i * (Kd.string).sz + 0 = i by show i * 1 + 0 = i; omega] at this
      have hiz : (i : Int) < (FS.length : Int) := by omega
      have CNs := Aside0.mk (CN.out s wr (by have := HT.out; omega) (HV.out.below HB.out))
      have HI1 : Aside0 (i + 1 ≤ FS.length) := ⟨hi⟩
      clear hcc hM hcl e hc hsz
      cases hn : num1 s with
      | none =>
        have NB : Aside0 (nums FS = none) := ⟨nums_bad hi ys NH.out (by rw [hs]; exact hn)⟩
        rw [hn, show enc none = .tuple #[.int .i64 0, .bool false] from rfl] at CNs
        clear hs hn
        go_wp2_with fail
        refine CNs.out.mono ?_
        rintro e w3 ⟨rfl, hb3⟩
        have HB3 := Aside0.mk (below_then HB.out HB.out.size hb3)
        clear hb3
        go_wp2_with fail
        go_ret2
        exact ⟨_, by rw [NB.out]; rfl, by rw [NB.out]; exact Kd.R_nil _ _ _ _ _, HB3.out⟩
      | some z =>
        have NH1 := Aside0.mk (nums_step hi ys NH.out (v := z) (by rw [hs]; exact hn))
        rw [hn, show enc (some z) = .tuple #[.int .i64 z, .bool true] from rfl] at CNs
        clear hs hn NH
        obtain ⟨y, hy⟩ : ∃ y, ys ++ [z] = y := ⟨_, rfl⟩
        rw [hy] at NH1
        have NL := Aside0.mk hy
        have HY1 : Aside0 (y.length = i + 1) := ⟨by rw [← hy, List.length_append, HY.out]; rfl⟩
        have LB : Aside0 (ys.length ≤ 1048576) := ⟨by have := HY.out; have := HL.out; have := HT.out; omega⟩
        clear hy HY
        go_wp2_with fail
        refine CNs.out.mono ?_
        rintro e w3 ⟨rfl, hb3⟩
        have HB3 := Aside0.mk (below_then HB.out HB.out.size hb3)
        have SO3 := Aside0.mk (Kd.R_below SO.out hb3)
        have RL3 := Aside0.mk (Kd.R_below RL.out hb3)
        have HN3 := Aside0.mk (Nat.le_trans HN.out hb3.size)
        clear hb3 SO RL HB HN
        have HB := HB3; have SO := SO3; have RL := RL3; have HN := HN3
        clear HB3 SO3 RL3 HN3
        go_wp2_with (first | ((with_reducible refine gate_builtin (b := .append) (xs := #[.tmp 30, .tmp 32]) rfl ?_); at_builtin; refine Kd.R_append (Kd.int .i64) (w0 := w) w.heap.size rfl (.tmp 30) (.tmp 32) 28 3 (.int .i64 0) 8 rfl Tryd.underlying28 info3 rfl (by decide) (by omega) u8 ys z [.int .i64 z] (fun _ => True) (fun _ => False) rfl rfl ?aP (fun _ hk => hk.elim) ?aF ?aO ?aB ?aS ?aL ?_; (case aP => exact rfl); (case aB => exact (by repeat (first | (with_reducible first | exact HB.out | apply below_alloc | apply pw_below_drewN | apply below_drew1) | exact HB.out))); (case aF => exact (fun _ _ => trivial)); (case aO => exact (by (with_reducible repeat (first | apply Kd.R_alloc | apply Kd.R_drewN | apply Kd.R_drew)); exact SO.out)); (case aS => exact (below_size (by repeat (first | (with_reducible first | exact HB.out | apply below_alloc | apply pw_below_drewN | apply below_drew1) | exact HB.out)))); (case aL => have := LB.out; omega); intro v_n w_n ho hb hg hat; rw [NL.out] at ho; have n1_ := Aside0.mk hb; have n2_ := Aside0.mk ho; have n3_ := Aside0.mk (Kd.R_grown RL.out hg (fun k_ hk_ e_ => (OB.out k_ e_.symm).elim (fun q_ => by have := hk_.1; omega) (fun q_ => by have := hk_.2; omega))); have n4_ := Aside0.mk (Nat.le_trans HN.out hg.size); have n5_ : Aside0 (∀ k, v_n.ownBlock = some k → k < N0 ∨ N1 ≤ k) := ⟨fun k_ e_ => hat.elim (fun q_ => OB.out k_ (q_ ▸ e_)) (fun ⟨b_, q1_, q2_⟩ => .inr (by rw [q1_] at e_; cases e_; exact Nat.le_trans HN.out q2_))⟩; clear HB SO RL HN OB; have HB := n1_; have SO := n2_; have RL := n3_; have HN := n4_; have OB := n5_; clear n1_ n2_ n3_ n4_ n5_; clear ho hb hg hat))
        go_roundw
        case rel => exact ⟨i + 1, y, by have h1_ := HL.out; have h2_ := HT.out; rw [show wrap64 ((i : Int) + 1) = (i : Int) + 1 by unfold wrap64; omega]; rfl, HI1, HY1, NH1, SO, OB, RL, HB, HN⟩
        case measure => have h1_ := HL.out; have h2_ := HT.out; rw [show wrap64 ((i : Int) + 1) = (i : Int) + 1 by unfold wrap64; omega]; simp [intOf]; omega
    · have hiz : ¬ (i : Int) < (FS.length : Int) := by omega
      have NE : Aside0 (nums FS = some ys) := ⟨nums_end (by omega) ys NH.out⟩
      go_wp2
      go_ret2
      exact ⟨_, by rw [NE.out]; rfl, by rw [NE.out]; exact SO.out, HB.out⟩
end Go.Proofs.YtnnedicoapdkkaaDoor.Nums
