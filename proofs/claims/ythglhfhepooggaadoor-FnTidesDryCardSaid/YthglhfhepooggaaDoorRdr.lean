/- The reader of choices and the Draw functions, big and dSame at this program: some texts of at most 42 bytes, some small numbers; nothing that lay before is turned. Conditions: the row of bytes stands. -/
import Derived.Test.YthglhfhepooggaaDoorPFnTidesDryx2
import Derived.Test.YthglhfhepooggaaDoorPFnTidesDryx0
/-! (*spec.l1Cur).next at this program: it gives some byte and goes one place on. Conditions: the reader's block stands; the read row holds bytes and lies elsewhere; the place is from 0 to 10^12. -/
namespace Go.Proofs.YthglhfhepooggaaDoor.Rdr
set_option linter.unusedVariables false
set_option linter.unusedSimpArgs false
open Go.RowKit Go.Proofs.YthglhfhepooggaaDoorW.PrintWords Go.Proofs.YthglhfhepooggaaDoorW.PrintLast Go.Proofs.YthglhfhepooggaaDoorW.PrintMore

def Bytes (l : List Int) : Prop := ∀ x ∈ l, 0 ≤ x ∧ x ≤ 255
theorem w_id {x : Int} (h0 : -1000000000000000 ≤ x) (h1 : x ≤ 1000000000000000) : wrap64 x = x := by unfold wrap64; omega
abbrev blk (A : Option Addr) (n c : Nat) (a s : Int) : Obj := .cells #[.slice A n c, .int .i64 a, .int .u64 s] 69 (0, 0)

set_option maxHeartbeats 4000000 in
set_option maxRecDepth 100000 in
theorem next_in (g : Nat) (ad : Addr) (n c : Nat) (a s b : Int) (w0 w : World) (hB : Below w0.heap.size w0 w) (hge : w0.heap.size ≤ g) (hg : w.heap[g]? = some (blk (some ad) n c a s)) (h0 : 0 ≤ a) (h1 : a < n) (hn : n ≤ 1000000000000) (hc : w.cell? (ad.add a.toNat) = some (.int .u8 b)) (hb0 : 0 ≤ b) (hb1 : b ≤ 255) :
    Calls Tryd.prog 95 #[.pointer (some ⟨g, 0, none⟩)] w fun e w' => ∃ s', e = .returned (.int .i64 b) ∧ w'.heap[g]? = some (blk (some ad) n c (a + 1) s') ∧ KeepBut w w' g none ∧ Below w0.heap.size w0 w' := by
  have HB := Aside0.mk hB
  have GE := Aside0.mk hge
  clear hB hge
  have HG := Aside0.mk hg
  have hw : wrap64 (a + 1) = a + 1 := w_id (by omega) (by omega)
  have hwb : wrap64 b = b := w_id (by omega) (by omega)
  have c2 : decide (a < (n : Int)) = true := decide_eq_true h1
  have c3 : decide (a + 1 ≤ (n : Int)) = true := decide_eq_true (by omega)
  have hcz_0 : w.cell? ⟨g, 0, none⟩ = some (.slice (some ad) n c) := (blk_cell hg 0).trans rfl
  have hcz_1 : w.cell? ⟨g, 1, none⟩ = some (.int .i64 a) := (blk_cell hg 1).trans rfl
  have hcz_2 : w.cell? ⟨g, 2, none⟩ = some (.int .u64 s) := (blk_cell hg 2).trans rfl
  have hfz_1 := blk_frozen hg 1
  have hfz_2 := blk_frozen hg 2
  clear hg
  go_enter Tryd.func95, Tryd.ntmps95
  go_wp2
  repeat (go_quiet (fail); try go_wp2)
  go_ret
  refine ⟨IntKind.u64.wrap (IntKind.u64.wrap (IntKind.u64.wrap (s * 6364136223846793005) + b) + 1442695040888963407), by first | rfl | (simp; done) | (simp [*]; done), ?_, ?_, ?_⟩
  · refine blk_drewN (blk_put (cs := #[.slice (some ad) n c, .int .i64 (a + 1), .int .u64 s]) (blk_put (cs := #[.slice (some ad) n c, .int .i64 a, .int .u64 s]) (blk_drewN HG.out _) 1 _ rfl) 2 _ rfl) _
  · repeat (first | (with_reducible exact KeepBut.refl _ _ _) | apply KeepBut.set_ | apply keep_drewN | apply keep_drew | apply keep_alloc)
  · repeat (first | (with_reducible exact HB.out) | refine below_set ?_ GE.out | apply pw_below_drewN | apply below_drew1)

set_option maxHeartbeats 4000000 in
set_option maxRecDepth 100000 in
theorem next_out (g : Nat) (A : Option Addr) (n c : Nat) (a s : Int) (w0 w : World) (hB : Below w0.heap.size w0 w) (hge : w0.heap.size ≤ g) (hg : w.heap[g]? = some (blk A n c a s)) (h0 : 0 ≤ a) (h1 : ¬ a < n) (hn : a ≤ 1000000000000) :
    Calls Tryd.prog 95 #[.pointer (some ⟨g, 0, none⟩)] w fun e w' => ∃ s' x, e = .returned (.int .i64 (wrap64 (Go.bits .and .u64 x 255))) ∧ w'.heap[g]? = some (blk A n c (a + 1) s') ∧ KeepBut w w' g none ∧ Below w0.heap.size w0 w' := by
  have HB := Aside0.mk hB
  have GE := Aside0.mk hge
  clear hB hge
  have HG := Aside0.mk hg
  have hw : wrap64 (a + 1) = a + 1 := w_id (by omega) (by omega)
  have c2 : decide (a < (n : Int)) = false := decide_eq_false h1
  have c3 : decide (a + 1 ≤ (n : Int)) = false := decide_eq_false (by omega)
  have hcz_0 : w.cell? ⟨g, 0, none⟩ = some (.slice A n c) := (blk_cell hg 0).trans rfl
  have hcz_1 : w.cell? ⟨g, 1, none⟩ = some (.int .i64 a) := (blk_cell hg 1).trans rfl
  have hcz_2 : w.cell? ⟨g, 2, none⟩ = some (.int .u64 s) := (blk_cell hg 2).trans rfl
  have hfz_1 := blk_frozen hg 1
  have hfz_2 := blk_frozen hg 2
  clear hg
  go_enter Tryd.func95, Tryd.ntmps95
  go_wp2
  repeat (go_quiet (fail); try go_wp2)
  go_ret
  refine ⟨IntKind.u64.wrap (IntKind.u64.wrap (IntKind.u64.wrap (s * 6364136223846793005)) + 1442695040888963407), _, by first | rfl | (simp; done) | (simp [*]; done), ?_, ?_, ?_⟩
  · refine blk_drewN (blk_put (cs := #[.slice A n c, .int .i64 (a + 1), .int .u64 s]) (blk_put (cs := #[.slice A n c, .int .i64 a, .int .u64 s]) (blk_drewN HG.out _) 1 _ rfl) 2 _ rfl) _
  · repeat (first | (with_reducible exact KeepBut.refl _ _ _) | apply KeepBut.set_ | apply keep_drewN | apply keep_drew | apply keep_alloc)
  · repeat (first | (with_reducible exact HB.out) | refine below_set ?_ GE.out | apply pw_below_drewN | apply below_drew1)

/-- The read row: bytes, in blocks from before. -/
def Row (w0 : World) (A : Option Addr) (n : Nat) : Prop := ∀ i < n, ∃ ad b, A = some ad ∧ w0.cell? (ad.add i) = some (.int .u8 b) ∧ 0 ≤ b ∧ b ≤ 255
/-- A reader that stands no further than lim. -/
def Cur (w0 W : World) (g : Nat) (lim : Int) : Prop :=
  ∃ A n c a s, W.heap[g]? = some (blk A n c a s) ∧ w0.heap.size ≤ g ∧ Row w0 A n ∧ (n : Nat) ≤ 1000000000000 ∧ 0 ≤ a ∧ a ≤ lim ∧ Below w0.heap.size w0 W
theorem and255 (x : Int) : 0 ≤ wrap64 (Go.bits .and .u64 x 255) ∧ wrap64 (Go.bits .and .u64 x 255) ≤ 255 := by
  have h : Go.bits .and .u64 x 255 = IntKind.u64.wrap (((BitVec.ofInt 64 x &&& BitVec.ofInt 64 255).toNat : Nat) : Int) := rfl
  have h2 : (BitVec.ofInt 64 x &&& BitVec.ofInt 64 255).toNat ≤ 255 := by
    rw [BitVec.toNat_and]
    exact Nat.and_le_right
  rw [h, IntKind.wrap_u64]
  generalize (BitVec.ofInt 64 x &&& BitVec.ofInt 64 255).toNat = m at h2
  rw [w_id (by omega) (by omega)]
  omega
theorem next (g : Nat) (lim : Int) (w0 w : World) (h : Cur w0 w g lim) (hl : lim ≤ 1000000000) :
    Calls Tryd.prog 95 #[.pointer (some ⟨g, 0, none⟩)] w fun e w' => (∃ b, e = .returned (.int .i64 b) ∧ 0 ≤ b ∧ b ≤ 255) ∧ Cur w0 w' g (lim + 1) ∧ KeepBut w w' g none := by
  obtain ⟨A, n, c, a, s, hg, hge, hR, hn, h0, h1, hB⟩ := h
  by_cases ha : a < n
  · obtain ⟨ad, b, rfl, hc, hb0, hb1⟩ := hR a.toNat (by omega)
    refine (next_in g ad n c a s b w0 w hB hge hg h0 ha hn (pw_cell_below hB hc) hb0 hb1).mono ?_
    rintro e w' ⟨s', rfl, hg', hk, hB'⟩
    exact ⟨⟨_, rfl, hb0, hb1⟩, ⟨_, n, c, a + 1, s', hg', hge, hR, hn, by omega, by omega, hB'⟩, hk⟩
  · refine (next_out g A n c a s w0 w hB hge hg h0 ha (by omega)).mono ?_
    rintro e w' ⟨s', x, rfl, hg', hk, hB'⟩
    exact ⟨⟨_, rfl, and255 x⟩, ⟨_, n, c, a + 1, s', hg', hge, hR, hn, by omega, by omega, hB'⟩, hk⟩
end Go.Proofs.YthglhfhepooggaaDoor.Rdr
/-! (*spec.l1Cur).pick, one, among, hour at this program: some number below the bound, some element of the list. Conditions: as next; a bound of at most 200. -/
namespace Go.Proofs.YthglhfhepooggaaDoor.Rdr
set_option linter.unusedVariables false
set_option linter.unusedSimpArgs false
open Go.RowKit Go.Proofs.YthglhfhepooggaaDoorW.PrintWords Go.Proofs.YthglhfhepooggaaDoorW.PrintLast Go.Proofs.YthglhfhepooggaaDoorW.PrintMore

theorem Cur.more {w0 W : World} {g : Nat} {l1 l2 : Int} (h : Cur w0 W g l1) (hl : l1 ≤ l2) : Cur w0 W g l2 := by
  obtain ⟨A, n, c, a, s, hg, hge, hR, hn, h0, h1, hB⟩ := h
  exact ⟨A, n, c, a, s, hg, hge, hR, hn, h0, by omega, hB⟩
theorem Cur.drewN {w0 W : World} {g : Nat} {l : Int} (h : Cur w0 W g l) (m : Nat) : Cur w0 (W.drewN m) g l := by
  obtain ⟨A, n, c, a, s, hg, hge, hR, hn, h0, h1, hB⟩ := h
  exact ⟨A, n, c, a, s, hg, hge, hR, hn, h0, h1, pw_below_drewN hB m⟩
theorem Cur.below {w0 W W' : World} {g : Nat} {l : Int} (h : Cur w0 W g l) (hb : Below W.heap.size W W') : Cur w0 W' g l := by
  obtain ⟨A, n, c, a, s, hg, hge, hR, hn, h0, h1, hB⟩ := h
  exact ⟨A, n, c, a, s, blk_below hg hb, hge, hR, hn, h0, h1, below_step hB hb⟩
theorem Cur.base {w0 W : World} {g : Nat} {l : Int} (h : Cur w0 W g l) : Below w0.heap.size w0 W := by
  obtain ⟨A, n, c, a, s, hg, hge, hR, hn, h0, h1, hB⟩ := h
  exact hB
theorem Cur.lt {w0 W : World} {g : Nat} {l : Int} (h : Cur w0 W g l) : g < W.heap.size := by
  obtain ⟨A, n, c, a, s, hg, hge, hR, hn, h0, h1, hB⟩ := h
  exact blk_lt hg

set_option maxHeartbeats 4000000 in
set_option maxRecDepth 100000 in
theorem pick (g : Nat) (lim n : Int) (w0 w : World) (h : Cur w0 w g lim) (hl : lim ≤ 1000000000) (hn : n ≤ 200) :
    Calls Tryd.prog 74 #[.pointer (some ⟨g, 0, none⟩), .int .i64 n] w fun e w' => (∃ x, e = .returned (.int .i64 x) ∧ 0 ≤ x ∧ (x < n ∨ x = 0)) ∧ Cur w0 w' g (lim + 1) ∧ KeepBut w w' g none := by
  by_cases h1 : n ≤ 1
  · have HC := Aside0.mk (h.more (show lim ≤ lim + 1 by omega))
    clear h
    go_enter Tryd.func74, Tryd.ntmps74
    go_wp2
    go_ret
    exact ⟨⟨0, rfl, by omega, .inr rfl⟩, HC.out, KeepBut.refl _ _ _⟩
  · have HN := Aside0.mk (next g lim w0 w h hl)
    have h2 : ¬ n > 200 := by omega
    have h3 : ¬ n = 0 := by omega
    have h4 : (n == 0) = false := beq_eq_false_iff_ne.mpr h3
    have HT := Aside0.mk (fun b : Int => (⟨Int.emod_nonneg b h3, .inl (Int.emod_lt_of_pos b (by omega))⟩ : 0 ≤ b % n ∧ (b % n < n ∨ b % n = 0)))
    clear h
    go_enter Tryd.func74, Tryd.ntmps74
    go_wp2_with fail
    refine HN.out.mono ?_
    rintro e w1 ⟨⟨b, rfl, hb0, hb1⟩, hC, hk⟩
    go_wp2_with fail
    go_ret
    exact ⟨⟨_, rfl, HT.out b⟩, hC, hk⟩

/-- An element of a row of whole numbers that stands in w. -/
def Ints (w : World) (A : Option Addr) (l : List Int) : Prop := ∀ i (h : i < l.length), ∃ ad, A = some ad ∧ w.cell? (ad.add i) = some (.int .i64 l[i])
set_option maxHeartbeats 4000000 in
set_option maxRecDepth 100000 in
theorem among (g : Nat) (lim : Int) (A : Option Addr) (c : Nat) (l : List Int) (w0 w : World) (h : Cur w0 w g lim) (hl : lim ≤ 1000000000) (hn : 0 < l.length) (hn2 : l.length ≤ 200) (hA : Ints w A l) (hne : ∀ ad, A = some ad → ad.block ≠ g) :
    Calls Tryd.prog 75 #[.pointer (some ⟨g, 0, none⟩), .slice A l.length c] w fun e w' => (∃ x, e = .returned (.int .i64 x) ∧ x ∈ l) ∧ Cur w0 w' g (lim + 1) ∧ KeepBut w w' g none := by
  have HP := Aside0.mk (pick g lim (l.length : Int) w0 w h hl (by omega))
  have HA := Aside0.mk hA
  have HE := Aside0.mk hne
  have HN := Aside0.mk hn
  obtain ⟨ad, rfl, hq⟩ := hA 0 hn
  clear hq
  clear h hA hne hn
  go_enter Tryd.func75, Tryd.ntmps75
  go_wp2_with fail
  refine HP.out.mono ?_
  rintro e w1 ⟨⟨x, rfl, hx0, hx1⟩, hC, hk⟩
  have hn := HN.out
  have hx2 : x < (l.length : Int) := by omega
  obtain ⟨m, rfl⟩ : ∃ m : Nat, x = (m : Int) := ⟨x.toNat, by omega⟩
  have hm : m < l.length := by omega
  obtain ⟨ad', e1, hc⟩ := HA.out m hm
  cases e1
  have hc1 := keep_cell hk hc (by rw [add_block]; exact HE.out ad rfl)
  have HM := Aside0.mk (List.getElem_mem hm)
  generalize l[m] = y at hc hc1 HM
  have HC := Aside0.mk hC
  have HK := Aside0.mk hk
  clear hc hC hk
  go_wp2_with fail
  go_ret
  exact ⟨⟨_, rfl, HM.out⟩, HC.out, HK.out⟩
end Go.Proofs.YthglhfhepooggaaDoor.Rdr
/-! (*spec.l1Cur).hour, of, digits at this program. Conditions: as next. -/
namespace Go.Proofs.YthglhfhepooggaaDoor.Rdr
set_option linter.unusedVariables false
set_option linter.unusedSimpArgs false
open Go.RowKit Go.Proofs.YthglhfhepooggaaDoorW.PrintWords Go.Proofs.YthglhfhepooggaaDoorW.PrintLast Go.Proofs.YthglhfhepooggaaDoorW.PrintMore

theorem keep_new {w w1 w2 : World} {g : Nat} (h : Below w.heap.size w w1) (k : KeepBut w1 w2 g none) : KeepBut w w2 g none :=
  ⟨Nat.le_trans h.size k.1, fun i hi hg hr => (k.2 i (Nat.lt_of_lt_of_le hi h.size) hg hr).trans (h.block i hi)⟩
def hours : List Int := [0, 1, 2, 3, 4, 5, 7, 9, 20, 1000, 1001, -1]
theorem ints_new (w : World) (l : List Int) (t : TypeId) : Ints (w.alloc (.cells (l.map fun x => Value.int .i64 x).toArray t)) (some ⟨w.heap.size, 0, none⟩) l := by
  intro i h
  refine ⟨_, rfl, ?_⟩
  rw [add_plain, blk_cell (blk_new w _) i]
  simp [h]
set_option maxHeartbeats 4000000 in
set_option maxRecDepth 100000 in
theorem hour (g : Nat) (lim : Int) (w0 w : World) (h : Cur w0 w g lim) (hl : lim ≤ 1000000000) :
    Calls Tryd.prog 73 #[.pointer (some ⟨g, 0, none⟩)] w fun e w' => (∃ x, e = .returned (.int .i64 x) ∧ x ∈ hours) ∧ Cur w0 w' g (lim + 1) ∧ KeepBut w w' g none := by
  have HA := Aside0.mk (among g lim (some ⟨w.heap.size, 0, none⟩) 12 hours w0 (w.alloc (.cells (hours.map fun x => Value.int .i64 x).toArray 3)) (h.below (below_alloc (Below.refl _ _) _)) hl (by decide) (by decide) (ints_new w hours 3) (by intro ad e; cases e; exact Nat.ne_of_gt h.lt))
  clear h
  go_enter Tryd.func73, Tryd.ntmps73
  go_wp2_with fail
  refine HA.out.mono ?_
  rintro e w1 ⟨⟨x, rfl, hx⟩, hC, hk⟩
  go_wp2_with fail
  go_ret
  exact ⟨⟨_, rfl, hx⟩, hC, keep_new (below_alloc (Below.refl _ _) _) hk⟩
end Go.Proofs.YthglhfhepooggaaDoor.Rdr
/-! (*spec.l1Cur).digits and of at this program. Conditions: as next. -/
namespace Go.Proofs.YthglhfhepooggaaDoor.Rdr
set_option linter.unusedVariables false
set_option linter.unusedSimpArgs false
open Go.RowKit Go.Proofs.YthglhfhepooggaaDoorW.PrintWords Go.Proofs.YthglhfhepooggaaDoorW.PrintLast Go.Proofs.YthglhfhepooggaaDoorW.PrintMore

/-- The digits: a text of at most most + 0 signs, each the text of a number below highest + 1. -/
theorem num_small (v : Int) (w : World) (h0 : 0 ≤ v) (h1 : v ≤ 9) : Calls Tryd.prog 56 #[.int .i64 v] w fun e w' => e = .returned (.string (strOfNums [48 + v])) ∧ Below w.heap.size w w' := by
  refine PFnTidesDry.spec_l1Num.calls 1 v _ w ?_
  simp only [PFnTidesDry.spec_l1Num.f]
  rw [if_pos (by omega), w_id (by omega) (by omega), show (48 + v) % 256 = 48 + v by omega]
set_option maxHeartbeats 4000000 in
set_option maxRecDepth 100000 in
theorem digits (g : Nat) (lim m hi : Int) (w0 w : World) (h : Cur w0 w g lim) (hl : lim ≤ 100000000) (hm : 1 ≤ m) (hm2 : m ≤ 20) (hh : 0 ≤ hi) (hh2 : hi ≤ 9) :
    Calls Tryd.prog 94 #[.pointer (some ⟨g, 0, none⟩), .int .i64 m, .int .i64 hi] w fun e w' => (∃ s : ByteArray, e = .returned (.string s) ∧ (s.size : Int) ≤ m) ∧ Cur w0 w' g (lim + 30) ∧ KeepBut w w' g none := by
  have HP := Aside0.mk (pick g lim m w0 w h (by omega) (by omega))
  have HM := Aside0.mk hm
  have HL := Aside0.mk hl
  have HH := Aside0.mk (show wrap64 (hi + 1) = hi + 1 from w_id (by omega) (by omega))
  have HP2 := Aside0.mk (fun (lm : Int) (W : World) (hC : Cur w0 W g lm) (q : lm ≤ 1000000000) => pick g lm (hi + 1) w0 W hC q (by omega))
  have HB := Aside0.mk (show hi + 1 ≤ 10 ∧ 0 < hi + 1 by omega)
  have HM2 := Aside0.mk hm2
  have hw := HH.out
  clear h hm hl hh hh2 hm2
  go_enter Tryd.func94, Tryd.ntmps94
  go_wp2_with fail
  refine HP.out.mono ?_
  rintro e w1 ⟨⟨x, rfl, hx0, hx1⟩, hC, hk⟩
  have HX : Aside0 (0 ≤ x ∧ x < m) := ⟨by have := HM.out; omega⟩
  have hwx : wrap64 (1 + x) = 1 + x := w_id (by have := HX.out; omega) (by have := HX.out; have := HM2.out; omega)
  have HC := Aside0.mk hC
  have HK := Aside0.mk hk
  clear hC hk hx0 hx1
  have HW1 := Aside0.mk hwx
  clear hwx
  go_wp2_with fail
  go_loopw [7, 8] (fun v7 v8 wr => ∃ (s : ByteArray) (k : Int), v7 = .string s ∧ v8 = .int .i64 k ∧ Aside0 (0 ≤ k ∧ (s.size : Int) + k = 1 + x) ∧ Aside0 (Cur w0 wr g (lim + 1 + s.size)) ∧ Aside0 (KeepBut w wr g none)) (fun _ v8 _ => (intOf v8).toNat)
  case atStart => exact ⟨⟨#[]⟩, wrap64 (1 + x), rfl, rfl, ⟨by have := HX.out; rw [HW1.out]; exact ⟨by omega, by show ((0 : Nat) : Int) + (1 + x) = 1 + x; omega⟩⟩, ⟨HC.out.more (by have h_ : 0 ≤ (((⟨#[]⟩ : ByteArray).size : Nat) : Int) := Int.natCast_nonneg _; omega)⟩, HK⟩
  case round =>
    clear HC HK
    obtain ⟨s, k, rfl, rfl, HS, HC, HK⟩ := hrel
    by_cases hk : k > 0
    · have hlm : lim + 1 + s.size ≤ 1000000000 := by have := HS.out; have := HX.out; have := HM2.out; have := HL.out; omega
      have hws : wrap64 (k - 1) = k - 1 := w_id (by omega) (by have := HS.out; have := HX.out; have := HM2.out; omega)
      have HP3 := Aside0.mk (HP2.out _ wr HC.out hlm)
      clear hlm
      go_wp2_with fail
      refine HP3.out.mono ?_
      rintro e w2 ⟨⟨y, rfl, hy0, hy1⟩, hC, hk2⟩
      have HY : Aside0 (0 ≤ y ∧ y ≤ 9) := ⟨by have := HB.out; omega⟩
      have HN := Aside0.mk (num_small y w2 HY.out.1 HY.out.2)
      have HC2 := Aside0.mk hC
      have HK2 := Aside0.mk (KeepBut.trans HK.out hk2 (.inl rfl))
      clear hC hk2 hy0 hy1
      go_wp2_with fail
      refine HN.out.mono ?_
      rintro e w3 ⟨rfl, hb⟩
      have HC3 := Aside0.mk (HC2.out.below hb)
      have HK3 := Aside0.mk (KeepBut.trans HK2.out (KeepBut.of_below hb g none) (.inl rfl))
      have c1 : s.size + 1 ≤ 9223372036854775807 := by have := HS.out; have := HX.out; have := HM2.out; omega
      have c2 : ¬ 9223372036854775807 < s.size + 1 := by omega
      have c3 : (strOfNums [48 + y]).size = 1 := rfl
      generalize strOfNums [48 + y] = u at c3
      clear hb
      go_wp2_with fail
      go_roundw
      case rel => exact ⟨s ++ u, k - 1, rfl, by rw [hws], ⟨by have := HS.out; rw [ByteArray.size_append, c3]; omega⟩, ⟨by rw [ByteArray.size_append, c3]; exact HC3.out.more (by omega)⟩, HK3⟩
      case measure => (try rw [hws]); simp [intOf]; omega
    · go_wp2
      go_ret
      exact ⟨⟨s, rfl, by have := HS.out; have := HX.out; omega⟩, HC.out.more (by have := HS.out; have := HX.out; have := HM2.out; omega), HK.out⟩

def Strs (w : World) (A : Option Addr) (l : List ByteArray) : Prop := ∀ i (h : i < l.length), ∃ ad, A = some ad ∧ w.cell? (ad.add i) = some (.string l[i])
theorem strs_new (w : World) (l : List ByteArray) (t : TypeId) : Strs (w.alloc (.cells (l.map fun x => Value.string x).toArray t)) (some ⟨w.heap.size, 0, none⟩) l := by
  intro i h
  refine ⟨_, rfl, ?_⟩
  rw [add_plain, blk_cell (blk_new w _) i]
  simp [h]
set_option maxHeartbeats 4000000 in
set_option maxRecDepth 100000 in
theorem of_ (g : Nat) (lim : Int) (A : Option Addr) (c : Nat) (l : List ByteArray) (w0 w : World) (h : Cur w0 w g lim) (hl : lim ≤ 1000000000) (hn : 0 < l.length) (hn2 : l.length ≤ 200) (hA : Strs w A l) (hne : ∀ ad, A = some ad → ad.block ≠ g) :
    Calls Tryd.prog 92 #[.pointer (some ⟨g, 0, none⟩), .slice A l.length c] w fun e w' => (∃ x, e = .returned (.string x) ∧ x ∈ l) ∧ Cur w0 w' g (lim + 1) ∧ KeepBut w w' g none := by
  have HP := Aside0.mk (pick g lim (l.length : Int) w0 w h hl (by omega))
  have HA := Aside0.mk hA
  have HE := Aside0.mk hne
  have HN := Aside0.mk hn
  obtain ⟨ad, rfl, hq⟩ := hA 0 hn
  clear hq
  clear h hA hne hn
  go_enter Tryd.func92, Tryd.ntmps92
  go_wp2_with fail
  refine HP.out.mono ?_
  rintro e w1 ⟨⟨x, rfl, hx0, hx1⟩, hC, hk⟩
  have hn := HN.out
  have hx2 : x < (l.length : Int) := by omega
  obtain ⟨m, rfl⟩ : ∃ m : Nat, x = (m : Int) := ⟨x.toNat, by omega⟩
  have hm : m < l.length := by omega
  obtain ⟨ad', e1, hc⟩ := HA.out m hm
  cases e1
  have hc1 := keep_cell hk hc (by rw [add_block]; exact HE.out ad rfl)
  have HM := Aside0.mk (List.getElem_mem hm)
  generalize l[m] = y at hc hc1 HM
  have HC := Aside0.mk hC
  have HK := Aside0.mk hk
  clear hc hC hk
  go_wp2_with fail
  go_ret
  exact ⟨⟨_, rfl, HM.out⟩, HC.out, HK.out⟩
end Go.Proofs.YthglhfhepooggaaDoor.Rdr
/-! (*spec.l1Cur).spoilt at this program: some text, at most two bytes longer. Conditions: as next; texts of at most 40 bytes. -/
namespace Go.Proofs.YthglhfhepooggaaDoor.Rdr
set_option linter.unusedVariables false
set_option linter.unusedSimpArgs false
open Go.RowKit Go.Proofs.YthglhfhepooggaaDoorW.PrintWords Go.Proofs.YthglhfhepooggaaDoorW.PrintLast Go.Proofs.YthglhfhepooggaaDoorW.PrintMore

theorem ext_size (s : ByteArray) (a b : Nat) (h : a ≤ b) (hb : b ≤ s.size) : (s.extract a b).size = b - a := by
  rw [ByteArray.size_extract]; omega
set_option maxHeartbeats 4000000 in
set_option maxRecDepth 100000 in
theorem spoilt (g : Nat) (lim : Int) (t u : ByteArray) (w0 w : World) (h : Cur w0 w g lim) (hl : lim ≤ 100000000) (ht : t.size ≤ 40) (hu : 0 < u.size) (hu2 : u.size ≤ 40) :
    Calls Tryd.prog 93 #[.pointer (some ⟨g, 0, none⟩), .string t, .string u] w fun e w' => (∃ s : ByteArray, e = .returned (.string s) ∧ s.size ≤ 42) ∧ Cur w0 w' g (lim + 10) ∧ KeepBut w w' g none := by
  have HP := Aside0.mk (pick g lim 2 w0 w h (by omega) (by omega))
  have HL := Aside0.mk hl
  have HT := Aside0.mk ht
  have HU := Aside0.mk (And.intro hu hu2)
  have HP2 := Aside0.mk (fun (lm n : Int) (W : World) (hC : Cur w0 W g lm) (q : lm ≤ 1000000000) (r : n ≤ 200) => pick g lm n w0 W hC q r)
  clear h hl ht hu hu2
  go_enter Tryd.func93, Tryd.ntmps93
  go_wp2_with fail
  refine HP.out.mono ?_
  rintro e w1 ⟨⟨x, rfl, hx0, hx1⟩, hC, hk⟩
  have HX : Aside0 (0 ≤ x ∧ x ≤ 1) := ⟨by omega⟩
  have hwx : wrap64 (1 + x) = 1 + x := w_id (by omega) (by omega)
  have HC := Aside0.mk hC
  have HK := Aside0.mk hk
  clear hC hk hx0 hx1
  have HW1 := Aside0.mk hwx
  clear hwx
  go_wp2_with fail
  go_loopw [1, 7] (fun v1 v7 wr => ∃ (s : ByteArray) (k : Int), v1 = .string s ∧ v7 = .int .i64 k ∧ Aside0 (0 ≤ k ∧ k ≤ 2 ∧ (s.size : Int) + k ≤ 42) ∧ Aside0 (Cur w0 wr g (lim + 1 + 3 * (2 - k))) ∧ Aside0 (KeepBut w wr g none)) (fun _ v7 _ => (intOf v7).toNat)
  case atStart => exact ⟨t, wrap64 (1 + x), rfl, rfl, ⟨by have := HX.out; have := HT.out; rw [HW1.out]; omega⟩, ⟨HC.out.more (by have := HX.out; rw [HW1.out]; omega)⟩, HK⟩
  case round =>
    clear HC HK
    obtain ⟨s, k, rfl, rfl, HS, HC, HK⟩ := hrel
    by_cases hk : k > 0
    · have hk0 : decide (0 < k) = true := decide_eq_true hk
      by_cases hs : 0 < s.size
      · have hs0 : decide ((0 : Int) < (s.size : Int)) = true := decide_eq_true (by omega)
        have hs1 : decide (0 < s.size) = true := decide_eq_true hs
        have hlm : lim + 1 + 3 * (2 - k) ≤ 1000000000 := by have := HS.out; have := HL.out; omega
        have hws : wrap64 (k - 1) = k - 1 := w_id (by omega) (by have := HS.out; omega)
        have HP3 := Aside0.mk (HP2.out _ (s.size : Int) wr HC.out hlm (by have := HS.out; omega))
        have HPu := Aside0.mk (fun W (hC : Cur w0 W g (lim + 1 + 3 * (2 - k) + 1)) => HP2.out _ (u.size : Int) W hC (by have := HS.out; have := HL.out; omega) (by have := HU.out; omega))
        have HP4 := Aside0.mk (fun W (hC : Cur w0 W g (lim + 1 + 3 * (2 - k) + 1 + 1)) => HP2.out _ 3 W hC (by have := HS.out; have := HL.out; omega) (by omega))
        clear hlm
        go_wp2_with fail
        refine HP3.out.mono ?_
        rintro e w2 ⟨⟨y, rfl, hy0, hy1⟩, hC, hk2⟩
        have HY : Aside0 (0 ≤ y ∧ y < (s.size : Int)) := ⟨by omega⟩
        have HK2 := Aside0.mk (KeepBut.trans HK.out hk2 (.inl rfl))
        have HC2 := Aside0.mk hC
        clear hC hk2 hy0 hy1
        go_wp2_with fail
        refine (HPu.out _ HC2.out).mono ?_
        rintro e w3 ⟨⟨z, rfl, hz0, hz1⟩, hC, hk3⟩
        have HZ : Aside0 (0 ≤ z ∧ z < (u.size : Int)) := ⟨by have := HU.out; omega⟩
        have HK3 := Aside0.mk (KeepBut.trans HK2.out hk3 (.inl rfl))
        have HC3 := Aside0.mk hC
        clear hC hk3 hz0 hz1
        have hx13 := bt_at u z
        have p13 := eq_true HZ.out.1
        have q13 := eq_true HZ.out.2
        go_wp2_with (((with_reducible refine gate_dst (N := 32) rfl ?_); refine Kd.R_lit (Kd.int .u8) _ 5 ?hg (N := 32) ?hd (xs := ([bt u z] : List Int)) (inner := [.int .u8 (bt u z)]) (ok := fun _ => True) (okp := fun _ => True) ?hr ?hp (fun _ hk => hk) trivial (Below.refl _ _) (Nat.le_refl _) (by simp) ?_; (case hd => rfl); (case hg => rfl); (case hr => first | (go_simp; done) | (go_simp; rfl)); (case hp => exact (Reps.one (show Kd.M (Kd.int .u8) _ _ _ (bt u z) [.int .u8 (bt u z)] from rfl) (Reps.none _ _))); intro v198 w50 ho51 hb hg_ hnew_; clear hg_ hnew_; have HO := Aside0.mk ho51; have HC4 := Aside0.mk (HC3.out.below hb); have HK4 := Aside0.mk (KeepBut.trans HK3.out (KeepBut.of_below hb g none) (.inl rfl)); clear hb ho51; have hcv52 := own_string (P := Tryd.prog) Tryd.underlying40 Tryd.underlying5 Tryd.underlying9 (Kd.own_of_R HO.out)))
        refine (HP4.out _ HC4.out).mono ?_
        rintro e w5 ⟨⟨r, rfl, hr0, hr1⟩, hC, hk5⟩
        have HK5 := Aside0.mk (KeepBut.trans HK4.out hk5 (.inl rfl))
        have HC5 := Aside0.mk hC
        have HR : Aside0 (0 ≤ r ∧ r < 3) := ⟨by omega⟩
        clear hC hk5 hr0 hr1 hx13 p13 q13 hcv52
        have hcz : (strOfNums [bt u z]).size = 1 := rfl
        generalize strOfNums [bt u z] = c at hcz
        obtain ⟨m, rfl⟩ : ∃ m : Nat, y = (m : Int) := ⟨y.toNat, by have := HY.out; omega⟩
        have hm : m < s.size := by have := HY.out; omega
        have hm0 := eq_true (show (m : Int) ≤ (s.size : Int) by omega)
        have hm1 := eq_true (show m ≤ s.size by omega)
        have hm2 := eq_true (show m + 1 ≤ s.size by omega)
        have hwm : wrap64 ((m : Int) + 1) = ((m + 1 : Nat) : Int) := w_id (by omega) (by have := HS.out; omega)
        have e1 := ext_size s 0 m (by omega) (by omega)
        have e2 := ext_size s m s.size (by omega) (by omega)
        have e3 := ext_size s (m + 1) s.size (by omega) (by omega)
        have S1 := Aside0.mk (show (s.extract 0 m ++ c ++ s.extract m s.size).size = s.size + 1 by rw [ByteArray.size_append, ByteArray.size_append, e1, e2, hcz]; omega)
        have S2 := Aside0.mk (show (s.extract 0 m ++ c ++ s.extract (m + 1) s.size).size = s.size by rw [ByteArray.size_append, ByteArray.size_append, e1, e3, hcz]; omega)
        have S3 := Aside0.mk (show (s.extract 0 m ++ s.extract (m + 1) s.size).size + 1 = s.size by rw [ByteArray.size_append, e1, e3]; omega)
        have f1 : (s.extract 0 m).size + c.size ≤ 9223372036854775807 := by rw [e1, hcz]; have := HS.out; omega
        have f2 : (s.extract 0 m ++ c).size + (s.extract m s.size).size ≤ 9223372036854775807 := by rw [ByteArray.size_append, e1, e2, hcz]; have := HS.out; omega
        have f3 : (s.extract 0 m ++ c).size + (s.extract (m + 1) s.size).size ≤ 9223372036854775807 := by rw [ByteArray.size_append, e1, e3, hcz]; have := HS.out; omega
        have f4 : (s.extract 0 m).size + (s.extract (m + 1) s.size).size ≤ 9223372036854775807 := by rw [e1, e3]; have := HS.out; omega
        have g1 := eq_false (Nat.not_lt.2 f1)
        have g2 := eq_false (Nat.not_lt.2 f2)
        have g3 := eq_false (Nat.not_lt.2 f3)
        have g4 := eq_false (Nat.not_lt.2 f4)
        have b1 := decide_eq_true f1
        have b2 := decide_eq_true f2
        have b3 := decide_eq_true f3
        have b4 := decide_eq_true f4
        clear e1 e2 e3
        by_cases r0 : r = 0
        · have r1 : (r == 0) = true := beq_iff_eq.mpr r0
          clear r0
          go_wp2
          repeat (go_quiet (fail); try go_wp2)
          go_roundw
          case rel => exact ⟨_, k - 1, rfl, by rw [hws], ⟨by have := HS.out; rw [S1.out]; omega⟩, ⟨(HC5.out.drewN _).more (by omega)⟩, ⟨by repeat (first | (with_reducible exact HK5.out) | apply keep_drewN)⟩⟩
          case measure => (try rw [hws]); simp [intOf]; omega
        · have r1 : (r == 0) = false := beq_eq_false_iff_ne.mpr r0
          by_cases q0 : r = 1
          · have q1 : (r == 1) = true := beq_iff_eq.mpr q0
            clear r0 q0
            go_wp2
            repeat (go_quiet (fail); try go_wp2)
            go_roundw
            case rel => exact ⟨_, k - 1, rfl, by rw [hws], ⟨by have := HS.out; rw [S2.out]; omega⟩, ⟨(HC5.out.drewN _).more (by omega)⟩, ⟨by repeat (first | (with_reducible exact HK5.out) | apply keep_drewN)⟩⟩
            case measure => (try rw [hws]); simp [intOf]; omega
          · have q1 : (r == 1) = false := beq_eq_false_iff_ne.mpr q0
            clear r0 q0
            go_wp2
            repeat (go_quiet (fail); try go_wp2)
            go_roundw
            case rel => exact ⟨_, k - 1, rfl, by rw [hws], ⟨by have := HS.out; have := S3.out; omega⟩, ⟨(HC5.out.drewN _).more (by omega)⟩, ⟨by repeat (first | (with_reducible exact HK5.out) | apply keep_drewN)⟩⟩
            case measure => (try rw [hws]); simp [intOf]; omega
      · have hs0 : decide ((0 : Int) < (s.size : Int)) = false := decide_eq_false (by omega)
        have hs1 : decide (0 < s.size) = false := decide_eq_false hs
        clear hs
        go_wp2
        go_ret
        exact ⟨⟨s, rfl, by have := HS.out; omega⟩, HC.out.more (by have := HS.out; omega), HK.out⟩
    · have hk0 : decide (0 < k) = false := decide_eq_false hk
      go_wp2
      go_ret
      exact ⟨⟨s, rfl, by have := HS.out; omega⟩, HC.out.more (by have := HS.out; omega), HK.out⟩
end Go.Proofs.YthglhfhepooggaaDoor.Rdr
/-! (*spec.l1Cur).shore and tide at this program: some text of at most 42 bytes. Conditions: as next. -/
namespace Go.Proofs.YthglhfhepooggaaDoor.Rdr
set_option linter.unusedVariables false
set_option linter.unusedSimpArgs false
open Go.RowKit Go.Proofs.YthglhfhepooggaaDoorW.PrintWords Go.Proofs.YthglhfhepooggaaDoorW.PrintLast Go.Proofs.YthglhfhepooggaaDoorW.PrintMore

def shores : List ByteArray := [⟨#[]⟩, ⟨#[120]⟩, ⟨#[49, 32, 50]⟩, ⟨#[57, 57, 57, 57, 57, 57, 57, 57, 57, 57, 57, 57, 57, 57]⟩, ⟨#[49, 49, 49, 49, 49, 49, 49, 49, 49, 49, 49, 49, 49, 49, 49]⟩]
set_option maxHeartbeats 4000000 in
set_option maxRecDepth 100000 in
theorem shore (g : Nat) (lim : Int) (w0 w : World) (h : Cur w0 w g lim) (hl : lim ≤ 1000000) :
    Calls Tryd.prog 71 #[.pointer (some ⟨g, 0, none⟩)] w fun e w' => (∃ s : ByteArray, e = .returned (.string s) ∧ s.size ≤ 42) ∧ Cur w0 w' g (lim + 50) ∧ KeepBut w w' g none := by
  have HP := Aside0.mk (pick g lim 18 w0 w h (by omega) (by omega))
  have HA := Aside0.mk (fun (W : World) (hC : Cur w0 W g (lim + 1)) => of_ g (lim + 1) (some ⟨W.heap.size, 0, none⟩) 5 shores w0 (W.alloc (.cells (shores.map fun x => Value.string x).toArray 9)) (hC.below (below_alloc (Below.refl _ _) _)) (by omega) (by decide) (by decide) (strs_new W shores 9) (by intro ad e; cases e; exact Nat.ne_of_gt hC.lt))
  have HD := Aside0.mk (fun (W : World) (hC : Cur w0 W g (lim + 1)) => digits g (lim + 1) 7 5 w0 W hC (by omega) (by omega) (by omega) (by omega) (by omega))
  have HS := Aside0.mk (fun (s u : ByteArray) (W : World) (hC : Cur w0 W g (lim + 1 + 30)) (hs : s.size ≤ 40) (hu : 0 < u.size) (hu2 : u.size ≤ 40) => spoilt g (lim + 1 + 30) s u w0 W hC (by omega) hs hu hu2)
  have HQ : Aside0 (∀ x ∈ shores, x.size ≤ 42) := ⟨by decide⟩
  clear h
  go_enter Tryd.func71, Tryd.ntmps71
  go_wp2_with fail
  refine HP.out.mono ?_
  rintro e w1 ⟨⟨x, rfl, hx0, hx1⟩, hC, hk⟩
  have HC := Aside0.mk hC
  have HK := Aside0.mk hk
  clear hC hk hx0 hx1
  by_cases r0 : x = 0
  · have r1 : (x == 0) = true := beq_iff_eq.mpr r0
    clear r0
    go_wp2_with fail
    refine (HA.out _ HC.out).mono ?_
    rintro e w2 ⟨⟨s, rfl, hs⟩, hC2, hk2⟩
    have HZ := Aside0.mk (HQ.out s hs)
    have HC2 := Aside0.mk hC2
    have HK2 := Aside0.mk (KeepBut.trans HK.out (keep_new (below_alloc (Below.refl _ _) _) hk2) (.inl rfl))
    clear hC2 hk2 hs
    go_wp2_with fail
    go_ret
    exact ⟨⟨_, rfl, HZ.out⟩, HC2.out.more (by omega), HK2.out⟩
  · have r1 : (x == 0) = false := beq_eq_false_iff_ne.mpr r0
    by_cases q0 : x = 1
    · have q1 : (x == 1) = true := beq_iff_eq.mpr q0
      clear r0 q0
      go_wp2_with fail
      refine (HD.out _ HC.out).mono ?_
      rintro e w2 ⟨⟨s, rfl, hs⟩, hC2, hk2⟩
      have HZ := Aside0.mk (show s.size ≤ 40 by omega)
      have HC2 := Aside0.mk hC2
      have HK2 := Aside0.mk (KeepBut.trans HK.out hk2 (.inl rfl))
      clear hC2 hk2 hs
      go_wp2_with fail
      refine (HS.out s _ _ HC2.out HZ.out (by decide) (by decide)).mono ?_
      rintro e w3 ⟨⟨s2, rfl, hs⟩, hC2, hk2⟩
      have HZ3 := Aside0.mk hs
      have HC3 := Aside0.mk hC2
      have HK3 := Aside0.mk (KeepBut.trans HK2.out hk2 (.inl rfl))
      clear hC2 hk2 hs
      go_wp2_with fail
      go_ret
      exact ⟨⟨_, rfl, HZ3.out⟩, HC3.out.more (by omega), HK3.out⟩
    · have q1 : (x == 1) = false := beq_eq_false_iff_ne.mpr q0
      clear r0 q0
      go_wp2_with fail
      refine (HD.out _ HC.out).mono ?_
      rintro e w2 ⟨⟨s, rfl, hs⟩, hC2, hk2⟩
      have HZ := Aside0.mk (show s.size ≤ 42 by omega)
      have HC2 := Aside0.mk hC2
      have HK2 := Aside0.mk (KeepBut.trans HK.out hk2 (.inl rfl))
      clear hC2 hk2 hs
      go_wp2_with fail
      go_ret
      exact ⟨⟨_, rfl, HZ.out⟩, HC2.out.more (by omega), HK2.out⟩

def tides : List ByteArray := [⟨#[]⟩, ⟨#[120]⟩, ⟨#[49, 45]⟩, ⟨#[57, 57, 57, 57, 57, 57, 57, 57, 57, 57, 57, 57]⟩, ⟨#[49, 49, 49, 49, 49, 49, 49, 49, 49, 49, 49, 49, 49]⟩]
set_option maxHeartbeats 4000000 in
set_option maxRecDepth 100000 in
theorem tide (g : Nat) (lim : Int) (w0 w : World) (h : Cur w0 w g lim) (hl : lim ≤ 1000000) :
    Calls Tryd.prog 72 #[.pointer (some ⟨g, 0, none⟩)] w fun e w' => (∃ s : ByteArray, e = .returned (.string s) ∧ s.size ≤ 42) ∧ Cur w0 w' g (lim + 50) ∧ KeepBut w w' g none := by
  have HP := Aside0.mk (pick g lim 18 w0 w h (by omega) (by omega))
  have HA := Aside0.mk (fun (W : World) (hC : Cur w0 W g (lim + 1)) => of_ g (lim + 1) (some ⟨W.heap.size, 0, none⟩) 5 tides w0 (W.alloc (.cells (tides.map fun x => Value.string x).toArray 9)) (hC.below (below_alloc (Below.refl _ _) _)) (by omega) (by decide) (by decide) (strs_new W tides 9) (by intro ad e; cases e; exact Nat.ne_of_gt hC.lt))
  have HD := Aside0.mk (fun (W : World) (hC : Cur w0 W g (lim + 1)) => digits g (lim + 1) 4 4 w0 W hC (by omega) (by omega) (by omega) (by omega) (by omega))
  have HS := Aside0.mk (fun (s u : ByteArray) (W : World) (hC : Cur w0 W g (lim + 1 + 30)) (hs : s.size ≤ 40) (hu : 0 < u.size) (hu2 : u.size ≤ 40) => spoilt g (lim + 1 + 30) s u w0 W hC (by omega) hs hu hu2)
  have HQ : Aside0 (∀ x ∈ tides, x.size ≤ 42) := ⟨by decide⟩
  clear h
  go_enter Tryd.func72, Tryd.ntmps72
  go_wp2_with fail
  refine HP.out.mono ?_
  rintro e w1 ⟨⟨x, rfl, hx0, hx1⟩, hC, hk⟩
  have HC := Aside0.mk hC
  have HK := Aside0.mk hk
  clear hC hk hx0 hx1
  by_cases r0 : x = 0
  · have r1 : (x == 0) = true := beq_iff_eq.mpr r0
    clear r0
    go_wp2_with fail
    refine (HA.out _ HC.out).mono ?_
    rintro e w2 ⟨⟨s, rfl, hs⟩, hC2, hk2⟩
    have HZ := Aside0.mk (HQ.out s hs)
    have HC2 := Aside0.mk hC2
    have HK2 := Aside0.mk (KeepBut.trans HK.out (keep_new (below_alloc (Below.refl _ _) _) hk2) (.inl rfl))
    clear hC2 hk2 hs
    go_wp2_with fail
    go_ret
    exact ⟨⟨_, rfl, HZ.out⟩, HC2.out.more (by omega), HK2.out⟩
  · have r1 : (x == 0) = false := beq_eq_false_iff_ne.mpr r0
    by_cases q0 : x = 1
    · have q1 : (x == 1) = true := beq_iff_eq.mpr q0
      clear r0 q0
      go_wp2_with fail
      refine (HD.out _ HC.out).mono ?_
      rintro e w2 ⟨⟨s, rfl, hs⟩, hC2, hk2⟩
      have HZ := Aside0.mk (show s.size ≤ 40 by omega)
      have HC2 := Aside0.mk hC2
      have HK2 := Aside0.mk (KeepBut.trans HK.out hk2 (.inl rfl))
      clear hC2 hk2 hs
      go_wp2_with fail
      refine (HS.out s _ _ HC2.out HZ.out (by decide) (by decide)).mono ?_
      rintro e w3 ⟨⟨s2, rfl, hs⟩, hC2, hk2⟩
      have HZ3 := Aside0.mk hs
      have HC3 := Aside0.mk hC2
      have HK3 := Aside0.mk (KeepBut.trans HK2.out hk2 (.inl rfl))
      clear hC2 hk2 hs
      go_wp2_with fail
      go_ret
      exact ⟨⟨_, rfl, HZ3.out⟩, HC3.out.more (by omega), HK3.out⟩
    · have q1 : (x == 1) = false := beq_eq_false_iff_ne.mpr q0
      clear r0 q0
      go_wp2_with fail
      refine (HD.out _ HC.out).mono ?_
      rintro e w2 ⟨⟨s, rfl, hs⟩, hC2, hk2⟩
      have HZ := Aside0.mk (show s.size ≤ 42 by omega)
      have HC2 := Aside0.mk hC2
      have HK2 := Aside0.mk (KeepBut.trans HK.out hk2 (.inl rfl))
      clear hC2 hk2 hs
      go_wp2_with fail
      go_ret
      exact ⟨⟨_, rfl, HZ.out⟩, HC2.out.more (by omega), HK2.out⟩
end Go.Proofs.YthglhfhepooggaaDoor.Rdr
/-! The Draw functions at this program: some texts of at most 42 bytes, some small numbers; nothing that lay before is turned. Conditions: the row of bytes stands, of at most 10^12 bytes. -/
namespace Go.Proofs.YthglhfhepooggaaDoor.Rdr
set_option linter.unusedVariables false
set_option linter.unusedSimpArgs false
open Go.RowKit Go.Proofs.YthglhfhepooggaaDoorW.PrintWords Go.Proofs.YthglhfhepooggaaDoorW.PrintLast Go.Proofs.YthglhfhepooggaaDoorW.PrintMore

theorem cur_new (A : Option Addr) (n c : Nat) (w : World) (hR : Row w A n) (hn : n ≤ 1000000000000) : Cur w (w.alloc (blk A n c 0 0)) w.heap.size 0 :=
  ⟨A, n, c, 0, 0, blk_new w _, Nat.le_refl _, hR, hn, by omega, by omega, below_alloc (Below.refl _ _) _⟩

set_option maxHeartbeats 4000000 in
set_option maxRecDepth 100000 in
theorem draw39 (A : Option Addr) (n c : Nat) (w : World) (hR : Row w A n) (hn : n ≤ 1000000000000) :
    Calls Tryd.prog 39 #[.slice A n c] w fun e w' => ∃ (s t : ByteArray) (h : Int), e = .returned (.tuple #[.string s, .string t, .int .i64 h]) ∧ s.size ≤ 42 ∧ t.size ≤ 42 ∧ h ∈ hours ∧ Below w.heap.size w w' := by
  have H1 := Aside0.mk (shore w.heap.size 0 w _ (cur_new A n c w hR hn) (by omega))
  have H2 := Aside0.mk (fun W (hC : Cur w W w.heap.size (0 + 50)) => tide w.heap.size _ w W hC (by omega))
  have H3 := Aside0.mk (fun W (hC : Cur w W w.heap.size (0 + 50 + 50)) => hour w.heap.size _ w W hC (by omega))
  clear hR hn
  go_enter Tryd.func39, Tryd.ntmps39
  go_wp2_with fail
  refine H1.out.mono ?_
  rintro e w1 ⟨⟨s, rfl, hs⟩, hC, hk⟩
  have HC := Aside0.mk hC
  have HS := Aside0.mk hs
  clear hC hk hs
  go_wp2_with fail
  refine (H2.out _ HC.out).mono ?_
  rintro e w2 ⟨⟨t, rfl, hs⟩, hC, hk⟩
  have HC2 := Aside0.mk hC
  have HT := Aside0.mk hs
  clear hC hk hs
  go_wp2_with fail
  refine (H3.out _ HC2.out).mono ?_
  rintro e w3 ⟨⟨h, rfl, hs⟩, hC, hk⟩
  have HC3 := Aside0.mk hC
  have HH := Aside0.mk hs
  clear hC hk hs
  go_wp2_with fail
  go_ret3
  exact ⟨s, t, h, rfl, HS.out, HT.out, HH.out, HC3.out.base⟩

set_option maxHeartbeats 4000000 in
set_option maxRecDepth 100000 in
theorem draw44 (A : Option Addr) (n c : Nat) (w : World) (hR : Row w A n) (hn : n ≤ 1000000000000) :
    Calls Tryd.prog 44 #[.slice A n c] w fun e w' => ∃ (s t : ByteArray) (p : Int), e = .returned (.tuple #[.string s, .string t, .int .i64 p]) ∧ s.size ≤ 42 ∧ t.size ≤ 42 ∧ Below w.heap.size w w' := by
  have H1 := Aside0.mk (shore w.heap.size 0 w _ (cur_new A n c w hR hn) (by omega))
  have H2 := Aside0.mk (fun W (hC : Cur w W w.heap.size (0 + 50)) => tide w.heap.size _ w W hC (by omega))
  have H3 := Aside0.mk (fun (m : Int) W (hC : Cur w W w.heap.size (0 + 50 + 50)) (hm : m ≤ 200) => pick w.heap.size _ m w W hC (by omega) hm)
  have H4 := Aside0.mk (fun W (hC : Cur w W w.heap.size (0 + 50 + 50 + 1)) => pick w.heap.size _ 9 w W hC (by omega) (by omega))
  clear hR hn
  go_enter Tryd.func44, Tryd.ntmps44
  go_wp2_with fail
  refine H1.out.mono ?_
  rintro e w1 ⟨⟨s, rfl, hs⟩, hC, hk⟩
  have HC := Aside0.mk hC
  have HS := Aside0.mk hs
  clear hC hk hs
  go_wp2_with fail
  refine (H2.out _ HC.out).mono ?_
  rintro e w2 ⟨⟨t, rfl, hs⟩, hC, hk⟩
  have HC2 := Aside0.mk hC
  have HT := Aside0.mk hs
  have hw : wrap64 ((s.size : Int) + 2) = (s.size : Int) + 2 := w_id (by omega) (by have := HS.out; omega)
  clear hC hk hs
  go_wp2_with fail
  refine (H3.out _ _ HC2.out (by (try rw [hw]); have := HS.out; omega)).mono ?_
  rintro e w3 ⟨⟨x, rfl, hs⟩, hC, hk⟩
  have HC3 := Aside0.mk hC
  clear hC hk hs hw
  go_wp2_with fail
  refine (H4.out _ HC3.out).mono ?_
  rintro e w4 ⟨⟨y, rfl, hs⟩, hC, hk⟩
  have HC4 := Aside0.mk hC
  clear hC hk hs
  go_wp2_with fail
  go_ret3
  exact ⟨s, t, _, rfl, HS.out, HT.out, HC4.out.base⟩

def bys : List Int := [1, 1, 2, 5, 9, 10, 0, -1]
set_option maxHeartbeats 4000000 in
set_option maxRecDepth 100000 in
theorem draw45 (A : Option Addr) (n c : Nat) (w : World) (hR : Row w A n) (hn : n ≤ 1000000000000) :
    Calls Tryd.prog 45 #[.slice A n c] w fun e w' => ∃ (s : ByteArray) (p b : Int), e = .returned (.tuple #[.string s, .int .i64 p, .int .i64 b]) ∧ s.size ≤ 42 ∧ Below w.heap.size w w' := by
  have H1 := Aside0.mk (shore w.heap.size 0 w _ (cur_new A n c w hR hn) (by omega))
  have H3 := Aside0.mk (fun (m : Int) W (hC : Cur w W w.heap.size (0 + 50)) (hm : m ≤ 200) => pick w.heap.size _ m w W hC (by omega) hm)
  have H4 := Aside0.mk (fun W (hC : Cur w W w.heap.size (0 + 50 + 1)) => pick w.heap.size _ 9 w W hC (by omega) (by omega))
  have H5 := Aside0.mk (fun W (hC : Cur w W w.heap.size (0 + 50 + 1 + 1)) => among w.heap.size _ (some ⟨W.heap.size, 0, none⟩) 8 bys w (W.alloc (.cells (bys.map fun x => Value.int .i64 x).toArray 3)) (hC.below (below_alloc (Below.refl _ _) _)) (by omega) (by decide) (by decide) (ints_new W bys 3) (by intro ad e; cases e; exact Nat.ne_of_gt hC.lt))
  clear hR hn
  go_enter Tryd.func45, Tryd.ntmps45
  go_wp2_with fail
  refine H1.out.mono ?_
  rintro e w1 ⟨⟨s, rfl, hs⟩, hC, hk⟩
  have HC := Aside0.mk hC
  have HS := Aside0.mk hs
  have hw : wrap64 ((s.size : Int) + 2) = (s.size : Int) + 2 := w_id (by omega) (by have := HS.out; omega)
  clear hC hk hs
  go_wp2_with fail
  refine (H3.out _ _ HC.out (by (try rw [hw]); have := HS.out; omega)).mono ?_
  rintro e w3 ⟨⟨x, rfl, hs⟩, hC, hk⟩
  have HC3 := Aside0.mk hC
  clear hC hk hs hw
  go_wp2_with fail
  refine (H4.out _ HC3.out).mono ?_
  rintro e w4 ⟨⟨y, rfl, hs⟩, hC, hk⟩
  have HC4 := Aside0.mk hC
  clear hC hk hs
  go_wp2_with fail
  refine (H5.out _ HC4.out).mono ?_
  rintro e w5 ⟨⟨b, rfl, hs⟩, hC, hk⟩
  have HC5 := Aside0.mk hC
  clear hC hk hs
  go_wp2_with fail
  go_ret3
  exact ⟨s, _, b, rfl, HS.out, HC5.out.base⟩

set_option maxHeartbeats 4000000 in
set_option maxRecDepth 100000 in
theorem draw46 (A : Option Addr) (n c : Nat) (w : World) (hR : Row w A n) (hn : n ≤ 1000000000000) :
    Calls Tryd.prog 46 #[.slice A n c] w fun e w' => ∃ (s : ByteArray) (p : Int), e = .returned (.tuple #[.string s, .int .i64 p]) ∧ s.size ≤ 42 ∧ Below w.heap.size w w' := by
  have H1 := Aside0.mk (tide w.heap.size 0 w _ (cur_new A n c w hR hn) (by omega))
  have H3 := Aside0.mk (fun (m : Int) W (hC : Cur w W w.heap.size (0 + 50)) (hm : m ≤ 200) => pick w.heap.size _ m w W hC (by omega) hm)
  have H4 := Aside0.mk (fun W (hC : Cur w W w.heap.size (0 + 50 + 1)) => pick w.heap.size _ 9 w W hC (by omega) (by omega))
  clear hR hn
  go_enter Tryd.func46, Tryd.ntmps46
  go_wp2_with fail
  refine H1.out.mono ?_
  rintro e w1 ⟨⟨s, rfl, hs⟩, hC, hk⟩
  have HC := Aside0.mk hC
  have HS := Aside0.mk hs
  have hw : wrap64 ((s.size : Int) + 1) = (s.size : Int) + 1 := w_id (by omega) (by have := HS.out; omega)
  clear hC hk hs
  go_wp2_with fail
  refine (H3.out _ _ HC.out (by (try rw [hw]); have := HS.out; omega)).mono ?_
  rintro e w3 ⟨⟨x, rfl, hs⟩, hC, hk⟩
  have HC3 := Aside0.mk hC
  clear hC hk hs hw
  go_wp2_with fail
  refine (H4.out _ HC3.out).mono ?_
  rintro e w4 ⟨⟨y, rfl, hs⟩, hC, hk⟩
  have HC4 := Aside0.mk hC
  clear hC hk hs
  go_wp2_with fail
  go_ret2
  exact ⟨s, _, rfl, HS.out, HC4.out.base⟩

set_option maxHeartbeats 4000000 in
set_option maxRecDepth 100000 in
theorem draw76 (A : Option Addr) (n c : Nat) (w : World) (hR : Row w A n) (hn : n ≤ 1000000000000) :
    Calls Tryd.prog 76 #[.slice A n c] w fun e w' => ∃ (s : ByteArray), e = .returned (.string s) ∧ s.size ≤ 42 ∧ Below w.heap.size w w' := by
  have H1 := Aside0.mk (shore w.heap.size 0 w _ (cur_new A n c w hR hn) (by omega))
  clear hR hn
  go_enter Tryd.func76, Tryd.ntmps76
  go_wp2_with fail
  refine H1.out.mono ?_
  rintro e w1 ⟨⟨s, rfl, hs⟩, hC, hk⟩
  have HC := Aside0.mk hC
  have HS := Aside0.mk hs
  clear hC hk hs
  go_wp2_with fail
  go_ret
  exact ⟨s, rfl, HS.out, HC.out.base⟩
set_option maxHeartbeats 4000000 in
set_option maxRecDepth 100000 in
theorem draw47 (A : Option Addr) (n c : Nat) (w : World) (hR : Row w A n) (hn : n ≤ 1000000000000) :
    Calls Tryd.prog 47 #[.slice A n c] w fun e w' => ∃ (s : ByteArray), e = .returned (.string s) ∧ s.size ≤ 42 ∧ Below w.heap.size w w' := by
  have H1 := Aside0.mk (draw76 A n c w hR hn)
  clear hR hn
  go_enter Tryd.func47, Tryd.ntmps47
  go_wp2_with fail
  refine H1.out.mono ?_
  rintro e w1 ⟨s, rfl, hs, hb⟩
  have HB := Aside0.mk hb
  have HS := Aside0.mk hs
  clear hb hs
  go_wp2_with fail
  go_ret
  exact ⟨s, rfl, HS.out, HB.out⟩
end Go.Proofs.YthglhfhepooggaaDoor.Rdr
/-! laws.big at this program: whether two rows of bytes are together longer than 2^20. Condition: rows of at most 2^62 bytes. -/
namespace Go.Proofs.YthglhfhepooggaaDoor.Rdr
set_option linter.unusedVariables false
set_option linter.unusedSimpArgs false
open Go.RowKit Go.Proofs.YthglhfhepooggaaDoorW.PrintWords Go.Proofs.YthglhfhepooggaaDoorW.PrintLast Go.Proofs.YthglhfhepooggaaDoorW.PrintMore
def tooBig (n m : Nat) : Bool := decide (1048576 < n + m)
set_option maxHeartbeats 4000000 in
theorem big (A B : Option Addr) (n c m d : Nat) (w : World) : Calls Tryd.prog 38 #[.slice A n c, .slice B m d] w fun e w' => e = .returned (.bool (tooBig n m)) ∧ Below w.heap.size w w' := by
  by_cases h1 : n > 1048576
  · have e : tooBig n m = true := decide_eq_true (by omega)
    have hz : (1048576 : Int) < (n : Int) := by omega
    rw [e]
    clear e
    go_enter Tryd.func38, Tryd.ntmps38
    go_wp2
    repeat (go_quiet (fail); try go_wp2)
    go_ret
    exact ⟨rfl, by repeat (first | (with_reducible exact Below.refl _ _) | apply pw_below_drewN | apply below_drew1)⟩
  · have hz : ¬ (1048576 : Int) < (n : Int) := by omega
    have hw : wrap64 (1048576 - (n : Int)) = 1048576 - (n : Int) := w_id (by omega) (by omega)
    by_cases h2 : 1048576 < n + m
    · have e : tooBig n m = true := decide_eq_true h2
      have hy : (1048576 : Int) - (n : Int) < (m : Int) := by omega
      rw [e]
      clear e h1 h2
      go_enter Tryd.func38, Tryd.ntmps38
      go_wp2
      repeat (go_quiet (fail); try go_wp2)
      go_ret
      exact ⟨rfl, by repeat (first | (with_reducible exact Below.refl _ _) | apply pw_below_drewN | apply below_drew1)⟩
    · have e : tooBig n m = false := decide_eq_false h2
      have hy : ¬ (1048576 : Int) - (n : Int) < (m : Int) := by omega
      rw [e]
      clear e h1 h2
      go_enter Tryd.func38, Tryd.ntmps38
      go_wp2
      repeat (go_quiet (fail); try go_wp2)
      go_ret
      exact ⟨rfl, by repeat (first | (with_reducible exact Below.refl _ _) | apply pw_below_drewN | apply below_drew1)⟩
end Go.Proofs.YthglhfhepooggaaDoor.Rdr
/-! laws.dSame of two rows that read as one list: true. Conditions: the two rows stand. -/
namespace Go.Proofs.YthglhfhepooggaaDoor.Same
set_option linter.unusedVariables false
set_option linter.unusedSimpArgs false
open Go.RowKit Go.Proofs.YthglhfhepooggaaDoorW.PrintWords Go.Proofs.YthglhfhepooggaaDoorW.PrintLast Go.Proofs.YthglhfhepooggaaDoorW.PrintMore

set_option maxHeartbeats 4000000 in
set_option maxRecDepth 100000 in
theorem dSame (A B : Option Addr) (c d : Nat) (l : List Int) (w : World) (hA : Kd.C (Kd.int .i64) w A l.length l) (hB : Kd.C (Kd.int .i64) w B l.length l) (hc : l.length ≤ c) (hd : l.length ≤ d) :
    Calls Tryd.prog 40 #[.slice A l.length c, .slice B l.length d] w fun e w' => e = .returned (.bool true) ∧ Drawn0 w w' := by
  have HA := Aside0.mk hA
  have HB := Aside0.mk hB
  have HM := Aside0.mk (Kd.C_max hA)
  clear hA hB hc hd
  go_enter Tryd.func40, Tryd.ntmps40
  go_wp2
  go_loopw [13] (fun v13 w' => ∃ k : Int, v13 = .int .i64 k ∧ Aside0 (0 ≤ k ∧ k ≤ (l.length : Int)) ∧ Drawn0 w w') (fun v13 _ => l.length - (intOf v13).toNat)
  case atStart => exact ⟨0, rfl, ⟨by omega⟩, by repeat (first | exact Drawn0.refl _ | apply Drawn0.step)⟩
  case round =>
    obtain ⟨k, rfl, HK, ⟨m1, rfl⟩⟩ := hrel
    by_cases hk : k < (l.length : Int)
    · have hk0 := HK.out.1
      obtain ⟨ad, e1, hx⟩ := Kd.at_int HA.out k hk0 hk
      obtain ⟨bd, e2, hy⟩ := Kd.at_int HB.out k hk0 hk
      cases e1
      cases e2
      have hk3 := decide_eq_true hk
      have hk4 := eq_true hk
      have hk6 := eq_true hk0
      have hw : wrap64 (k + 1) = k + 1 := by have := HM.out; unfold wrap64; omega
      have HK5 := Aside0.mk hk
      clear hk hk0
      go_wp2
      repeat (go_quiet (fail); try go_wp2)
      go_roundw
      case rel => exact ⟨k + 1, by rw [hw], ⟨by have := HK5.out; have := HK.out; omega⟩, by repeat (first | exact Drawn0.refl _ | apply Drawn0.step)⟩
      case measure => (try rw [hw]); have := HK5.out; have := HK.out; simp [intOf]; omega
    · have hk3 := decide_eq_false hk
      clear hk
      go_wp2
      go_ret
      exact ⟨rfl, by repeat (first | exact Drawn0.refl _ | apply Drawn0.step)⟩
end Go.Proofs.YthglhfhepooggaaDoor.Same
