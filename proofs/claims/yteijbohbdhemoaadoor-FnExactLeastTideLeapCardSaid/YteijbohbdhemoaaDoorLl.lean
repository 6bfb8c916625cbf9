/- LeastTideLeap at this program, spec and impl alike. Condition: the texts lie within the reach. -/
import Derived.Test.YteijbohbdhemoaaDoorFw
import Derived.Test.YteijbohbdhemoaaDoorPl2
namespace Go.Proofs.YteijbohbdhemoaaDoor.Ll
set_option linter.unusedVariables false
set_option linter.unusedSimpArgs false
open Go.RowKit Go.Proofs.YteijbohbdhemoaaDoorW.PrintWords Go.Proofs.YteijbohbdhemoaaDoorW.PrintLast Go.Proofs.YteijbohbdhemoaaDoorW.PrintMore Sh Cr Sm Tb Pl Arr Aq Nd

/-- The least of d + 1 numbers from L on of which g holds, or the last one. -/
def lea (g : Nat → Bool) : Nat → Nat → Nat
  | 0, L => L
  | d + 1, L => if g L = true then L else lea g d (L + 1)
def gL (s t : ByteArray) (L : Nat) : Bool := decide (0 ≤ endOf s t L 0)
def val (s t : ByteArray) : Int × Bool := if (okShore s && okTide t) = true then ((lea (gL s t) s.size 1 : Nat), true) else (0, false)
theorem gL_last (s t : ByteArray) (ht : 1 ≤ t.size) : gL s t (s.size + 1) = true := decide_eq_true (far_leap s t ht)
theorem lea_take {s t : ByteArray} {L V : Nat} (h : lea (gL s t) (s.size + 1 - L) L = V) (hg : gL s t L = true) : V = L := by
  rw [← h]
  generalize s.size + 1 - L = d
  cases d with
  | zero => rfl
  | succ d => simp only [lea]; rw [if_pos hg]
theorem lea_skip {s t : ByteArray} {L V : Nat} (h : lea (gL s t) (s.size + 1 - L) L = V) (hL : L ≤ s.size + 1) (ht : 1 ≤ t.size) (hg : gL s t L = false) : L + 1 ≤ s.size + 1 ∧ lea (gL s t) (s.size + 1 - (L + 1)) (L + 1) = V := by
  have hne : L ≠ s.size + 1 := fun e => by rw [e, gL_last s t ht] at hg; cases hg
  refine ⟨by omega, ?_⟩
  rw [← h, show s.size + 1 - L = (s.size + 1 - (L + 1)) + 1 by omega]
  simp only [lea]
  rw [if_neg (by rw [hg]; decide)]
theorem few_pos (f : Nat → Int) : ∀ n, 0 ≤ (Fw.few f n).1 ↔ ∃ j, j < n ∧ 0 ≤ f j
  | 0 => by simp [Fw.few]
  | n + 1 => by
    have ih := few_pos f n
    simp only [Fw.few]
    by_cases c : 0 ≤ f n ∧ ((Fw.few f n).1 < 0 ∨ f n < (Fw.few f n).1)
    · rw [if_pos c]
      exact ⟨fun _ => ⟨n, by omega, c.1⟩, fun _ => c.1⟩
    · rw [if_neg c, ih]
      constructor
      · rintro ⟨j, a, b⟩; exact ⟨j, by omega, b⟩
      · rintro ⟨j, a, b⟩
        by_cases e : j = n
        · subst e
          exact ih.mp (by omega)
        · exact ⟨j, by omega, b⟩
theorem told (s t : ByteArray) (L : Nat) (hL : 1 ≤ L ∧ L ≤ 15) (hg : (okShore s && okTide t) = true) (ht : 1 ≤ t.size) : (Fw.val s t (L : Int)).2.2 = gL s t L := by
  have hr : okRight s t (L : Int) = true := by unfold okRight okLeap; rw [hg, decide_eq_true (show 1 ≤ (L : Int) ∧ (L : Int) ≤ 15 by omega)]; rfl
  unfold Fw.val
  rw [hr, if_pos rfl, Int.toNat_natCast]
  have h1 := few_pos (ndOf s t L) t.size
  have h2 := some_start s t L ht
  have h3 : (∃ j, j < t.size ∧ 0 ≤ ndOf s t L j) ↔ (∃ j, j < t.size ∧ endOf s t L j ≥ 0) := by
    constructor
    · rintro ⟨j, a, b⟩
      refine ⟨j, a, ?_⟩
      unfold ndOf at b
      split at b <;> omega
    · rintro ⟨j, a, b⟩
      refine ⟨j, a, ?_⟩
      have := end_ge s t L j b
      unfold ndOf
      rw [if_neg (by omega)]
      omega
  have h4 : 0 ≤ (Fw.few (ndOf s t L) t.size).1 ↔ 0 ≤ endOf s t L 0 := h1.trans (h3.trans h2)
  unfold gL
  by_cases c : (Fw.few (ndOf s t L) t.size).1 < 0
  · rw [if_pos c, decide_eq_false (fun h => by have := h4.mpr h; omega)]
  · rw [if_neg c, decide_eq_true (h4.mp (by omega))]
set_option maxHeartbeats 4000000 in
set_option maxRecDepth 100000 in
theorem spec (s t : ByteArray) (w : World) (hs : s.size ≤ 140737488351232) (ht : t.size ≤ 140737488351232) :
    Calls Tryd.prog 24 #[.string s, .string t] w fun e w' => e = .returned (.tuple #[.int .i64 (val s t).1, .bool (val s t).2]) ∧ Below w.heap.size w w' := by
  have ca := goodS s t w hs ht
  unfold val
  cases hk : (okShore s && okTide t) with
  | false =>
    rw [hk] at ca
    have CA := Aside0.mk ca
    rw [if_neg (by decide)]
    clear ca hk hs ht
    go_enter Tryd.func24, Tryd.ntmps24
    go_wp2_with fail
    refine CA.out.mono ?_
    rintro e w1 ⟨rfl, hb⟩
    have HB := Aside0.mk hb
    clear hb
    go_wp2_with fail
    go_ret2
    exact ⟨rfl, HB.out⟩
  | true =>
    rw [hk] at ca
    have CA := Aside0.mk ca
    rw [if_pos rfl]
    have z1 := okShore_size ((Bool.and_eq_true _ _).mp hk).1
    have z2 := okTide_size ((Bool.and_eq_true _ _).mp hk).2
    have CE := Aside0.mk (fun (L : Nat) (W : World) (h : 1 ≤ L ∧ L ≤ 15) => End.tdEnd s t L 0 W z1 z2 h (by omega))
    have HT := Aside0.mk (And.intro z1 z2)
    clear ca hk hs ht z1 z2
    obtain ⟨V, hV⟩ : ∃ V, lea (gL s t) s.size 1 = V := ⟨_, rfl⟩
    rw [hV]
    have HV := Aside0.mk hV
    clear hV
    go_enter Tryd.func24, Tryd.ntmps24
    go_wp2_with fail
    refine CA.out.mono ?_
    rintro e w1 ⟨rfl, hb⟩
    have HB0 := Aside0.mk hb
    clear hb
    go_wp2_with fail
    go_loopw [6] (fun v6 wr => ∃ L : Nat, v6 = .int .i64 (L : Int) ∧ Aside0 (1 ≤ L ∧ L ≤ s.size + 1) ∧ Aside0 (lea (gL s t) (s.size + 1 - L) L = V) ∧ Aside0 (Below w.heap.size w wr)) (fun v6 _ => s.size + 1 - (intOf v6).toNat)
    case atStart => exact ⟨1, rfl, ⟨by omega⟩, ⟨by rw [show s.size + 1 - 1 = s.size by omega]; exact HV.out⟩, HB0⟩
    case round =>
      clear HB0 HV
      obtain ⟨L, rfl, HL, HV, HB⟩ := hrel
      have hw : wrap64 ((L : Int) + 1) = ((L + 1 : Nat) : Int) := w_id (by omega) (by have := HL.out; have := HT.out; omega)
      have CK := Aside0.mk (fun W => CE.out L W (by have := HL.out; have := HT.out; omega))
      obtain ⟨x, hx⟩ : ∃ x, endOf s t L 0 = x := ⟨_, rfl⟩
      have hgl : gL s t L = decide (0 ≤ x) := by unfold gL; rw [hx]
      rw [hx] at CK
      have HGL := Aside0.mk hgl
      clear hx hgl
      go_wp2_with fail
      refine (CK.out _).mono ?_
      rintro e w2 ⟨rfl, hb⟩
      replace HB := Aside0.mk (below_step HB.out hb)
      clear hb
      by_cases c : x < 0
      · have hx1 := decide_eq_true c
        have HN := Aside0.mk (lea_skip HV.out HL.out.2 HT.out.2.1 (HGL.out.trans (decide_eq_false (by omega))))
        clear c
        go_wp2_with fail
        go_roundw
        case rel => exact ⟨L + 1, by first | rfl | rw [hw], ⟨by have := HN.out.1; omega⟩, ⟨HN.out.2⟩, HB⟩
        case measure => (try rw [hw]); have := HN.out.1; have := HL.out; simp [intOf]; omega
      · have hx1 := decide_eq_false c
        have HN := Aside0.mk (lea_take HV.out (HGL.out.trans (decide_eq_true (by omega))))
        clear c
        go_wp2_with fail
        go_ret2
        exact ⟨by rw [HN.out] <;> rfl, HB.out⟩
set_option maxHeartbeats 4000000 in
set_option maxRecDepth 100000 in
theorem impl (s t : ByteArray) (w : World) (hs : s.size ≤ 140737488351232) (ht : t.size ≤ 140737488351232) :
    Calls Tryd.prog 25 #[.string s, .string t] w fun e w' => e = .returned (.tuple #[.int .i64 (val s t).1, .bool (val s t).2]) ∧ Below w.heap.size w w' := by
  have ca := areShore s t w hs ht
  unfold val
  cases hk : (okShore s && okTide t) with
  | false =>
    rw [hk] at ca
    have CA := Aside0.mk ca
    rw [if_neg (by decide)]
    clear ca hk hs ht
    go_enter Tryd.func25, Tryd.ntmps25
    go_wp2_with fail
    refine CA.out.mono ?_
    rintro e w1 ⟨rfl, hb⟩
    have HB := Aside0.mk hb
    clear hb
    go_wp2_with fail
    go_ret2
    exact ⟨rfl, HB.out⟩
  | true =>
    rw [hk] at ca
    have CA := Aside0.mk ca
    rw [if_pos rfl]
    have z1 := okShore_size ((Bool.and_eq_true _ _).mp hk).1
    have z2 := okTide_size ((Bool.and_eq_true _ _).mp hk).2
    have CE := Aside0.mk (fun (L : Nat) (W : World) => Fw.impl s t (L : Int) W hs ht)
    have TO := Aside0.mk (fun (L : Nat) (h : 1 ≤ L ∧ L ≤ 15) => told s t L h hk z2.1)
    have HT := Aside0.mk (And.intro z1 z2)
    clear ca hk hs ht z1 z2
    obtain ⟨V, hV⟩ : ∃ V, lea (gL s t) s.size 1 = V := ⟨_, rfl⟩
    rw [hV]
    have HV := Aside0.mk hV
    clear hV
    go_enter Tryd.func25, Tryd.ntmps25
    go_wp2_with fail
    refine CA.out.mono ?_
    rintro e w1 ⟨rfl, hb⟩
    have HB0 := Aside0.mk hb
    clear hb
    go_wp2_with fail
    go_loopw [6] (fun v6 wr => ∃ L : Nat, v6 = .int .i64 (L : Int) ∧ Aside0 (1 ≤ L ∧ L ≤ s.size + 1) ∧ Aside0 (lea (gL s t) (s.size + 1 - L) L = V) ∧ Aside0 (Below w.heap.size w wr)) (fun v6 _ => s.size + 1 - (intOf v6).toNat)
    case atStart => exact ⟨1, rfl, ⟨by omega⟩, ⟨by rw [show s.size + 1 - 1 = s.size by omega]; exact HV.out⟩, HB0⟩
    case round =>
      clear HB0 HV
      obtain ⟨L, rfl, HL, HV, HB⟩ := hrel
      have hw : wrap64 ((L : Int) + 1) = ((L + 1 : Nat) : Int) := w_id (by omega) (by have := HL.out; have := HT.out; omega)
      have ck := fun W => CE.out L W
      have hgl := TO.out L (by have := HL.out; have := HT.out; omega)
      generalize Fw.val s t (L : Int) = q at ck hgl
      obtain ⟨q1, q2, q3⟩ := q
      have CK := Aside0.mk ck
      cases q3 with
      | false =>
        have HN := Aside0.mk (lea_skip HV.out HL.out.2 HT.out.2.1 hgl.symm)
        clear ck hgl
        go_wp2_with fail
        refine (CK.out _).mono ?_
        rintro e w2 ⟨rfl, hb⟩
        replace HB := Aside0.mk (below_step HB.out hb)
        clear hb
        go_wp2_with fail
        go_roundw
        case rel => exact ⟨L + 1, by first | rfl | rw [hw], ⟨by have := HN.out.1; omega⟩, ⟨HN.out.2⟩, HB⟩
        case measure => (try rw [hw]); have := HN.out.1; have := HL.out; simp [intOf]; omega
      | true =>
        have HN := Aside0.mk (lea_take HV.out hgl.symm)
        clear ck hgl
        go_wp2_with fail
        refine (CK.out _).mono ?_
        rintro e w2 ⟨rfl, hb⟩
        replace HB := Aside0.mk (below_step HB.out hb)
        clear hb
        go_wp2_with fail
        go_ret2
        exact ⟨by rw [HN.out] <;> rfl, HB.out⟩
end Go.Proofs.YteijbohbdhemoaaDoor.Ll
