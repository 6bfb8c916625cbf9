/- LatestStart at this program, spec and impl alike. Condition: the texts lie within the reach. -/
import Derived.Test.YteijbohbdhemoaaDoorSw
import Derived.Test.YteijbohbdhemoaaDoorPl2
namespace Go.Proofs.YteijbohbdhemoaaDoor.Ls
set_option linter.unusedVariables false
set_option linter.unusedSimpArgs false
open Go.RowKit Go.Proofs.YteijbohbdhemoaaDoorW.PrintWords Go.Proofs.YteijbohbdhemoaaDoorW.PrintLast Go.Proofs.YteijbohbdhemoaaDoorW.PrintMore Sh Cr Sm Tb Pl Arr Aq Nd Fw
/-- What is told of a start by its place in the tide. -/
theorem by_place (s t : ByteArray) (L E st : Nat) (ht : 1 ≤ t.size) (hE : st ≤ E) : (0 ≤ ndOf s t L (st % t.size) ∧ ndOf s t L (st % t.size) ≤ (E : Int) - (st : Int)) ↔ byHour s t L E st = true := by
  unfold byHour
  rw [Bool.and_eq_true, decide_eq_true_eq, decide_eq_true_eq]
  have e : st = st % t.size + st / t.size * t.size := (Nat.mod_add_div' st t.size).symm
  have key := end_turn s t L ht (st % t.size) (st / t.size)
  rw [← e] at key
  generalize st % t.size = m at key ⊢
  unfold ndOf
  rcases key with ⟨a, b⟩ | ⟨h, _, b, a⟩
  · rw [a, b]
    constructor
    · rintro ⟨x, _⟩; rw [if_pos (by decide)] at x; omega
    · rintro ⟨x, _⟩; omega
  · rw [a, b, if_neg (by omega)]
    omega
def val (s t : ByteArray) (l h : Int) : Int × Bool := if okAsked s t l h = true then lastOf s t l.toNat h.toNat (h.toNat + 1) else (0, false)
theorem byHour_iff (s t : ByteArray) (L E st : Nat) : byHour s t L E st = true ↔ (0 ≤ endOf s t L st ∧ endOf s t L st ≤ (E : Int)) := by
  unfold byHour
  rw [Bool.and_eq_true, decide_eq_true_eq, decide_eq_true_eq]
theorem last_take {s t : ByteArray} {L E n : Nat} {V : Int × Bool} (h : lastOf s t L E (n + 1) = V) (c : byHour s t L E n = true) : V = ((n : Int), true) := by
  rw [← h]
  simp only [lastOf]
  rw [if_pos c]
theorem last_skip {s t : ByteArray} {L E n : Nat} {V : Int × Bool} (h : lastOf s t L E (n + 1) = V) (c : byHour s t L E n = false) : lastOf s t L E n = V := by
  rw [← h]
  simp only [lastOf]
  rw [if_neg (by rw [c]; decide)]
theorem win (s t : ByteArray) (E : Nat) (hs : s.size ≤ 14) (ht : t.size ≤ 12) (hE : E ≤ 1000) : ∃ a b c : Int, wrap64 ((s.size : Int) + 4) = a ∧ wrap64 ((t.size : Int) * a) = b ∧ wrap64 ((E : Int) - b) = c ∧ c = (E : Int) - ((t.size * (s.size + 4) : Nat) : Int) := by
  have h1 : t.size * (s.size + 4) ≤ 216 := Nat.le_trans (Nat.mul_le_mul ht (show s.size + 4 ≤ 18 by omega)) (by omega)
  refine ⟨((s.size + 4 : Nat) : Int), ((t.size * (s.size + 4) : Nat) : Int), _, (w_id (by omega) (by omega)).trans rfl, ?_, rfl, ?_⟩
  · rw [← Int.natCast_mul]
    generalize t.size * (s.size + 4) = c at h1 ⊢
    exact w_id (by omega) (by omega)
  · generalize t.size * (s.size + 4) = c at h1 ⊢
    exact w_id (by omega) (by omega)
set_option maxHeartbeats 4000000 in
set_option maxRecDepth 100000 in
theorem spec (s t : ByteArray) (l h : Int) (w : World) (hs : s.size ≤ 140737488351232) (ht : t.size ≤ 140737488351232) :
    Calls Tryd.prog 20 #[.string s, .string t, .int .i64 l, .int .i64 h] w fun e w' => e = .returned (.tuple #[.int .i64 (val s t l h).1, .bool (val s t l h).2]) ∧ Below w.heap.size w w' := by
  have ca := asked s t l h w hs ht
  unfold val
  cases hk : okAsked s t l h with
  | false =>
    rw [hk] at ca
    have CA := Aside0.mk ca
    rw [if_neg (by decide)]
    clear ca hk hs ht
    go_enter Tryd.func20, Tryd.ntmps20
    go_wp2_with fail
    refine CA.out.mono ?_
    rintro e w1 ⟨rfl, hb⟩
    have HB := Aside0.mk hb
    clear hb
    go_wp2_with fail
    go_ret2
    exact ⟨rfl, HB.out⟩
  | true =>
    rw [hk] at ca
    have CA := Aside0.mk ca
    rw [if_pos rfl]
    obtain ⟨_, _, L, M, rfl, rfl, z1, z2, z3, z4⟩ := asked_is hk
    rw [Int.toNat_natCast, Int.toNat_natCast]
    have CE := Aside0.mk (fun (st : Nat) (W : World) (h : st ≤ 2000) => End.tdEnd s t L st W z1 z2 z3 h)
    have HT := Aside0.mk (And.intro z1 (And.intro z2 z4))
    have hs2 : s.size ≤ 9223372036854775807 := by omega
    have ht2 : t.size ≤ 9223372036854775807 := by omega
    obtain ⟨a4, b4, c4, e1, e2, e3, e4⟩ := win s t M z1.2 z2.2 z4
    have E4 := Aside0.mk e4
    clear ca hk hs ht z1 z2 z3 z4 e4
    obtain ⟨V, hV⟩ : ∃ V, lastOf s t L M (M + 1) = V := ⟨_, rfl⟩
    rw [hV]
    have HV := Aside0.mk hV
    clear hV
    obtain ⟨D, hD⟩ : ∃ D : Int, (M : Int) = D := ⟨_, rfl⟩
    rw [hD] at CA e3 ⊢
    have HD := Aside0.mk hD
    clear hD
    go_enter Tryd.func20, Tryd.ntmps20
    go_wp2_with fail
    refine CA.out.mono ?_
    rintro e w1 ⟨rfl, hb⟩
    have HB0 := Aside0.mk hb
    clear hb
    go_wp2_with fail
    go_loopw [10] (fun v10 wr => ∃ (n : Nat) (S : Int), v10 = .int .i64 S ∧ Aside0 (S = (n : Int) - 1 ∧ n ≤ M + 1) ∧ Aside0 (lastOf s t L M n = V) ∧ Aside0 (∀ st, n ≤ st → st ≤ M → byHour s t L M st = false) ∧ Aside0 (Below w.heap.size w wr)) (fun v10 _ => (intOf v10 + 1).toNat)
    case atStart => exact ⟨M + 1, D, rfl, ⟨by have := HD.out; omega⟩, HV, ⟨fun st a b => by omega⟩, HB0⟩
    case round =>
      clear HB0 HV
      obtain ⟨n, S, rfl, HS, HL, HNO, HB⟩ := hrel
      rcases n with _ | n
      · have hx := decide_eq_false (show ¬ (0 : Int) ≤ S by have := HS.out; omega)
        have HE := Aside0.mk (show V = (0, false) from HL.out.symm)
        go_wp2_with fail
        go_ret2
        exact ⟨by rw [HE.out] <;> rfl, HB.out⟩
      · have hx := decide_eq_true (show (0 : Int) ≤ S by have := HS.out; omega)
        by_cases c1 : c4 < S
        · have hx2 := decide_eq_true c1
          have CK := Aside0.mk (fun W => CE.out n W (by have := HT.out; have := HS.out; omega))
          rw [show ((n : Nat) : Int) = S by have := HS.out; omega] at CK
          obtain ⟨x, hxx⟩ : ∃ x, endOf s t L n = x := ⟨_, rfl⟩
          rw [hxx] at CK
          have hby := byHour_iff s t L M n
          rw [hxx, HD.out] at hby
          have HBY := Aside0.mk hby
          have hw : wrap64 (S - 1) = S - 1 := w_id (by have := HS.out; omega) (by have := HS.out; have := HT.out; omega)
          clear c1 hxx hby
          go_wp2_with fail
          refine (CK.out _).mono ?_
          rintro e w2 ⟨rfl, hb⟩
          replace HB := Aside0.mk (below_step HB.out hb)
          clear hb
          have skip : ∀ c : byHour s t L M n = false, (lastOf s t L M n = V) ∧ (∀ st, n ≤ st → st ≤ M → byHour s t L M st = false) := fun c => ⟨last_skip HL.out c, fun st a b => by
            by_cases e : st = n
            · rw [e]; exact c
            · exact HNO.out st (by omega) b⟩
          have SKIP := Aside0.mk skip
          clear skip
          by_cases c2 : 0 ≤ x
          · have hx3 := decide_eq_true c2
            by_cases c3 : x ≤ D
            · have hx4 := decide_eq_true c3
              have HE := Aside0.mk (last_take HL.out (HBY.out.mpr ⟨c2, c3⟩))
              rw [show ((n : Nat) : Int) = S by have := HS.out; omega] at HE
              clear c2 c3
              go_wp2_with fail
              go_ret2
              exact ⟨by rw [HE.out] <;> rfl, HB.out⟩
            · have hx4 := decide_eq_false c3
              have HE := Aside0.mk (SKIP.out (by rw [← Bool.not_eq_true]; exact fun h => c3 (HBY.out.mp h).2))
              clear c2 c3
              go_wp2_with fail
              go_roundw
              case rel => exact ⟨n, S - 1, by first | rfl | rw [hw], ⟨by have := HS.out; omega⟩, ⟨HE.out.1⟩, ⟨HE.out.2⟩, HB⟩
              case measure => (try rw [hw]); have := HS.out; simp [intOf]; omega
          · have hx3 := decide_eq_false c2
            have HE := Aside0.mk (SKIP.out (by rw [← Bool.not_eq_true]; exact fun h => c2 (HBY.out.mp h).1))
            clear c2
            go_wp2_with fail
            go_roundw
            case rel => exact ⟨n, S - 1, by first | rfl | rw [hw], ⟨by have := HS.out; omega⟩, ⟨HE.out.1⟩, ⟨HE.out.2⟩, HB⟩
            case measure => (try rw [hw]); have := HS.out; simp [intOf]; omega
        · have hx2 := decide_eq_false c1
          have HE : Aside0 (V = (0, false)) := ⟨by
            have hall := none_left s t L M n HT.out.2.1.1 (by have := HS.out; omega) (by have := HS.out; have := E4.out; omega) (fun st a b => HNO.out st (by omega) b)
            rw [← HL.out]
            refine last_none s t L M (n + 1) fun st hst => ?_
            exact hall (n - st) st (by omega)⟩
          clear c1
          go_wp2_with fail
          go_ret2
          exact ⟨by rw [HE.out] <;> rfl, HB.out⟩
set_option maxHeartbeats 4000000 in
set_option maxRecDepth 100000 in
theorem impl (s t : ByteArray) (l h : Int) (w : World) (hs : s.size ≤ 140737488351232) (ht : t.size ≤ 140737488351232) :
    Calls Tryd.prog 21 #[.string s, .string t, .int .i64 l, .int .i64 h] w fun e w' => e = .returned (.tuple #[.int .i64 (val s t l h).1, .bool (val s t l h).2]) ∧ Below w.heap.size w w' := by
  have hu39 := Tryd.underlying39
  have ci := fun W => isRight s t l W hs ht
  have ch := fun W => isHour h W
  unfold val
  have hA : okAsked s t l h = (okRight s t l && okHour h) := rfl
  cases hr : okRight s t l with
  | false =>
    rw [hr] at ci hA
    rw [hA, if_neg (by simp)]
    have CI := Aside0.mk ci
    clear ci ch hA hr hs ht
    go_enter Tryd.func21, Tryd.ntmps21
    go_wp2_with fail
    refine (CI.out _).mono ?_
    rintro e w1 ⟨rfl, hb⟩
    have HB := Aside0.mk (show Below (w.heap.size + 1) (w.alloc (box s t l)) w1 from by have z := hb.mono (show w.heap.size + 1 ≤ (w.alloc (box s t l)).heap.size by simp); exact z)
    obtain ⟨hc0, hc1, hc2⟩ := boxed HB.out
    clear hb
    go_wp2_with fail
    go_ret2
    exact ⟨rfl, boxed_from HB.out⟩
  | true =>
    rw [hr] at ci hA
    have CI := Aside0.mk ci
    cases hh : okHour h with
    | false =>
      rw [hh] at ch hA
      rw [hA, if_neg (by simp)]
      have CH := Aside0.mk ch
      clear ci ch hA hr hs ht hh
      go_enter Tryd.func21, Tryd.ntmps21
      go_wp2_with fail
      refine (CI.out _).mono ?_
      rintro e w1 ⟨rfl, hb⟩
      have HB := Aside0.mk (show Below (w.heap.size + 1) (w.alloc (box s t l)) w1 from by have z := hb.mono (show w.heap.size + 1 ≤ (w.alloc (box s t l)).heap.size by simp); exact z)
      obtain ⟨hc0, hc1, hc2⟩ := boxed HB.out
      clear hb
      go_wp2_with fail
      refine (CH.out _).mono ?_
      rintro e w' ⟨rfl, rfl⟩
      go_wp2_with fail
      go_ret2
      exact ⟨rfl, boxed_from HB.out⟩
    | true =>
      rw [hh] at ch hA
      have hk : okAsked s t l h = true := hA
      rw [hk, if_pos rfl]
      have CH := Aside0.mk ch
      obtain ⟨_, _, L, M, rfl, rfl, z1, z2, z3, z4⟩ := asked_is hk
      rw [Int.toNat_natCast, Int.toNat_natCast]
      have CE := Aside0.mk (fun (W : World) => needs s t L W z1 z2 z3)
      have HT := Aside0.mk (And.intro z1 (And.intro z2 z4))
      have ht2 : t.size ≤ 9223372036854775807 := by omega
      have zz1 : ¬ (t.size : Int) = 0 := by omega
      have zz2 : ((t.size : Int) == 0) = false := beq_eq_false_iff_ne.mpr zz1
      clear ci ch hA hr hs ht hh hk z1 z2 z3 z4
      obtain ⟨V, hV⟩ : ∃ V, lastOf s t L M (M + 1) = V := ⟨_, rfl⟩
      rw [hV]
      have HV := Aside0.mk hV
      clear hV
      obtain ⟨D, hD⟩ : ∃ D : Int, (M : Int) = D := ⟨_, rfl⟩
      rw [hD] at CH ⊢
      have HD := Aside0.mk hD
      clear hD
      go_enter Tryd.func21, Tryd.ntmps21
      go_wp2_with fail
      refine (CI.out _).mono ?_
      rintro e w1 ⟨rfl, hb⟩
      have HB := Aside0.mk (show Below (w.heap.size + 1) (w.alloc (box s t (L : Int))) w1 from by have z := hb.mono (show w.heap.size + 1 ≤ (w.alloc (box s t (L : Int))).heap.size by simp); exact z)
      obtain ⟨hc0, hc1, hc2⟩ := boxed HB.out
      clear hb
      go_wp2_with fail
      refine (CH.out _).mono ?_
      rintro e w' ⟨rfl, rfl⟩
      go_wp2_with fail
      refine (CE.out _).mono ?_
      rintro e w3 ⟨v, rfl, hr, hb⟩
      clear hc0 hc1 hc2
      replace HB := Aside0.mk (boxed_then HB.out hb)
      obtain ⟨g, cap, rfl, hg, hT⟩ := Stp.of_tab (h1 := fun _ => rfl) hr (by have := HT.out; omega)
      have TB := Aside0.mk hT
      clear hr hb hg hT
      go_wp2_with fail
      go_loop [12] (fun v12 => ∃ (n : Nat) (S : Int), v12 = .int .i64 S ∧ Aside0 (S = (n : Int) - 1 ∧ n ≤ M + 1) ∧ Aside0 (lastOf s t L M n = V)) (fun v12 => (intOf v12 + 1).toNat)
      case atStart => exact ⟨M + 1, D, rfl, ⟨by have := HD.out; omega⟩, HV⟩
      case round =>
        clear HV
        obtain ⟨n, S, rfl, HS, HL⟩ := hrel
        rcases n with _ | n
        · have hx := decide_eq_false (show ¬ (0 : Int) ≤ S by have := HS.out; omega)
          have HE := Aside0.mk (show V = (0, false) from HL.out.symm)
          go_wp2_with fail
          go_ret2
          exact ⟨by rw [HE.out] <;> rfl, boxed_from HB.out⟩
        · have hx := decide_eq_true (show (0 : Int) ≤ S by have := HS.out; omega)
          have hSn : S = (n : Int) := by have := HS.out; omega
          have hw : wrap64 (S - 1) = S - 1 := w_id (by have := HS.out; omega) (by have := HS.out; have := HT.out; omega)
          obtain ⟨dd, hdd⟩ : ∃ dd, D - S = dd := ⟨_, rfl⟩
          have hwd : wrap64 (D - S) = dd := (w_id (by have := HS.out; have := HD.out; omega) (by have := HS.out; have := HD.out; have := HT.out; omega)).trans hdd
          obtain ⟨q, hq⟩ : ∃ q : Int, ((n % t.size : Nat) : Int) = q := ⟨_, rfl⟩
          have hqlt : n % t.size < t.size := Nat.mod_lt _ (by have := HT.out; omega)
          have eq1 : Int.tmod S (t.size : Int) = q := by rw [hSn, Int.tmod_eq_emod_of_nonneg (by omega), ← hq]; omega
          have p13 := eq_true (show 0 ≤ q by omega)
          have q13 := eq_true (show q < (t.size : Int) by omega)
          obtain ⟨x, hxx⟩ : ∃ x, ndOf s t L (n % t.size) = x := ⟨_, rfl⟩
          have hcx : w3.cell? ⟨g, q.toNat, none⟩ = some (.int .i64 x) := by
            have := TB.out.cell (n % t.size) hqlt
            rw [hxx] at this
            rw [show q.toNat = n % t.size by omega]
            exact this
          have hby := by_place s t L M n HT.out.2.1.1 (by have := HS.out; omega)
          rw [hxx, HD.out, ← hSn, hdd] at hby
          have HBY := Aside0.mk hby
          have HSN := Aside0.mk hSn
          clear hxx hby hdd hq hqlt hSn
          go_wp2_with fail
          refine (within_any _ _ _ _).mono ?_
          rintro e w' ⟨rfl, rfl⟩
          by_cases c2 : 0 ≤ x ∧ x ≤ dd
          · have HE := Aside0.mk (last_take HL.out (HBY.out.mp c2))
            rw [← HSN.out] at HE
            have hd := decide_eq_true c2
            rw [hd]
            clear c2 hd
            go_wp2_with fail
            go_ret2
            exact ⟨by rw [HE.out] <;> rfl, boxed_from HB.out⟩
          · have HE := Aside0.mk (last_skip HL.out (by rw [← Bool.not_eq_true]; exact fun h => c2 (HBY.out.mpr h)))
            have hd := decide_eq_false c2
            rw [hd]
            clear c2 hd
            go_wp2_with fail
            go_round
            case rel => exact ⟨n, S - 1, by first | rfl | rw [hw], ⟨by have := HS.out; omega⟩, HE⟩
            case measure => (try rw [hw]); have := HS.out; simp [intOf]; omega
end Go.Proofs.YteijbohbdhemoaaDoor.Ls
