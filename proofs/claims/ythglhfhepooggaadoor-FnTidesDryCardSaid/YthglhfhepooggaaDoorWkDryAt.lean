/- impl.DryAt at this program: a byte a stone, told by the program's own printed isDry. Condition: the texts lie within the reach. -/
import Derived.Test.YthglhfhepooggaaDoorWkMirrorShore
import Derived.Test.YthglhfhepooggaaDoorPFnExactDryAtx2
namespace Go.Proofs.YthglhfhepooggaaDoor.WkDryAt
set_option linter.unusedVariables false
set_option linter.unusedSimpArgs false
open Go.Sort
open Go.RowKit Go.Proofs.YthglhfhepooggaaDoorW.PrintWords Go.Proofs.YthglhfhepooggaaDoorW.PrintLast Go.Proofs.YthglhfhepooggaaDoorW.PrintMore Sh WkMirrorShore PFnExactDryAt

def row (n : Nat) (D : Nat → Bool) : List UInt8 := (List.range n).map fun k => if D k = true then 111 else 46
def val (s t : ByteArray) (h : Int) (D : Nat → Bool) : ByteArray × Bool := if (okShore s && okTide t) = true ∧ 0 ≤ h ∧ h ≤ 1000 then (⟨(row s.size D).toArray⟩, true) else (⟨#[]⟩, false)
theorem holds_lt {w : World} {g : Nat} {l : List UInt8} (h : Holds encB w g 0 l.toArray) (hl : 0 < l.length) : g < w.heap.size := World.block_lt_of_cell? w ⟨g, 0 + 0, none⟩ (h 0 (by simpa using hl)).1
theorem holds_below {w W : World} {g : Nat} {l : List UInt8} (h : Holds encB w g 0 l.toArray) (hl : 0 < l.length) (hb : Below w.heap.size w W) : Holds encB W g 0 l.toArray := fun j hj =>
  ⟨(hb.cell (p := ⟨g, 0 + j, none⟩) (holds_lt h hl)).trans (h j hj).1, (hb.frozen (p := ⟨g, 0 + j, none⟩) (holds_lt h hl)).trans (h j hj).2⟩
theorem holds_set {w : World} {g : Nat} {l : List UInt8} (h : Holds encB w g 0 l.toArray) (i : Nat) (hi : i < l.length) (x : UInt8) : Holds encB (w.setCell ⟨g, i, none⟩ (encB x)) g 0 (l.set i x).toArray := by
  have e := putRow_set encB w g 0 l.toArray i x (by simpa using hi)
  rw [putRow_self encB w g 0 l.toArray h, Nat.zero_add] at e
  have e2 : w.setCell ⟨g, i, none⟩ (encB x) = putRow encB w g 0 (l.set i x).toArray := by
    first
      | (rw [e]; simp; done)
      | (rw [← e]; simp; done)
      | (simpa using e)
      | (simpa using e.symm)
  rw [e2]
  exact holds_putRow encB w g 0 l.toArray (l.set i x).toArray h (by simp)
theorem cur_set {l X : List UInt8} {k : Nat} {x : UInt8} (hk : k < l.length) (hX : X[k]? = some x) (hl : X.length = l.length) : (X.take k ++ l.drop k).set k x = X.take (k + 1) ++ l.drop (k + 1) := by
  apply List.ext_getElem?
  intro j
  have hkx : k < X.length := by omega
  rcases Nat.lt_trichotomy j k with h | h | h
  · rw [List.getElem?_set_ne (by omega), List.getElem?_append_left (by rw [List.length_take]; omega), List.getElem?_append_left (by rw [List.length_take]; omega), List.getElem?_take_of_lt h, List.getElem?_take_of_lt (by omega)]
  · subst h
    rw [List.getElem?_set_self (by simp; omega), List.getElem?_append_left (by rw [List.length_take]; omega), List.getElem?_take_of_lt (by omega), hX]
  · rw [List.getElem?_set_ne (by omega), List.getElem?_append_right (by rw [List.length_take]; omega), List.getElem?_append_right (by rw [List.length_take]; omega), List.getElem?_drop, List.getElem?_drop]
    congr 1
    simp only [List.length_take]
    omega

set_option maxHeartbeats 4000000 in
set_option maxRecDepth 100000 in
theorem yes (s t : ByteArray) (h : Int) (D : Nat → Bool) (w : World) (hs : s.size ≤ 140737488351232) (ht : t.size ≤ 140737488351232) (ho : (okShore s && okTide t) = true) (hh : 0 ≤ h ∧ h ≤ 1000)
    (hD : ∀ k, k < s.size → impl_isDry.f s t ((k : Int) + 1) h = some (D k)) :
    Calls Tryd.prog 28 #[.string s, .string t, .int .i64 h] w fun e w' => e = .returned (.tuple #[.string ⟨(row s.size D).toArray⟩, .bool true]) ∧ Below w.heap.size w w' := by
  have c1 := areShore s t w hs ht
  rw [ho] at c1
  have hz := okShore_size (Bool.and_eq_true _ _ |>.mp ho).1
  have hz1 : 1 ≤ s.size := hz.1
  have hz2 : s.size ≤ 14 := hz.2
  have hlen : s.data.toList.length = s.size := size_list s
  have HL := Aside0.mk hlen
  have hs2 : s.size ≤ 9223372036854775807 := by omega
  have HH : Aside0 (impl_isHour.f h = some true) := ⟨by unfold impl_isHour.f impl_within.f; rw [if_pos hh.1, Option.bind_some, decide_eq_true hh.2]⟩
  have HD := Aside0.mk hD
  have HX : Aside0 ((row s.size D).length = s.size ∧ ∀ k, k < s.size → (row s.size D)[k]? = some (if D k = true then 111 else 46)) := ⟨by simp [row], fun k hk => by simp [row, hk]⟩
  generalize row s.size D = X at HX ⊢
  have hconv := fun (w : World) (s : ByteArray) => Lib.run_convert_string_bytes (P := Tryd.prog) w 9 40 5 s Tryd.underlying9 Tryd.underlying40 Tryd.underlying5
  clear hlen hz hD ho hh
  go_enter Tryd.func28, Tryd.ntmps28
  go_wp2_with fail
  refine c1.mono ?_
  clear c1
  rintro e w1 ⟨rfl, hb⟩
  have HB := Aside0.mk hb
  clear hb
  go_wp2_with fail
  refine (impl_isHour.calls _ _ _ HH.out).mono ?_
  rintro e w2 ⟨rfl, ⟨nd, rfl⟩⟩
  replace HB := Aside0.mk (pw_below_drewN HB.out nd)
  generalize w1.drewN nd = w2 at HB ⊢
  go_wp2_with fail
  clear hconv
  have HS := Aside0.mk (holds_bytes w2 s)
  have HG : Aside0 (w.heap.size ≤ w2.heap.size) := ⟨HB.out.size⟩
  have HB2 := Aside0.mk (HB.out.trans ((below_bytes w2 s).mono HB.out.size))
  generalize hcap : grownCap w2 s.size 0 5 = cap
  generalize Lib.bytesWorld w2 5 s = w3 at HS HB2 ⊢
  clear hcap
  generalize w2.heap.size = g at HS HG ⊢
  clear HB
  have HSl : Aside0 (Holds encB w3 g 0 (X.take 0 ++ s.data.toList.drop 0).toArray) := ⟨by simpa using HS.out⟩
  clear HS
  go_loopw [23] (fun i wr => ∃ k : Nat, k ≤ s.size ∧ i = .int .i64 k ∧ Aside0 (Holds encB wr g 0 (X.take k ++ s.data.toList.drop k).toArray) ∧ Aside0 (Below w.heap.size w wr)) (fun i _ => s.size - (intOf i).toNat)
  case atStart => exact ⟨0, Nat.zero_le _, rfl, HSl, HB2⟩
  case round =>
    clear HSl HB2
    obtain ⟨k, hk, rfl, HS, HB⟩ := hrel
    by_cases hlt : k < s.size
    · have hcl : (X.take k ++ s.data.toList.drop k).length = s.size := by rw [List.length_append, List.length_take, List.length_drop, HL.out, HX.out.1]; omega
      have hc := HS.out k (by simp [HX.out.1, HL.out]; omega)
      have hc1 := hc.1
      have hf1 := hc.2
      rw [Nat.zero_add] at hc1 hf1
      have HS1 : Aside0 (Holds encB (wr.setCell ⟨g, k, none⟩ (.int .u8 46)) g 0 ((X.take k ++ s.data.toList.drop k).set k 46).toArray) := ⟨holds_set HS.out k (by omega) 46⟩
      have HB1 := Aside0.mk (below_set (j := k) (v := .int .u8 46) HB.out HG.out)
      have HC : Aside0 (((X.take k ++ s.data.toList.drop k).set k 46).length = s.size) := ⟨by rw [List.length_set]; exact hcl⟩
      have HDk := Aside0.mk (HD.out k hlt)
      have HXk := Aside0.mk (HX.out.2 k hlt)
      clear hc hcl
      cases hdk : D k with
      | true =>
        rw [hdk] at HDk HXk
        replace HXk : Aside0 (X[k]? = some (111 : UInt8)) := ⟨by simpa using HXk.out⟩
        clear hdk
        go_wp2_with fail
        refine (impl_isDry.calls _ _ _ _ _ _ HDk.out).mono ?_
        rintro e w4 ⟨rfl, ⟨nd4, rfl⟩⟩
        have HB4 := Aside0.mk (pw_below_drewN HB1.out nd4)
        have HS4 := Aside0.mk (holds_below HS1.out (by rw [HC.out]; omega) (pw_below_drewN (Below.refl _ _) nd4))
        clear hc1 hf1
        generalize (wr.setCell ⟨g, k, none⟩ (.int .u8 46)).drewN nd4 = w5 at HB4 HS4 ⊢
        have hc5 := HS4.out k (by simpa [HC.out] using hlt)
        have hc6 := hc5.1
        have hf6 := hc5.2
        rw [Nat.zero_add] at hc6 hf6
        have HS5 : Aside0 (Holds encB (w5.setCell ⟨g, k, none⟩ (.int .u8 111)) g 0 (X.take (k + 1) ++ s.data.toList.drop (k + 1)).toArray) := ⟨by
          have h5 := holds_set HS4.out k (by rw [HC.out]; exact hlt) 111
          rw [List.set_set, cur_set (by rw [HL.out]; exact hlt) HXk.out (by rw [HL.out, HX.out.1])] at h5
          exact h5⟩
        have HB5 := Aside0.mk (below_set (j := k) (v := .int .u8 111) HB4.out HG.out)
        clear hc5
        go_wp2
        go_roundw
        case rel => exact ⟨k + 1, by omega, by go_num, HS5, HB5⟩
        case measure => simp [intOf]; omega
      | false =>
        rw [hdk] at HDk HXk
        replace HXk : Aside0 (X[k]? = some (46 : UInt8)) := ⟨by simpa using HXk.out⟩
        clear hdk
        go_wp2_with fail
        refine (impl_isDry.calls _ _ _ _ _ _ HDk.out).mono ?_
        rintro e w4 ⟨rfl, ⟨nd4, rfl⟩⟩
        have HB4 := Aside0.mk (pw_below_drewN HB1.out nd4)
        have HS4 : Aside0 (Holds encB ((wr.setCell ⟨g, k, none⟩ (.int .u8 46)).drewN nd4) g 0 (X.take (k + 1) ++ s.data.toList.drop (k + 1)).toArray) := ⟨by
          have h5 := holds_below HS1.out (by rw [HC.out]; omega) (pw_below_drewN (Below.refl _ _) nd4)
          rw [cur_set (by rw [HL.out]; exact hlt) HXk.out (by rw [HL.out, HX.out.1])] at h5
          exact h5⟩
        clear hc1 hf1
        generalize (wr.setCell ⟨g, k, none⟩ (.int .u8 46)).drewN nd4 = w5 at HB4 HS4 ⊢
        go_wp2
        go_roundw
        case rel => exact ⟨k + 1, by omega, by go_num, HS4, HB4⟩
        case measure => simp [intOf]; omega
    · obtain rfl : k = s.size := by omega
      have HF : Aside0 (Holds encB wr g 0 X.toArray) := ⟨by
        have h5 := HS.out
        rw [List.take_of_length_le (by rw [HX.out.1]; omega), List.drop_of_length_le (by rw [HL.out]; omega), List.append_nil] at h5
        exact h5⟩
      have hback : (convert 40 9 (.slice (some ⟨g, 0, none⟩) s.size cap)).run Tryd.prog wr = .ok (.string ⟨X.toArray⟩) wr := by
        have h6 := HX.out.1
        rw [← h6]
        refine run_convert_bytes_back _ 40 9 5 ⟨g, 0, none⟩ cap X Tryd.underlying40 Tryd.underlying5 Tryd.underlying9 (fun j hj => ?_)
        have h7 := (HF.out j (by simpa using hj)).1
        rw [show (⟨g, 0, none⟩ : Addr).add j = ⟨g, 0 + j, none⟩ by unfold Addr.add; split <;> simp_all, h7]
        simp [encB, hj]
      go_wp2
      go_ret2
      exact ⟨rfl, HB.out⟩

set_option maxHeartbeats 4000000 in
set_option maxRecDepth 100000 in
theorem impl (s t : ByteArray) (h : Int) (D : Nat → Bool) (w : World) (hs : s.size ≤ 140737488351232) (ht : t.size ≤ 140737488351232)
    (hD : (okShore s && okTide t) = true → 0 ≤ h → h ≤ 1000 → ∀ k, k < s.size → impl_isDry.f s t ((k : Int) + 1) h = some (D k)) :
    Calls Tryd.prog 28 #[.string s, .string t, .int .i64 h] w fun e w' => e = .returned (.tuple #[.string (val s t h D).1, .bool (val s t h D).2]) ∧ Below w.heap.size w w' := by
  unfold val
  have c1 := areShore s t w hs ht
  cases ho : (okShore s && okTide t) with
  | false =>
    rw [ho] at c1
    rw [if_neg (by simp)]
    clear ho hD
    go_enter Tryd.func28, Tryd.ntmps28
    go_wp2_with fail
    refine c1.mono ?_
    clear c1
    rintro e w1 ⟨rfl, hb⟩
    have HB := Aside0.mk hb
    clear hb
    go_wp2_with fail
    go_ret2
    exact ⟨rfl, HB.out⟩
  | true =>
    by_cases hh : 0 ≤ h ∧ h ≤ 1000
    · rw [if_pos ⟨rfl, hh⟩]
      exact yes s t h D w hs ht ho hh (hD ho hh.1 hh.2)
    · rw [if_neg (fun q => hh q.2)]
      rw [ho] at c1
      have HH : Aside0 (impl_isHour.f h = some false) := ⟨by
        unfold impl_isHour.f impl_within.f
        by_cases h2 : 0 ≤ h
        · rw [if_pos h2, Option.bind_some, decide_eq_false (by omega)]
        · rw [if_neg h2]; rfl⟩
      clear ho hD hh
      go_enter Tryd.func28, Tryd.ntmps28
      go_wp2_with fail
      refine c1.mono ?_
      clear c1
      rintro e w1 ⟨rfl, hb⟩
      have HB := Aside0.mk hb
      clear hb
      go_wp2_with fail
      refine (impl_isHour.calls _ _ _ HH.out).mono ?_
      rintro e w2 ⟨rfl, ⟨nd, rfl⟩⟩
      replace HB := Aside0.mk (pw_below_drewN HB.out nd)
      go_wp2_with fail
      go_ret2
      exact ⟨rfl, HB.out⟩
end Go.Proofs.YthglhfhepooggaaDoor.WkDryAt
