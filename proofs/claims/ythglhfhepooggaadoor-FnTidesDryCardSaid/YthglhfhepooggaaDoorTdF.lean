/- The plain facts that FnTidesDry asks of tides and shores: which places are dry always, never, at an hour; turned tides, raised stones, mirrored shores. -/
import Derived.Test.YthglhfhepooggaaDoorTdV
import Derived.Test.YthglhfhepooggaaDoorPFnTidesDryx7
namespace Go.Proofs.YthglhfhepooggaaDoor.TdF
set_option linter.unusedVariables false
set_option linter.unusedSimpArgs false
open Go.RowKit Go.Proofs.YthglhfhepooggaaDoorW.PrintWords Go.Proofs.YthglhfhepooggaaDoorW.PrintLast Go.Proofs.YthglhfhepooggaaDoorW.PrintMore Sh Td PFnTidesDry

/-! lists -/
theorem rise_l0 (l : List Int) (hl : l.length ≤ 1000) (hp : l.Pairwise (· < ·)) (d : Nat) : ∀ i : Nat, 1 ≤ i → l.length ≤ i + d → i ≤ 2000 → ∀ k, d < k → laws_dRises.l0 k l (i : Int) = some true := by
  induction d with
  | zero =>
    intro i hi hd h2 k hk
    obtain ⟨k, rfl⟩ : ∃ m, k = m + 1 := ⟨k - 1, by omega⟩
    simp only [laws_dRises.l0]
    rw [if_neg (by omega)]
  | succ d ih =>
    intro i hi hd h2 k hk
    obtain ⟨k, rfl⟩ : ∃ m, k = m + 1 := ⟨k - 1, by omega⟩
    by_cases c : i < l.length
    · obtain ⟨j, rfl⟩ : ∃ j, i = j + 1 := ⟨i - 1, by omega⟩
      have e1 : wrap64 (((j + 1 : Nat) : Int) - 1) = (j : Int) := by unfold wrap64; omega
      have e2 : wrap64 (((j + 1 : Nat) : Int) + 1) = ((j + 1 + 1 : Nat) : Int) := by unfold wrap64; omega
      have h3 := List.pairwise_iff_getElem.mp hp j (j + 1) (by omega) c (by omega)
      have g1 : rd l (j : Int) = l[j] := by unfold rd; simp [List.getD_eq_getElem?_getD, List.getElem?_eq_getElem (show j < l.length by omega)]
      have g2 : rd l ((j + 1 : Nat) : Int) = l[j + 1] := by unfold rd; rw [Int.toNat_natCast]; simp [List.getD_eq_getElem?_getD, List.getElem?_eq_getElem c]
      simp only [laws_dRises.l0]
      rw [if_pos (by omega), e1, if_pos (by omega), if_pos (by omega), if_pos (by omega), g1, g2, if_neg (by omega), e2]
      exact ih (j + 1 + 1) (by omega) (by omega) (by omega) k (by omega)
    · simp only [laws_dRises.l0]
      rw [if_neg (by omega)]
theorem rises (l : List Int) (hl : l.length ≤ 1000) (hp : l.Pairwise (· < ·)) : laws_dRises.f 2000 l = some true := rise_l0 l hl hp l.length 1 (by omega) (by omega) (by omega) 2000 (by omega)
theorem has_l0 (l : List Int) (a : Int) (hl : l.length ≤ 1000) (d : Nat) : ∀ i : Nat, i + d = l.length → ∀ k, d < k → laws_dHas.l0 k a l (l.length : Int) (i : Int) = some (decide (a ∈ l.drop i)) := by
  induction d with
  | zero =>
    intro i hi k hk
    obtain ⟨k, rfl⟩ : ∃ m, k = m + 1 := ⟨k - 1, by omega⟩
    simp only [laws_dHas.l0]
    rw [if_neg (by omega), List.drop_of_length_le (by omega)]
    simp
  | succ d ih =>
    intro i hi k hk
    obtain ⟨k, rfl⟩ : ∃ m, k = m + 1 := ⟨k - 1, by omega⟩
    have hlt : i < l.length := by omega
    have e2 : wrap64 ((i : Int) + 1) = ((i + 1 : Nat) : Int) := by unfold wrap64; omega
    have g1 : rd l (i : Int) = l[i] := by unfold rd; simp [List.getD_eq_getElem?_getD, List.getElem?_eq_getElem hlt]
    simp only [laws_dHas.l0]
    rw [if_pos (by omega), if_pos (by omega), if_pos (by omega), g1, e2, ih (i + 1) (by omega) k (by omega), List.drop_eq_getElem_cons hlt]
    by_cases c : l[i] = a
    · rw [if_pos c]; simp [c]
    · rw [if_neg c]
      congr 1
      apply Bool.eq_iff_iff.mpr
      simp only [decide_eq_true_eq, List.mem_cons]
      exact ⟨Or.inr, fun h => h.resolve_left (fun e => c e.symm)⟩
theorem has (l : List Int) (a : Int) (hl : l.length ≤ 1000) : laws_dHas.f 2000 l a = some (decide (a ∈ l)) := by
  have := has_l0 l a hl l.length 0 (by omega) 2000 (by omega)
  unfold laws_dHas.f
  simpa using this

/-! hours and stones -/
theorem dryB_eq (s t : ByteArray) (q : Nat) (h : Int) (hq : q < s.size) : dryB s t ((q + 1 : Nat) : Int) h = decide (bt s (q : Int) > bt t (h % (t.size : Int))) := by
  unfold dryB
  have e2 : ((q + 1 : Nat) : Int) - 1 = (q : Int) := by omega
  rw [decide_eq_false (show ¬ ((q + 1 : Nat) : Int) = 0 by omega), decide_eq_false (show ¬ ((q + 1 : Nat) : Int) = (s.size : Int) + 1 by omega), e2, Bool.false_or, Bool.false_or]
theorem mem_hours (s t : ByteArray) (p a : Int) : a ∈ hoursL s t p ↔ ∃ h : Nat, h < t.size ∧ dryB s t p (h : Int) = true ∧ a = (h : Int) := by
  unfold hoursL hoursFrom
  simp only [List.mem_map, List.mem_filter, List.mem_range'_1]
  constructor
  · rintro ⟨h, ⟨⟨_, h2⟩, h3⟩, rfl⟩
    exact ⟨h, by omega, h3, rfl⟩
  · rintro ⟨h, h2, h3, rfl⟩
    exact ⟨h, ⟨⟨by omega, by omega⟩, h3⟩, rfl⟩
theorem hours_rise (s t : ByteArray) (p : Int) : (hoursL s t p).Pairwise (· < ·) := by
  unfold hoursL hoursFrom
  rw [List.pairwise_map]
  refine (List.Pairwise.filter _ List.pairwise_lt_range').imp ?_
  intro a b h
  omega
theorem hours_len (s t : ByteArray) (p : Int) : (hoursL s t p).length ≤ t.size := hoursFrom_len s t p 0 t.size
theorem stones_len (s t : ByteArray) (n : Int) : (stonesL s t n).length ≤ s.size := stonesFrom_len s t n 0 s.size
theorem mem_stones (s t : ByteArray) (n : Int) (q : Nat) : ((q + 1 : Nat) : Int) ∈ stonesL s t n ↔ q < s.size ∧ stoneB s t n q = true := by
  unfold stonesL stonesFrom
  simp only [List.mem_map, List.mem_filter, List.mem_range'_1]
  constructor
  · rintro ⟨h, ⟨⟨_, h2⟩, h3⟩, e⟩
    obtain rfl : h = q := by omega
    exact ⟨by omega, h3⟩
  · rintro ⟨h2, h3⟩
    exact ⟨q, ⟨⟨by omega, by omega⟩, h3⟩, rfl⟩
theorem stones_rise (s t : ByteArray) (n : Int) : (stonesL s t n).Pairwise (· < ·) := by
  unfold stonesL stonesFrom
  rw [List.pairwise_map]
  refine (List.Pairwise.filter _ List.pairwise_lt_range').imp ?_
  intro a b h
  omega
theorem digs_of {s : ByteArray} (h : okShore s = true) : digs s = true := by unfold okShore at h; simp only [Bool.and_eq_true] at h; exact h.2
theorem digs_of' {s : ByteArray} (h : okTide s = true) : digs s = true := by unfold okTide at h; simp only [Bool.and_eq_true] at h; exact h.2
theorem bt_dig {s : ByteArray} (h : digs s = true) (i : Nat) (hi : i < s.size) : 48 ≤ bt s (i : Int) ∧ bt s (i : Int) ≤ 57 := by
  have := WkHighestHour.dig_at h i hi
  rw [TdH.bt_at s i hi]
  omega
theorem emod_nat (h : Int) (t : ByteArray) (ht : 1 ≤ t.size) : ∃ m : Nat, h % (t.size : Int) = (m : Int) ∧ m < t.size := by
  have a := Int.emod_nonneg h (show (t.size : Int) ≠ 0 by omega)
  have b := Int.emod_lt_of_pos h (show (0 : Int) < (t.size : Int) by omega)
  exact ⟨(h % (t.size : Int)).toNat, by omega, by omega⟩
theorem none_dry (s t : ByteArray) (q : Nat) (ht : okTide t = true) (hq : q < s.size) (hb : bt s (q : Int) ≤ 48) : hoursL s t ((q + 1 : Nat) : Int) = [] := by
  apply List.eq_nil_iff_forall_not_mem.mpr
  intro a ha
  obtain ⟨h, h1, h2, _⟩ := (mem_hours s t _ a).mp ha
  obtain ⟨m, e, hm⟩ := emod_nat (h : Int) t (okTide_size ht).1
  rw [dryB_eq s t q _ hq, e] at h2
  have := bt_dig (digs_of' ht) m hm
  have := of_decide_eq_true h2
  omega
theorem all_dry (s t : ByteArray) (q : Nat) (hq : q < s.size) : (hoursL s t ((q + 1 : Nat) : Int)).length = t.size ↔ ∀ m : Nat, m < t.size → bt t (m : Int) < bt s (q : Int) := by
  have e : (hoursL s t ((q + 1 : Nat) : Int)).length = t.size ↔ ∀ a ∈ List.range' 0 t.size, dryB s t ((q + 1 : Nat) : Int) ((a : Nat) : Int) = true := by
    unfold hoursL hoursFrom
    rw [List.length_map]
    have := List.length_filter_eq_length_iff (p := fun h : Nat => dryB s t ((q + 1 : Nat) : Int) ((h : Nat) : Int)) (l := List.range' 0 t.size)
    rw [List.length_range'] at this
    exact this
  rw [e]
  simp only [List.mem_range'_1]
  constructor
  · intro h m hm
    have := h m ⟨by omega, by omega⟩
    rw [dryB_eq s t q _ hq, Int.emod_eq_of_lt (by omega) (by omega)] at this
    exact of_decide_eq_true this
  · intro h m hm
    rw [dryB_eq s t q _ hq, Int.emod_eq_of_lt (by omega) (by omega)]
    exact decide_eq_true (h m (by omega))
/-- How high water stands at most. -/
theorem high_is {t : ByteArray} (ht : okTide t = true) : ∃ j : Nat, j < t.size ∧ WkHighestHour.val t = (bt t (j : Int) - 48, (j : Int), true) ∧ ∀ m : Nat, m < t.size → bt t (m : Int) ≤ bt t (j : Int) := by
  have hz := okTide_size ht
  have hb := WkHighestHour.best_le t.data.toList (t.size - 1)
  refine ⟨WkHighestHour.best t.data.toList (t.size - 1), by omega, ?_, ?_⟩
  · unfold WkHighestHour.val
    rw [if_pos ht, TdH.bt_at t _ (by omega)]
  · intro m hm
    rw [TdH.bt_at t _ hm, TdH.bt_at t _ (by omega)]
    have := WkHighestHour.best_max t.data.toList (t.size - 1) m (by omega)
    omega
inductive Place (s t : ByteArray) (q : Nat) (hi : Int) : Prop
  | low (a : ¬ 48 < bt s (q : Int)) (b : (hoursL s t ((q + 1 : Nat) : Int)).length = 0) (c : ¬ ((q + 1 : Nat) : Int) ∈ stonesL s t (t.size : Int)) (d : ¬ ((q + 1 : Nat) : Int) ∈ stonesL s t 0) (e : ¬ hi < (bt s (q : Int) - 48) % 256)
  | always (a : 48 < bt s (q : Int)) (b : (hoursL s t ((q + 1 : Nat) : Int)).length = t.size) (c : ((q + 1 : Nat) : Int) ∈ stonesL s t (t.size : Int)) (d : ¬ ((q + 1 : Nat) : Int) ∈ stonesL s t 0) (e : hi < (bt s (q : Int) - 48) % 256)
  | never (a : 48 < bt s (q : Int)) (b : (hoursL s t ((q + 1 : Nat) : Int)).length = 0) (c : ¬ ((q + 1 : Nat) : Int) ∈ stonesL s t (t.size : Int)) (d : ((q + 1 : Nat) : Int) ∈ stonesL s t 0) (e : ¬ hi < (bt s (q : Int) - 48) % 256)
  | between (a : 48 < bt s (q : Int)) (b : (hoursL s t ((q + 1 : Nat) : Int)).length ≠ 0) (b' : (hoursL s t ((q + 1 : Nat) : Int)).length ≠ t.size) (c : ¬ ((q + 1 : Nat) : Int) ∈ stonesL s t (t.size : Int)) (d : ¬ ((q + 1 : Nat) : Int) ∈ stonesL s t 0) (e : ¬ hi < (bt s (q : Int) - 48) % 256)
theorem place (s t : ByteArray) (q : Nat) (hs : okShore s = true) (ht : okTide t = true) (hq : q < s.size) : Place s t q (WkHighestHour.val t).1 := by
  have hz := okTide_size ht
  have hd := bt_dig (digs_of hs) q hq
  obtain ⟨j, hj, hv, hmax⟩ := high_is ht
  rw [hv]
  have hdj := bt_dig (digs_of' ht) j hj
  have hm : (bt s (q : Int) - 48) % 256 = bt s (q : Int) - 48 := Int.emod_eq_of_lt (by omega) (by omega)
  have ha := all_dry s t q hq
  have sa := mem_stones s t (t.size : Int) q
  have sn := mem_stones s t 0 q
  by_cases c1 : 48 < bt s (q : Int)
  · by_cases c2 : (hoursL s t ((q + 1 : Nat) : Int)).length = t.size
    · refine .always c1 c2 ?_ ?_ ?_
      · rw [sa]; refine ⟨hq, ?_⟩; unfold stoneB; rw [decide_eq_true c1, c2]; simp
      · rw [sn]; intro ⟨_, h⟩; unfold stoneB at h; rw [c2] at h; simp only [Bool.and_eq_true, decide_eq_true_eq] at h; omega
      · have := ha.mp c2 j hj; rw [hm]; show bt t (j : Int) - 48 < _; omega
    · have c2' : ¬ (bt t (j : Int) - 48 < (bt s (q : Int) - 48) % 256) := by
        rw [hm]; intro h; exact c2 (ha.mpr (fun m hm2 => by have := hmax m hm2; omega))
      have n1 : ¬ ((q + 1 : Nat) : Int) ∈ stonesL s t (t.size : Int) := by
        rw [sa]; intro ⟨_, h⟩; unfold stoneB at h; simp only [Bool.and_eq_true, decide_eq_true_eq] at h; omega
      by_cases c3 : (hoursL s t ((q + 1 : Nat) : Int)).length = 0
      · refine .never c1 c3 n1 ?_ c2'
        rw [sn]; refine ⟨hq, ?_⟩; unfold stoneB; rw [decide_eq_true c1, c3]; simp
      · refine .between c1 c3 c2 n1 ?_ c2'
        rw [sn]; intro ⟨_, h⟩; unfold stoneB at h; simp only [Bool.and_eq_true, decide_eq_true_eq] at h; omega
  · have e0 := none_dry s t q ht hq (by omega)
    refine .low c1 (by rw [e0]; rfl) ?_ ?_ ?_
    · rw [sa]; intro ⟨_, h⟩; unfold stoneB at h; simp only [Bool.and_eq_true, decide_eq_true_eq] at h; omega
    · rw [sn]; intro ⟨_, h⟩; unfold stoneB at h; simp only [Bool.and_eq_true, decide_eq_true_eq] at h; omega
    · rw [hm]; show ¬ bt t (j : Int) - 48 < _; omega

/-! the river of an hour -/
def river (s t : ByteArray) (h : Int) : ByteArray := ⟨(WkDryAt.row s.size (TdA.dk s t h)).toArray⟩
theorem river_size (s t : ByteArray) (h : Int) : (river s t h).size = s.size := by
  show (WkDryAt.row s.size (TdA.dk s t h)).toArray.size = s.size
  simp [WkDryAt.row]
theorem river_bytes (s t : ByteArray) (h : Int) : ∀ x ∈ (river s t h).data.toList, x = 111 ∨ x = 46 := by
  intro x hx
  have hx' : x ∈ WkDryAt.row s.size (TdA.dk s t h) := by simpa [river] using hx
  unfold WkDryAt.row at hx'
  obtain ⟨k, _, rfl⟩ := List.mem_map.mp hx'
  split
  · exact .inl rfl
  · exact .inr rfl
theorem river_bt (s t : ByteArray) (h : Int) (q : Nat) (hq : q < s.size) : bt (river s t h) (q : Int) = if TdA.dk s t h q = true then 111 else 46 := by
  rw [TdH.bt_at _ q (by rw [river_size]; exact hq)]
  unfold WkHighestHour.at_
  have e : (river s t h).data.toList = WkDryAt.row s.size (TdA.dk s t h) := by simp [river]
  rw [e]
  unfold WkDryAt.row
  rw [List.getD_eq_getElem?_getD, List.getElem?_map, List.getElem?_range hq]
  simp only [Option.map_some, Option.getD_some]
  split <;> rfl
theorem dk_eq (s t : ByteArray) (h : Int) (q : Nat) (hq : q < s.size) : TdA.dk s t h q = decide (bt s (q : Int) > bt t (h % (t.size : Int))) := by
  unfold TdA.dk
  exact dryB_eq s t q h hq
theorem river_has (s t : ByteArray) (h : Int) (q : Nat) (ht : okTide t = true) (hq : q < s.size) : decide (h % (t.size : Int) ∈ hoursL s t ((q + 1 : Nat) : Int)) = (bt (river s t h) (q : Int) == 111) := by
  obtain ⟨m, e, hm⟩ := emod_nat h t (okTide_size ht).1
  rw [river_bt s t h q hq, dk_eq s t h q hq, e]
  have g : ((m : Int) ∈ hoursL s t ((q + 1 : Nat) : Int)) ↔ bt s (q : Int) > bt t (m : Int) := by
    rw [mem_hours]
    constructor
    · rintro ⟨h', h1, h2, h3⟩
      obtain rfl : m = h' := by omega
      rw [dryB_eq s t q _ hq, Int.emod_eq_of_lt (by omega) (by omega)] at h2
      exact of_decide_eq_true h2
    · intro h2
      refine ⟨m, hm, ?_, rfl⟩
      rw [dryB_eq s t q _ hq, Int.emod_eq_of_lt (by omega) (by omega)]
      exact decide_eq_true h2
  by_cases c : bt s (q : Int) > bt t (m : Int)
  · rw [decide_eq_true (g.mpr c), decide_eq_true c]; rfl
  · rw [decide_eq_false (fun x => c (g.mp x)), decide_eq_false c]; rfl

/-! turned tides -/
theorem ext_list {a b : ByteArray} (h : a.data.toList = b.data.toList) : a = b := TdT.ext_list h
def turned (t : ByteArray) (m : Nat) : ByteArray := t.extract m t.size ++ t.extract 0 m
theorem turned_list (t : ByteArray) (m : Nat) : (turned t m).data.toList = t.data.toList.drop m ++ t.data.toList.take m := by
  unfold turned
  simp only [ByteArray.data_append, Array.toList_append, ByteArray.data_extract, Array.toList_extract, List.extract_eq_take_drop]
  congr 1
  · rw [List.take_of_length_le]
    rw [List.length_drop, size_list]
    omega
theorem turned_size (t : ByteArray) (m : Nat) : (turned t m).size = t.size := by
  rw [← size_list, turned_list, List.length_append, List.length_drop, List.length_take, size_list]
  omega
theorem turned_digs (t : ByteArray) (m : Nat) (h : digs t = true) : digs (turned t m) = true := by
  unfold digs at h ⊢
  rw [turned_list, List.all_append]
  have h1 := List.all_eq_true.mp h
  rw [Bool.and_eq_true]
  exact ⟨List.all_eq_true.mpr (fun x hx => h1 x (List.mem_of_mem_drop hx)), List.all_eq_true.mpr (fun x hx => h1 x (List.mem_of_mem_take hx))⟩
theorem turned_ok (t : ByteArray) (m : Nat) (h : okTide t = true) : okTide (turned t m) = true := by
  unfold okTide at h ⊢
  rw [Bool.and_eq_true] at h ⊢
  rw [turned_size]
  exact ⟨h.1, turned_digs t m h.2⟩
theorem turn_is (t : ByteArray) (a : Int) (m : Nat) (h : okTide t = true) (e : a = (m : Int)) (hm : m < t.size) : WkTurnTide.val t a = (turned t m, true) := by
  subst e
  unfold WkTurnTide.val
  rw [if_pos ⟨h, by omega, by omega⟩]
  rfl
theorem turned_bt (t : ByteArray) (m : Nat) (hm : m < t.size) : bt (turned t m) 0 = bt t (m : Int) := by
  have h2 : m < t.data.toList.length := by rw [size_list]; exact hm
  have e := TdH.bt_at (turned t m) 0 (by rw [turned_size]; omega)
  rw [TdH.bt_at t m hm]
  refine Eq.trans e ?_
  unfold WkHighestHour.at_
  rw [turned_list, List.drop_eq_getElem_cons h2]
  simp [List.getD_eq_getElem?_getD, List.getElem?_eq_getElem h2]
theorem turned_river (s t : ByteArray) (h : Int) (m : Nat) (hs : okShore s = true) (ht : okTide t = true) (e : h % (t.size : Int) = (m : Int)) (hm : m < t.size) : WkDryAt.val s (turned t m) 0 (TdA.dk s (turned t m) 0) = (river s t h, true) := by
  unfold WkDryAt.val
  rw [if_pos ⟨by rw [hs, turned_ok t m ht]; rfl, by omega, by omega⟩]
  unfold river
  congr 3
  unfold WkDryAt.row
  apply List.map_congr_left
  intro k hk
  have hk2 : k < s.size := List.mem_range.mp hk
  rw [dk_eq _ _ _ k hk2, dk_eq _ _ _ k hk2, e, Int.zero_emod, turned_bt t m hm]
theorem turned_back (v : ByteArray) (n : Int) (h : okTide v = true) (h0 : 0 ≤ n) (h1 : n ≤ (v.size : Int) - 1) : WkTurnTide.val (turned v n.toNat) (((v.size : Int) - n) % (v.size : Int)) = (v, true) := by
  obtain ⟨k, rfl⟩ : ∃ k : Nat, n = (k : Int) := ⟨n.toNat, by omega⟩
  have hz := okTide_size h
  rw [Int.toNat_natCast]
  have hl : v.data.toList.length = v.size := size_list v
  by_cases hk : k = 0
  · subst hk
    have e : ((v.size : Int) - ((0 : Nat) : Int)) % (v.size : Int) = ((0 : Nat) : Int) := by simp
    rw [turn_is _ _ 0 (turned_ok v 0 h) e (by rw [turned_size]; omega)]
    refine Prod.ext (ext_list ?_) rfl
    dsimp only
    rw [turned_list, turned_list]
    simp
  · have e : ((v.size : Int) - (k : Int)) % (v.size : Int) = ((v.size - k : Nat) : Int) := by
      rw [Int.emod_eq_of_lt (by omega) (by omega)]; omega
    rw [turn_is _ _ (v.size - k) (turned_ok v k h) e (by rw [turned_size]; omega)]
    refine Prod.ext (ext_list ?_) rfl
    dsimp only
    rw [turned_list, turned_list]
    have hd : (v.data.toList.drop k).length = v.size - k := by rw [List.length_drop, hl]
    have d1 : (v.data.toList.drop k).drop (v.size - k) = [] := List.drop_of_length_le (by omega)
    have d2 : (v.data.toList.drop k).take (v.size - k) = v.data.toList.drop k := List.take_of_length_le (by omega)
    rw [List.drop_append_of_le_length (by omega), List.take_append_of_le_length (by omega), d1, d2, List.nil_append, List.take_append_drop]

/-! mirrored shores -/
theorem mirror_twice (w : ByteArray) (h : okShore w = true) : ∃ m, WkMirrorShore.val w = (m, true) ∧ WkMirrorShore.val m = (w, true) := by
  refine ⟨⟨w.data.toList.reverse.toArray⟩, ?_, ?_⟩
  · unfold WkMirrorShore.val; rw [if_pos h]
  · have e : okShore ⟨w.data.toList.reverse.toArray⟩ = true := by
      unfold okShore at h ⊢
      rw [Bool.and_eq_true] at h ⊢
      have hsz : (⟨w.data.toList.reverse.toArray⟩ : ByteArray).size = w.size := by
        rw [← size_list, ← size_list]; simp
      rw [hsz]
      refine ⟨h.1, ?_⟩
      have h2 := h.2
      unfold digs at h2 ⊢
      simpa using h2
    unfold WkMirrorShore.val
    rw [if_pos e]
    refine Prod.ext (ext_list ?_) rfl
    dsimp only
    simp

/-! raised stones -/
def T0 : ByteArray := ⟨#[48, 49, 50, 51, 52, 53, 54, 55, 56, 57]⟩
theorem T0_ok : okTide T0 = true := by decide
theorem T0_size : (T0.size : Int) = 10 := rfl
def T0b (v : Int) (h : Nat) : Bool := decide (v > bt T0 (((h : Nat) : Int) % 10))
theorem T0_len (m : Nat) (h0 : 48 ≤ m) (h1 : m ≤ 57) : (((List.range' 0 10).filter (T0b (m : Int))).length : Int) = (m : Int) - 48 := by
  obtain h | h | h | h | h | h | h | h | h | h : m = 48 ∨ m = 49 ∨ m = 50 ∨ m = 51 ∨ m = 52 ∨ m = 53 ∨ m = 54 ∨ m = 55 ∨ m = 56 ∨ m = 57 := by omega
  all_goals (subst h; decide)
theorem T0_nat : T0.size = 10 := rfl
theorem count (x : ByteArray) (q : Nat) (hq : q < x.size) (h0 : 48 ≤ bt x (q : Int)) (h1 : bt x (q : Int) ≤ 57) : ((hoursL x T0 ((q + 1 : Nat) : Int)).length : Int) = bt x (q : Int) - 48 := by
  have e : (List.range' 0 T0.size).filter (fun h => dryB x T0 ((q + 1 : Nat) : Int) ((h : Nat) : Int)) = (List.range' 0 10).filter (T0b (bt x (q : Int))) := by
    rw [T0_nat]
    apply List.filter_congr
    intro h _
    unfold T0b
    rw [dryB_eq x T0 q _ hq, T0_size]
  unfold hoursL hoursFrom
  rw [List.length_map, e]
  obtain ⟨m, hm⟩ : ∃ m : Nat, bt x (q : Int) = (m : Int) := ⟨(bt x (q : Int)).toNat, by omega⟩
  rw [hm]
  exact T0_len m (by omega) (by omega)
theorem raised (u : ByteArray) (k b : Int) (h : WkRaiseStone.can u k b) : ∃ x : ByteArray, WkRaiseStone.val u k b = (x, true) ∧ x.size = u.size ∧ okShore u = true ∧ okShore x = true ∧ 1 ≤ k ∧ k ≤ (u.size : Int) ∧ 1 ≤ b ∧ b ≤ 9 ∧ ((hoursL x T0 k).length : Int) = ((hoursL u T0 k).length : Int) + b := by
  have hc := h
  obtain ⟨h1, ⟨h2, h3⟩, ⟨h4, h5⟩, h6⟩ := h
  have hz := okShore_size h1
  obtain ⟨q, rfl⟩ : ∃ q : Nat, k = ((q + 1 : Nat) : Int) := ⟨k.toNat - 1, by omega⟩
  have hq : q < u.size := by omega
  have eq1 : ((((q + 1 : Nat) : Int)) - 1).toNat = q := by omega
  rw [eq1] at h6
  have hd := bt_dig (digs_of h1) q hq
  have hb := TdH.bt_at u q hq
  have hu := count u q hq hd.1 hd.2
  obtain ⟨n, hn⟩ : ∃ n : Nat, ((WkHighestHour.at_ u.data.toList q : Int) - 48 + b) = (n : Int) := ⟨((WkHighestHour.at_ u.data.toList q : Int) - 48 + b).toNat, by omega⟩
  have hn9 : n ≤ 9 := by omega
  let x : ByteArray := u.extract 0 q ++ ⟨#[WkRaiseStone.dig n]⟩ ++ u.extract (q + 1) u.size
  have hx : WkRaiseStone.val u ((q + 1 : Nat) : Int) b = (x, true) := by
    unfold WkRaiseStone.val
    rw [if_pos hc, eq1, hn]
    rfl
  have hlu : u.data.toList.length = u.size := size_list u
  have hl : x.data.toList = u.data.toList.take q ++ WkRaiseStone.dig n :: u.data.toList.drop (q + 1) := by
    show (u.extract 0 q ++ ⟨#[WkRaiseStone.dig n]⟩ ++ u.extract (q + 1) u.size).data.toList = _
    simp only [ByteArray.data_append, Array.toList_append, ByteArray.data_extract, Array.toList_extract, List.extract_eq_take_drop, List.drop_zero, Nat.sub_zero]
    rw [List.take_of_length_le (show (List.drop (q + 1) u.data.toList).length ≤ u.size - (q + 1) by rw [List.length_drop]; omega)]
    simp
  have hsz : x.size = u.size := by
    rw [← size_list, hl, List.length_append, List.length_cons, List.length_take, List.length_drop]
    omega
  have hdn := WkRaiseStone.dig_nat hn9
  have hx1 : okShore x = true := by
    unfold okShore at h1 ⊢
    rw [Bool.and_eq_true] at h1 ⊢
    rw [hsz]
    refine ⟨h1.1, ?_⟩
    have h2 := h1.2
    unfold digs at h2 ⊢
    have h3 := List.all_eq_true.mp h2
    rw [hl, List.all_append, List.all_cons]
    have i1 : isDig (WkRaiseStone.dig n) = true := by
      unfold isDig
      rw [Bool.and_eq_true]
      exact ⟨decide_eq_true (by omega), decide_eq_true (by omega)⟩
    rw [List.all_eq_true.mpr (fun y hy => h3 y (List.mem_of_mem_take hy)), i1, List.all_eq_true.mpr (fun y hy => h3 y (List.mem_of_mem_drop hy))]
    rfl
  have hbx : bt x (q : Int) = 48 + (n : Int) := by
    rw [TdH.bt_at x q (by omega)]
    unfold WkHighestHour.at_
    rw [hl]
    have : (u.data.toList.take q).length = q := by rw [List.length_take]; omega
    rw [List.getD_eq_getElem?_getD, List.getElem?_append_right (by omega), this, Nat.sub_self, List.getElem?_cons_zero, Option.getD_some]
    exact hdn
  have hux := count x q (by omega) (by omega) (by omega)
  exact ⟨x, hx, hsz, h1, hx1, by omega, by omega, h4, h5, by omega⟩
end Go.Proofs.YthglhfhepooggaaDoor.TdF
