/- Iterates of a map of the places, the cycles that impl.cycles tells, and how often an order is followed till it is the right one: plain Lean, out of the printed functions. Condition: the list is an order. -/
import Derived.Test.YtbfgiccfbaobnaaInv
import Derived.Test.YtbfgiccfbaobnaaPFnExactRoundsHomex9
import Derived.Test.YtbfgiccfbaobnaaPFnExactFollowOrderx2
namespace Go.Proofs.Ytbfgiccfbaobnaa.Rnd
set_option linter.unusedVariables false
set_option linter.unusedSimpArgs false
open Go.RowKit Go.Proofs.YtbfgiccfbaobnaaW.PrintWords Go.Proofs.YtbfgiccfbaobnaaW.PrintLast Go.Proofs.YtbfgiccfbaobnaaW.PrintMore PFnExactRoundsHome
section
def it (f : Nat → Nat) : Nat → Nat → Nat
  | 0, i => i
  | m + 1, i => f (it f m i)
variable {f : Nat → Nat} {n : Nat}
theorem it_lt (hf : ∀ i, i < n → f i < n) : ∀ m i, i < n → it f m i < n
  | 0, i, h => h
  | m + 1, i, h => hf _ (it_lt hf m i h)
theorem it_add (a : Nat) : ∀ b i, it f (b + a) i = it f b (it f a i)
  | 0, i => by simp [it]
  | b + 1, i => by rw [show b + 1 + a = (b + a) + 1 by omega]; simp only [it]; rw [it_add a b i]
theorem it_comm (a b i : Nat) : it f a (it f b i) = it f b (it f a i) := by rw [← it_add, ← it_add, Nat.add_comm]
theorem it_inj (hf : ∀ i, i < n → f i < n) (hi : ∀ i j, i < n → j < n → f i = f j → i = j) : ∀ m i j, i < n → j < n → it f m i = it f m j → i = j
  | 0, i, j, _, _, h => h
  | m + 1, i, j, a, b, h => it_inj hf hi m i j a b (hi _ _ (it_lt hf m i a) (it_lt hf m j b) h)
theorem it_mul {L i : Nat} (h : it f L i = i) : ∀ q, it f (q * L) i = i
  | 0 => by simp [it]
  | q + 1 => by rw [Nat.add_mul, Nat.one_mul, it_add, h, it_mul h q]
/-- The times of return are the multiples of the first. -/
theorem returns {L i : Nat} (hL : 0 < L) (h : it f L i = i) (hmin : ∀ k, 0 < k → k < L → it f k i ≠ i) (m : Nat) : it f m i = i ↔ L ∣ m := by
  constructor
  · intro hm
    have e : it f (m % L) i = i := by
      have := it_add (f := f) (m / L * L) (m % L) i
      rw [it_mul h, Nat.mod_add_div' m L, hm] at this
      exact this.symm
    have hlt := Nat.mod_lt m hL
    rcases Nat.eq_zero_or_pos (m % L) with z | z
    · exact Nat.dvd_of_mod_eq_zero z
    · exact absurd e (hmin _ z hlt)
  · rintro ⟨q, rfl⟩
    rw [Nat.mul_comm]; exact it_mul h q
theorem returns_along (hf : ∀ i, i < n → f i < n) (hi : ∀ i j, i < n → j < n → f i = f j → i = j) {L i : Nat} (hin : i < n) (hL : 0 < L) (h : it f L i = i) (hmin : ∀ k, 0 < k → k < L → it f k i ≠ i) (k m : Nat) : it f m (it f k i) = it f k i ↔ L ∣ m := by
  rw [it_comm]
  constructor
  · intro e; exact (returns hL h hmin m).mp (it_inj hf hi k _ _ (it_lt hf m i hin) hin e)
  · intro e; rw [(returns hL h hmin m).mpr e]
/-- A strictly increasing map of [0, n) into itself is the identity. -/
theorem rising_id {g : Nat → Nat} (hg : ∀ i, i < n → g i < n) (hr : ∀ i j, i < j → j < n → g i < g j) (i : Nat) (h : i < n) : g i = i := by
  have lo : ∀ i, i < n → i ≤ g i := by
    intro i
    induction i with
    | zero => intro _; omega
    | succ i ih => intro hi; have := ih (by omega); have := hr i (i + 1) (by omega) hi; omega
  have hi : ∀ d i, i + d + 1 = n → g i ≤ i := by
    intro d
    induction d with
    | zero => intro i hi; have := hg i (by omega); omega
    | succ d ih => intro i hi; have := ih (i + 1) (by omega); have := hr i (i + 1) (by omega) (by omega); omega
  have := lo i h
  have := hi (n - 1 - i) i (by omega)
  omega
theorem lcm_eq (a b : Nat) : a / Nat.gcd a b * b = Nat.lcm a b := by
  unfold Nat.lcm
  rw [Nat.div_mul_right_comm (Nat.gcd_dvd_left a b)]
end
theorem ev_step {α : Type} {g g' : Nat → Option α} {r : α} (h : ∀ k, g (k + 1) = g' k) (hg : Ev g' r) : Ev g r := by
  obtain ⟨K, hK⟩ := hg
  refine ⟨K + 1, fun k hk => ?_⟩
  obtain ⟨m, rfl⟩ : ∃ m, k = m + 1 := ⟨k - 1, by omega⟩
  rw [h]; exact hK m (by omega)
theorem ev_end {α : Type} {g : Nat → Option α} {r : α} (h : ∀ k, g (k + 1) = some r) : Ev g r := ev_step (g' := fun _ => some r) h (Ev.now r)
theorem w_id {x : Int} (h0 : -1000000000 ≤ x) (h1 : x ≤ 1000000000) : wrap64 x = x := by unfold wrap64; omega
/-- The place to which the boat at a place goes. -/
def nx (l : List Int) (i : Nat) : Nat := (l.getD i 0).toNat - 1
def Seen (s : List Bool) (x : Nat) : Prop := s.getD x false = true
theorem cnt_set : ∀ (s : List Bool) (a : Nat), a < s.length → s.getD a false = false → (s.set a true).count false + 1 = s.count false
  | [], a, h, _ => by simp at h
  | b :: s, 0, _, h => by
    have hb : b = false := h
    subst hb
    simp
  | b :: s, a + 1, h, h2 => by
    have ih := cnt_set s a (by simpa using h) (by simpa using h2)
    rw [List.set_cons_succ, List.count_cons, List.count_cons]
    omega
theorem cnt_pos {s : List Bool} {a : Nat} (h : a < s.length) (h2 : s.getD a false = false) : 0 < s.count false := by
  have := cnt_set s a h h2; omega
theorem getD_set (s : List Bool) (a x : Nat) (h : a < s.length) : (s.set a true).getD x false = true ↔ x = a ∨ s.getD x false = true := by
  rw [List.getD_eq_getElem?_getD, List.getD_eq_getElem?_getD]
  by_cases e : x = a
  · subst e
    rw [List.getElem?_set_self h]
    simp
  · rw [List.getElem?_set_ne (fun q => e q.symm)]
    simp [e]

structure Ok (l : List Int) : Prop where
  pos : 1 ≤ l.length
  le : l.length ≤ 8
  mem : ∀ x ∈ l, 1 ≤ x ∧ x ≤ l.length
  nd : l.Nodup
theorem Ok.at_ {l : List Int} (h : Ok l) {i : Nat} (hi : i < l.length) : rd l (i : Int) = (nx l i : Int) + 1 ∧ nx l i < l.length := by
  have hm := h.mem l[i] (List.getElem_mem hi)
  have e : l.getD i 0 = l[i] := by rw [List.getD_eq_getElem?_getD, List.getElem?_eq_getElem hi]; rfl
  have e2 : rd l (i : Int) = l[i] := by unfold rd; rw [Int.toNat_natCast]; exact e
  unfold nx
  rw [e2, e]
  omega
theorem Ok.lt {l : List Int} (h : Ok l) : ∀ i, i < l.length → nx l i < l.length := fun i hi => (h.at_ hi).2
theorem Ok.inj {l : List Int} (h : Ok l) : ∀ i j, i < l.length → j < l.length → nx l i = nx l j → i = j := by
  intro i j hi hj e
  have h1 := (h.at_ hi).1
  have h2 := (h.at_ hj).1
  rw [e] at h1
  have h3 : l[i] = l[j] := by
    have e1 : rd l (i : Int) = l[i] := by unfold rd; rw [Int.toNat_natCast, List.getD_eq_getElem?_getD, List.getElem?_eq_getElem hi]; rfl
    have e2 : rd l (j : Int) = l[j] := by unfold rd; rw [Int.toNat_natCast, List.getD_eq_getElem?_getD, List.getElem?_eq_getElem hj]; rfl
    rw [← e1, ← e2, h1, h2]
  exact (List.getElem_inj h.nd).mp h3

structure Cy (l : List Int) (xs : List (List Int)) (seen : List Bool) : Prop where
  len : seen.length = l.length
  clo : ∀ x, x < l.length → (Seen seen x ↔ Seen seen (nx l x))
  per : ∀ m, (∀ own ∈ xs, own.length ∣ m) ↔ (∀ x, x < l.length → Seen seen x → it (nx l) m x = x)
  pos : ∀ own ∈ xs, 1 ≤ own.length
  sum : (xs.map List.length).sum + seen.count false = l.length
theorem sum_len : ∀ xs : List (List Int), (∀ own ∈ xs, 1 ≤ own.length) → xs.length ≤ (xs.map List.length).sum
  | [], _ => by simp
  | x :: t, h => by
    have h1 := h x (by simp)
    have h2 := sum_len t (fun y hy => h y (by simp [hy]))
    simp; omega
theorem mem_sum : ∀ xs : List (List Int), ∀ own ∈ xs, own.length ≤ (xs.map List.length).sum
  | x :: t, own, h => by
    rcases List.mem_cons.1 h with h | h
    · rw [h]; simp
    · have := mem_sum t own h; simp; omega
structure In (l : List Int) (i : Nat) (seen0 : List Bool) (j : Nat) (seen : List Bool) : Prop where
  len : seen.length = l.length
  mem : ∀ x, x < l.length → (Seen seen x ↔ Seen seen0 x ∨ ∃ s, s < j ∧ it (nx l) s i = x)
  fresh : ∀ s, s < j → ¬ Seen seen0 (it (nx l) s i)
  dist : ∀ s t, s < t → t < j → it (nx l) s i ≠ it (nx l) t i
  cnt : j + seen.count false = seen0.count false
theorem In.start {l : List Int} {i : Nat} {seen0 : List Bool} (h : seen0.length = l.length) : In l i seen0 0 seen0 :=
  ⟨h, fun x _ => ⟨.inl, fun q => q.elim id (fun ⟨s, hs, _⟩ => absurd hs (Nat.not_lt_zero _))⟩, fun s hs => absurd hs (Nat.not_lt_zero _), fun s t _ ht => absurd ht (Nat.not_lt_zero _), by omega⟩
theorem In.step {l : List Int} {i j : Nat} {seen0 seen : List Bool} (hl : Ok l) (h : In l i seen0 j seen) (hi : i < l.length) (ha : seen.getD (it (nx l) j i) false = false) : In l i seen0 (j + 1) (seen.set (it (nx l) j i) true) := by
  have hlt := it_lt hl.lt j i hi
  have hns : ¬ Seen seen (it (nx l) j i) := by unfold Seen; rw [ha]; decide
  have hn := fun q => hns ((h.mem _ hlt).mpr q)
  refine ⟨by rw [List.length_set]; exact h.len, fun x hx => ?_, fun s hs => ?_, fun s t hst ht => ?_, ?_⟩
  · unfold Seen
    rw [getD_set _ _ _ (by rw [h.len]; exact hlt)]
    constructor
    · rintro (rfl | q)
      · exact .inr ⟨j, Nat.lt_succ_self _, rfl⟩
      · exact ((h.mem x hx).mp q).imp_right (fun ⟨s, hs, e⟩ => ⟨s, by omega, e⟩)
    · rintro (q | ⟨s, hs, e⟩)
      · exact .inr ((h.mem x hx).mpr (.inl q))
      · rcases Nat.lt_or_ge s j with h1 | h1
        · exact .inr ((h.mem x hx).mpr (.inr ⟨s, h1, e⟩))
        · exact .inl (by rw [← e, show s = j by omega])
  · rcases Nat.lt_or_ge s j with h1 | h1
    · exact h.fresh s h1
    · rw [show s = j by omega]; exact fun q => hn (.inl q)
  · rcases Nat.lt_or_ge t j with h1 | h1
    · exact h.dist s t hst h1
    · rw [show t = j by omega]
      exact fun e => hn (.inr ⟨s, by omega, e⟩)
  · have h2 := cnt_set seen _ (by rw [h.len]; exact hlt) ha
    have h3 := h.cnt
    omega
/-- Closed both ways: so is the way back. -/
theorem clo_it {l : List Int} {xs : List (List Int)} {seen : List Bool} (hl : Ok l) (h : Cy l xs seen) {i : Nat} (hi : i < l.length) : ∀ j, Seen seen (it (nx l) j i) ↔ Seen seen i
  | 0 => Iff.rfl
  | j + 1 => (h.clo _ (it_lt hl.lt j i hi)).symm.trans (clo_it hl h hi j)
theorem In.done {l : List Int} {xs : List (List Int)} {i j : Nat} {seen0 seen : List Bool} (hl : Ok l) (hc : Cy l xs seen0) (h : In l i seen0 j seen) (hi : i < l.length) (h0 : ¬ Seen seen0 i) (ha : Seen seen (it (nx l) j i)) :
    0 < j ∧ it (nx l) j i = i ∧ ∀ own : List Int, own.length = j → Cy l (xs ++ [own]) seen ∧ Seen seen i := by
  have hlt := it_lt hl.lt j i hi
  have hj : 0 < j := by
    rcases Nat.eq_zero_or_pos j with rfl | q
    · exact ((h.mem i hi).mp ha).elim (fun q => absurd q h0) (fun ⟨s, hs, _⟩ => absurd hs (Nat.not_lt_zero _))
    · exact q
  have hr : it (nx l) j i = i := by
    rcases (h.mem _ hlt).mp ha with q | ⟨t, ht, e⟩
    · exact absurd ((clo_it hl hc hi j).mp q) h0
    · rcases Nat.eq_zero_or_pos t with rfl | ht0
      · exact e.symm
      · exfalso
        obtain ⟨j', rfl⟩ : ∃ j', j = j' + 1 := ⟨j - 1, by omega⟩
        obtain ⟨t', rfl⟩ : ∃ t', t = t' + 1 := ⟨t - 1, by omega⟩
        have e2 := hl.inj _ _ (it_lt hl.lt t' i hi) (it_lt hl.lt j' i hi) e
        exact h.dist t' j' (by omega) (by omega) e2
  have hmin : ∀ k, 0 < k → k < j → it (nx l) k i ≠ i := fun k h1 h2 e => h.dist 0 k h1 h2 e.symm
  refine ⟨hj, hr, fun own hown => ⟨⟨h.len, fun x hx => ?_, fun m => ?_, fun o ho => ?_, ?_⟩, (h.mem i hi).mpr (.inr ⟨0, hj, rfl⟩)⟩⟩
  · rw [h.mem x hx, h.mem _ (hl.lt x hx), ← hc.clo x hx]
    constructor
    · rintro (q | ⟨s, hs, rfl⟩)
      · exact .inl q
      · rcases Nat.lt_or_ge (s + 1) j with h1 | h1
        · exact .inr ⟨s + 1, h1, rfl⟩
        · exact .inr ⟨0, hj, by have : s + 1 = j := by omega
                                rw [← this] at hr; exact hr.symm⟩
    · rintro (q | ⟨s, hs, e⟩)
      · exact .inl q
      · rcases Nat.eq_zero_or_pos s with rfl | hs0
        · obtain ⟨j', rfl⟩ : ∃ j', j = j' + 1 := ⟨j - 1, by omega⟩
          have e2 : nx l (it (nx l) j' i) = nx l x := hr.trans e
          exact .inr ⟨j', by omega, hl.inj _ _ (it_lt hl.lt j' i hi) hx e2⟩
        · obtain ⟨s', rfl⟩ : ∃ s', s = s' + 1 := ⟨s - 1, by omega⟩
          exact .inr ⟨s', by omega, hl.inj _ _ (it_lt hl.lt s' i hi) hx e⟩
  · constructor
    · intro hd x hx hs
      rcases (h.mem x hx).mp hs with q | ⟨s, hs, rfl⟩
      · exact (hc.per m).mp (fun o ho => hd o (by simp [ho])) x hx q
      · exact (returns_along hl.lt hl.inj hi hj hr hmin s m).mpr (by have := hd own (by simp); rwa [hown] at this)
    · intro hp o ho
      rcases List.mem_append.1 ho with ho | ho
      · exact (hc.per m).mpr (fun x hx hs => hp x hx ((h.mem x hx).mpr (.inl hs))) o ho
      · rw [List.mem_singleton.1 ho, hown]
        exact (returns hj hr hmin m).mp (hp i hi ((h.mem i hi).mpr (.inr ⟨0, hj, rfl⟩)))
  · rcases List.mem_append.1 ho with ho | ho
    · exact hc.pos o ho
    · rw [List.mem_singleton.1 ho, hown]; exact hj
  · have h1 := h.cnt
    have h2 := hc.sum
    simp only [List.map_append, List.sum_append, List.map_cons, List.map_nil, List.sum_cons, List.sum_nil, hown]
    omega
def Fine (l : List Int) (r : List (List Int)) : Prop := ∃ seen, Cy l r seen ∧ ∀ x, x < l.length → Seen seen x
theorem rdOf_eq (s : List Bool) (a : Nat) : rdOf false s (a : Int) = s.getD a false := by unfold rdOf; rw [Int.toNat_natCast]
theorem inner {l : List Int} (hl : Ok l) {i : Nat} (hi : i < l.length) (xs : List (List Int)) (seen0 : List Bool) (hc : Cy l xs seen0) (h0 : ¬ Seen seen0 i)
    (next : ∀ own seen, Cy l (xs ++ [own]) seen → (∀ x, x < l.length → Seen seen0 x → Seen seen x) → Seen seen i → ∃ r, Ev (fun k => impl_cycles.l0 k l (xs ++ [own]) seen (l.length : Int) ((i + 1 : Nat) : Int)) r ∧ Fine l r) :
    ∀ (d j : Nat) (own : List Int) (seen : List Bool), In l i seen0 j seen → own.length = j → seen.count false = d → ∃ r, Ev (fun k => impl_cycles.l1 k l xs seen own (it (nx l) j i : Int) (l.length : Int) (i : Int)) r ∧ Fine l r
  | d, j, own, seen, h, hown, hd => by
    have hlt := it_lt hl.lt j i hi
    have hl8 := hl.le
    have hxl : xs.length ≤ 8 := by have := sum_len xs hc.pos; have := hc.sum; omega
    have hj8 : j ≤ 8 := by have h1 := h.cnt; have h2 := hc.sum; omega
    by_cases ha : seen.getD (it (nx l) j i) false = true
    · obtain ⟨hj, hr, hn⟩ := h.done hl hc hi h0 ha
      obtain ⟨r, hr1, hr2⟩ := next own seen (hn own hown).1 (fun x hx q => (h.mem x hx).mpr (.inl q)) (hn own hown).2
      refine ⟨r, ev_step (fun k => ?_) hr1, hr2⟩
      simp only [impl_cycles.l1]
      rw [if_pos (by omega), if_pos (by rw [h.len]; omega), rdOf_eq, if_pos ha, if_pos (by omega), if_pos (by omega), w_id (by omega) (by omega)]
      rfl
    · have ha' : seen.getD (it (nx l) j i) false = false := by simpa using ha
      have hpos := cnt_pos (by rw [h.len]; exact hlt) ha'
      obtain ⟨d', rfl⟩ : ∃ d', d = d' + 1 := ⟨d - 1, by omega⟩
      have hst := h.step hl hi ha'
      have hcs := cnt_set seen _ (by rw [h.len]; exact hlt) ha'
      obtain ⟨r, hr1, hr2⟩ := inner hl hi xs seen0 hc h0 next d' (j + 1) (own ++ [(it (nx l) j i : Int)]) _ hst (by simp [hown]) (by omega)
      refine ⟨r, ev_step (fun k => ?_) hr1, hr2⟩
      have hrd := hl.at_ hlt
      simp only [impl_cycles.l1]
      rw [if_pos (by omega), if_pos (by rw [h.len]; omega), rdOf_eq, if_neg ha, if_pos (by omega), if_pos (by omega), Int.toNat_natCast, hrd.1, w_id (by omega) (by omega)]
      congr 1
      show (nx l (it (nx l) j i) : Int) + 1 - 1 = (nx l (it (nx l) j i) : Int)
      omega
theorem outer {l : List Int} (hl : Ok l) : ∀ (d i : Nat), i + d = l.length → ∀ (xs : List (List Int)) (seen : List Bool), Cy l xs seen → (∀ x, x < i → Seen seen x) → ∃ r, Ev (fun k => impl_cycles.l0 k l xs seen (l.length : Int) (i : Int)) r ∧ Fine l r
  | 0, i, hd, xs, seen, hc, hs => by
    refine ⟨xs, ev_end (fun k => ?_), seen, hc, fun x hx => hs x (by omega)⟩
    simp only [impl_cycles.l0]
    rw [if_neg (by omega)]
  | d + 1, i, hd, xs, seen, hc, hs => by
    have hi : i < l.length := by omega
    have hl8 := hl.le
    by_cases h0 : Seen seen i
    · obtain ⟨r, hr1, hr2⟩ := outer hl d (i + 1) (by omega) xs seen hc (fun x hx => by rcases Nat.lt_or_ge x i with h | h; exact hs x h; rw [show x = i by omega]; exact h0)
      refine ⟨r, ev_step (g' := fun k => impl_cycles.l1 k l xs seen [] (i : Int) (l.length : Int) (i : Int)) (fun k => ?_) (ev_step (fun k => ?_) hr1), hr2⟩
      · simp only [impl_cycles.l0]
        rw [if_pos (by omega)]
      · have h0' : seen.getD i false = true := h0
        simp only [impl_cycles.l1]
        rw [if_pos (by omega), if_pos (by rw [hc.len]; omega), rdOf_eq, if_pos h0', if_neg (by simp), w_id (by omega) (by omega)]
        rfl
    · obtain ⟨r, hr1, hr2⟩ := inner hl hi xs seen hc h0 (fun own seen' hc' hk hsi => outer hl d (i + 1) (by omega) (xs ++ [own]) seen' hc' (fun x hx => by rcases Nat.lt_or_ge x i with h | h; exact hk x (by omega) (hs x h); rw [show x = i by omega]; exact hsi)) _ 0 [] seen (In.start hc.len) rfl rfl
      refine ⟨r, ev_step (fun k => ?_) hr1, hr2⟩
      simp only [impl_cycles.l0]
      rw [if_pos (by omega)]
      rfl
theorem seen_none (n x : Nat) : ¬ Seen (List.replicate n false) x := by
  unfold Seen
  rw [List.getD_eq_getElem?_getD, List.getElem?_replicate]
  split <;> simp
/-- The cycles: an order is followed m times to the right one just where each one's length divides m. -/
theorem cycles {l : List Int} (hl : Ok l) : ∃ k r, impl_cycles.f k l = some r ∧ r.length ≤ 8 ∧ (∀ own ∈ r, 1 ≤ own.length ∧ own.length ≤ 8) ∧ ∀ m, (∀ own ∈ r, own.length ∣ m) ↔ ∀ x, x < l.length → it (nx l) m x = x := by
  have hl8 := hl.le
  have hc : Cy l [] (List.replicate l.length false) := ⟨by simp, fun x _ => ⟨fun q => absurd q (seen_none _ _), fun q => absurd q (seen_none _ _)⟩, fun m => ⟨fun _ x _ q => absurd q (seen_none _ _), (fun _ o ho => by cases ho)⟩, (fun o ho => by cases ho), by simp⟩
  obtain ⟨r, hr, seen, hc2, hs⟩ := outer hl l.length 0 (by omega) [] _ hc (fun x hx => absurd hx (Nat.not_lt_zero _))
  obtain ⟨k, hk⟩ := hr.rounds
  have hsum := hc2.sum
  refine ⟨k, r, ?_, by have := sum_len r hc2.pos; omega, fun own ho => ⟨hc2.pos own ho, by have := mem_sum r own ho; omega⟩, fun m => (hc2.per m).trans ⟨fun h x hx => h x hx (hs x hx), fun h x hx _ => h x hx⟩⟩
  unfold impl_cycles.f
  rw [if_pos (by omega), if_pos (by omega)]
  rw [Int.toNat_natCast]
  exact hk

/-! the least common multiple -/
def fl (o : Nat) (own : List Int) : Nat := o / Nat.gcd o own.length * own.length
def F (r : List (List Int)) : Nat := r.foldl fl 1
theorem fl_dvd (o : Nat) (own : List Int) (m : Nat) : fl o own ∣ m ↔ o ∣ m ∧ own.length ∣ m := by
  unfold fl
  rw [lcm_eq]
  exact Nat.lcm_dvd_iff
theorem fold_dvd (m : Nat) : ∀ (r : List (List Int)) (o : Nat), r.foldl fl o ∣ m ↔ o ∣ m ∧ ∀ own ∈ r, own.length ∣ m
  | [], o => by simp
  | x :: t, o => by
    rw [List.foldl_cons, fold_dvd m t, fl_dvd]
    simp only [List.mem_cons]
    constructor
    · rintro ⟨⟨h1, h2⟩, h3⟩
      exact ⟨h1, fun own ho => ho.elim (fun e => by rw [e]; exact h2) (h3 own)⟩
    · rintro ⟨h1, h2⟩
      exact ⟨⟨h1, h2 x (.inl rfl)⟩, fun own ho => h2 own (.inr ho)⟩
theorem F_dvd (r : List (List Int)) (m : Nat) : F r ∣ m ↔ ∀ own ∈ r, own.length ∣ m := by
  unfold F; rw [fold_dvd]; simp
theorem fl_pos {o : Nat} {own : List Int} (h1 : 1 ≤ o) (h2 : 1 ≤ own.length) : 1 ≤ fl o own := by
  unfold fl
  rw [lcm_eq]
  exact Nat.lcm_pos h1 h2
theorem fl_le {o : Nat} {own : List Int} (h2 : own.length ≤ 8) : fl o own ≤ o * 8 := by
  unfold fl
  exact Nat.mul_le_mul (Nat.div_le_self _ _) h2
theorem fold_pos : ∀ (r : List (List Int)) (o : Nat), 1 ≤ o → (∀ own ∈ r, 1 ≤ own.length) → 1 ≤ r.foldl fl o
  | [], o, h, _ => h
  | x :: t, o, h, hr => by rw [List.foldl_cons]; exact fold_pos t _ (fl_pos h (hr x (by simp))) (fun y hy => hr y (by simp [hy]))
theorem fold_le : ∀ (r : List (List Int)) (o : Nat), (∀ own ∈ r, own.length ≤ 8) → r.foldl fl o ≤ o * 8 ^ r.length
  | [], o, _ => by simp
  | x :: t, o, hr => by
    rw [List.foldl_cons]
    have h1 := fold_le t (fl o x) (fun y hy => hr y (by simp [hy]))
    have h2 := Nat.mul_le_mul (fl_le (o := o) (hr x (by simp))) (Nat.le_refl (8 ^ t.length))
    rw [List.length_cons, Nat.pow_succ, Nat.mul_comm (8 ^ t.length) 8, ← Nat.mul_assoc]
    omega
theorem F_take_le {r : List (List Int)} (h : r.length ≤ 8) (hr : ∀ own ∈ r, 1 ≤ own.length ∧ own.length ≤ 8) (i : Nat) : 1 ≤ F (r.take i) ∧ F (r.take i) ≤ 16777216 := by
  have h1 := fold_le (r.take i) 1 (fun own ho => (hr own (List.mem_of_mem_take ho)).2)
  have h2 : 8 ^ (r.take i).length ≤ 8 ^ 8 := Nat.pow_le_pow_right (by omega) (by rw [List.length_take]; omega)
  have h3 : (8 : Nat) ^ 8 = 16777216 := by decide
  exact ⟨fold_pos _ 1 (Nat.le_refl _) (fun own ho => (hr own (List.mem_of_mem_take ho)).1), by unfold F; omega⟩
theorem F_step {r : List (List Int)} {i : Nat} (h : i < r.length) : F (r.take (i + 1)) = fl (F (r.take i)) r[i] := by
  unfold F
  rw [List.take_succ_eq_append_getElem h, List.foldl_append]
  rfl
theorem common_l0 : ∀ (b a : Nat), Ev (fun k => impl_common.l0 k (a : Int) (b : Int)) ((Nat.gcd a b : Nat) : Int) := by
  intro b
  induction b using Nat.strongRecOn with
  | _ b ih =>
    intro a
    rcases Nat.eq_zero_or_pos b with rfl | hb
    · refine ev_end (fun k => ?_)
      simp only [impl_common.l0]
      rw [if_neg (by omega), Nat.gcd_zero_right]
    · have h := ih (a % b) (Nat.mod_lt _ hb) b
      have e : Nat.gcd b (a % b) = Nat.gcd a b := by rw [Nat.gcd_comm a b, Nat.gcd_rec b a, Nat.gcd_comm]
      rw [e] at h
      refine ev_step (fun k => ?_) h
      simp only [impl_common.l0]
      rw [if_pos (by omega), if_neg (by omega)]
      rfl
theorem common (a b : Nat) : ∃ k, impl_common.f k (a : Int) (b : Int) = some ((Nat.gcd a b : Nat) : Int) := (common_l0 b a).rounds

/-! the orders that follow -/
def pw (l : List Int) (k : Nat) : List Int := (List.range l.length).map fun i => ((it (nx l) k i + 1 : Nat) : Int)
theorem pw_len (l : List Int) (k : Nat) : (pw l k).length = l.length := by simp [pw]
theorem pw_rd (l : List Int) (k : Nat) {i : Nat} (hi : i < l.length) : rd (pw l k) (i : Int) = ((it (nx l) k i + 1 : Nat) : Int) := by
  unfold rd pw
  rw [Int.toNat_natCast, List.getD_eq_getElem?_getD, List.getElem?_map, List.getElem?_range hi]
  rfl
theorem pw_one {l : List Int} (hl : Ok l) : pw l 1 = l := by
  apply List.ext_getElem
  · rw [pw_len]
  · intro i h1 h2
    have h3 := pw_rd l 1 h2
    have h4 := (hl.at_ h2).1
    have e1 : rd (pw l 1) (i : Int) = (pw l 1)[i] := Inv.rd_nat h1
    have e2 : rd l (i : Int) = l[i] := Inv.rd_nat h2
    rw [← e1, ← e2, h3, h4]
    show ((nx l i + 1 : Nat) : Int) = _
    omega
theorem follow_l0 {l : List Int} (hl : Ok l) (k0 : Nat) : ∀ (d i : Nat), i + d = l.length → Ev (fun k => PFnExactFollowOrder.spec_ptFollow.l0 k l ((pw l (k0 + 1)).take i) (pw l k0) (l.length : Int) (i : Int)) (pw l (k0 + 1))
  | 0, i, hd => by
    refine ev_end (fun k => ?_)
    simp only [PFnExactFollowOrder.spec_ptFollow.l0]
    rw [if_neg (by omega), List.take_of_length_le (by rw [pw_len]; omega)]
  | d + 1, i, hd => by
    have hi : i < l.length := by omega
    have hl8 := hl.le
    have hlt := it_lt hl.lt k0 i hi
    have hr := (hl.at_ hlt).1
    refine ev_step (fun k => ?_) (follow_l0 hl k0 d (i + 1) (by omega))
    simp only [PFnExactFollowOrder.spec_ptFollow.l0]
    have e : wrap64 (rd (pw l k0) (i : Int) - 1) = (it (nx l) k0 i : Int) := by rw [pw_rd l k0 hi, w_id (by omega) (by omega)]; omega
    rw [if_pos (by omega), if_pos (by omega), if_pos (by rw [pw_len]; omega), e, if_pos (by omega), if_pos (by omega), if_pos (by rw [List.length_take]; omega), w_id (x := (i : Int) + 1) (by omega) (by omega), hr]
    congr 1
    rw [List.take_succ_eq_append_getElem (by rw [pw_len]; exact hi)]
    congr 2
    have h1 := pw_rd l (k0 + 1) hi
    rw [Inv.rd_nat (by rw [pw_len]; exact hi)] at h1
    rw [h1]
    show ((nx l (it (nx l) k0 i) : Int)) + 1 = ((nx l (it (nx l) k0 i) + 1 : Nat) : Int)
    omega
theorem follow {l : List Int} (hl : Ok l) (k0 : Nat) : ∃ k, PFnExactFollowOrder.spec_ptFollow.f k (pw l k0) l = some (pw l (k0 + 1)) := by
  obtain ⟨k, hk⟩ := (follow_l0 hl k0 l.length 0 (by omega)).rounds
  refine ⟨k, ?_⟩
  unfold PFnExactFollowOrder.spec_ptFollow.f
  rw [pw_len]
  exact hk
theorem cnt_zero {a : Int} {t : List Int} : Inv.cnt a t = 0 ↔ ∀ b ∈ t, ¬ b < a := by
  unfold Inv.cnt
  rw [List.length_eq_zero_iff, List.filter_eq_nil_iff]
  simp
theorem pre_zero (l : List Int) : ∀ k, Inv.pre l k = 0 ↔ ∀ i, i < k → Inv.cnt (rd l (i : Int)) (l.drop (i + 1)) = 0
  | 0 => by simp [Inv.pre]
  | k + 1 => by
    simp only [Inv.pre]
    rw [Nat.add_eq_zero_iff, pre_zero l k]
    constructor
    · rintro ⟨h1, h2⟩ i hi
      rcases Nat.lt_or_ge i k with h | h
      · exact h1 i h
      · rw [show i = k by omega]; exact h2
    · intro h
      exact ⟨fun i hi => h i (by omega), h k (by omega)⟩
theorem right_iff {l : List Int} (hl : Ok l) (k : Nat) : Inv.pre (pw l k) l.length = 0 ↔ ∀ x, x < l.length → it (nx l) k x = x := by
  rw [pre_zero]
  constructor
  · intro h
    refine rising_id (it_lt hl.lt k) (fun i j hij hj => ?_)
    have h1 := cnt_zero.mp (h i (by omega))
    have hm : rd (pw l k) (j : Int) ∈ (pw l k).drop (i + 1) := by
      rw [Inv.rd_nat (by rw [pw_len]; exact hj)]
      exact List.mem_drop_iff_getElem.mpr ⟨j - (i + 1), by rw [pw_len]; omega, by congr 1; omega⟩
    have h2 := h1 _ hm
    rw [pw_rd l k hj, pw_rd l k (by omega)] at h2
    have h3 : it (nx l) k i ≠ it (nx l) k j := fun e => by have := it_inj hl.lt hl.inj k i j (by omega) hj e; omega
    omega
  · intro h i hi
    refine cnt_zero.mpr (fun b hb => ?_)
    obtain ⟨q, hq, rfl⟩ := List.mem_drop_iff_getElem.mp hb
    rw [pw_len] at hq
    rw [pw_rd l k hi, h i hi, ← Inv.rd_nat, pw_rd l k (by omega), h _ (by omega)]
    omega
theorem home {l : List Int} (hl : Ok l) {r : List (List Int)} (h : ∀ m, (∀ own ∈ r, own.length ∣ m) ↔ ∀ x, x < l.length → it (nx l) m x = x) (k : Nat) : Inv.pre (pw l k) l.length = 0 ↔ F r ∣ k := by
  rw [right_iff hl, F_dvd, h]
end Go.Proofs.Ytbfgiccfbaobnaa.Rnd
