/- The plain law of ParseCorner at this program: the printed specification gives just what the walked code gives. Condition: a text of at most 2^20 bytes. -/
import Derived.Test.YtnnedicoapdkkaaDoorIPC
import Derived.Test.YtnnedicoapdkkaaDoorPFnExactParseCornerx2
namespace Go.Proofs.YtnnedicoapdkkaaDoor.FcPC
set_option linter.unusedVariables false
set_option linter.unusedSimpArgs false
open Go.RowKit Go.Proofs.YtnnedicoapdkkaaDoorW.PrintWords Go.Proofs.YtnnedicoapdkkaaDoorW.PrintLast Go.Proofs.YtnnedicoapdkkaaDoorW.PrintMore Numb Rune Nums CText PFnExactParseCorner

/-! Finite facts. -/
theorem fin_digits : (List.range 101).all (fun n => (Lib.itoa (n : Int)).all (fun c => decide (48 ≤ c.toNat ∧ c.toNat ≤ 57)) && decide (1 ≤ (Lib.itoa (n : Int)).length ∧ (Lib.itoa (n : Int)).length ≤ 3) && (Lib.atoiAll (Lib.itoa (n : Int)) matches .ok v) ) = true := by decide +kernel
theorem fin_num : (List.range 101).all (fun n => decide (num1 (txt (n : Int)) = some (n : Int))) = true := by decide +kernel
theorem fin_read : (List.range 101).all (fun n => n == 0 || decide (spec_l1Read.f 10 (txt (n : Int)) = some (n : Int))) = true := by decide +kernel

theorem ba_eq {s : ByteArray} {l : List UInt8} (h : s.data.toList = l) : s = ⟨l.toArray⟩ := by
  obtain ⟨⟨x⟩⟩ := s
  exact congrArg (fun l => (⟨⟨l⟩⟩ : ByteArray)) h
theorem ext_list (s : ByteArray) (a b : Nat) : (s.extract a b).data.toList = (s.data.toList.drop a).take (b - a) := by
  rw [Lib.extract_data]
theorem bt_list (t : ByteArray) (i : Nat) (h : i < t.data.toList.length) : bt t (i : Int) = ((t.data.toList[i]).toNat : Int) := by
  unfold bt
  have h2 : ((i : Int)).toNat < t.size := by rw [Int.toNat_natCast]; simpa using h
  rw [dif_pos h2]
  simp only [Int.toNat_natCast]
  rfl
/-- Splitting at each x; cur: the piece under way. -/
def spl : List UInt8 → List UInt8 → List (List UInt8)
  | cur, [] => [cur]
  | cur, c :: r => if c.toNat = 120 then cur :: spl [] r else spl (cur ++ [c]) r
theorem w_id {x : Int} (h0 : -1000000000 ≤ x) (h1 : x ≤ 1000000000) : wrap64 x = x := by unfold wrap64; omega
def ba (l : List UInt8) : ByteArray := ⟨l.toArray⟩
theorem l0_spl (t : ByteArray) (ht : t.size ≤ 1048576) : ∀ (m k fr i : Nat) (acc : List ByteArray), i + m = t.size → fr ≤ i → acc.length ≤ i → m < k →
    spec_l1Split.l0 k t 120 acc fr i = some (acc ++ (spl ((t.data.toList.drop fr).take (i - fr)) (t.data.toList.drop i)).map ba)
  | 0, k, fr, i, acc, hi, hf, ha, hk => by
    obtain ⟨k, rfl⟩ : ∃ k', k = k' + 1 := ⟨k - 1, by omega⟩
    have hl : t.data.toList.length = t.size := by rw [Array.length_toList]; rfl
    simp only [spec_l1Split.l0]
    rw [if_neg (by omega), if_pos (by omega), if_pos (by omega), if_pos (by omega), List.drop_of_length_le (l := t.data.toList) (i := i) (by omega)]
    simp only [spl, List.map_cons, List.map_nil, Int.toNat_natCast]
    rw [ba_eq (ext_list t fr t.size)]
    unfold ba
    rw [show i = t.size by omega]
  | m + 1, k, fr, i, acc, hi, hf, ha, hk => by
    obtain ⟨k, rfl⟩ : ∃ k', k = k' + 1 := ⟨k - 1, by omega⟩
    have hl : t.data.toList.length = t.size := by rw [Array.length_toList]; rfl
    have hil : i < t.data.toList.length := by omega
    have hw : wrap64 ((i : Int) + 1) = ((i + 1 : Nat) : Int) := by rw [w_id (by omega) (by omega)]; rfl
    simp only [spec_l1Split.l0]
    rw [if_pos (by omega), if_pos (by omega), bt_list t i hil, List.drop_eq_getElem_cons hil, hw]
    simp only [spl]
    by_cases hc : (t.data.toList[i]).toNat = 120
    · rw [if_pos (by omega), if_pos (by omega), if_pos (by omega), if_pos (by omega), if_pos (by omega), if_pos hc]
      rw [l0_spl t ht m k (i + 1) (i + 1) _ (by omega) (by omega) (by rw [List.length_append, List.length_singleton]; omega) (by omega)]
      simp only [Int.toNat_natCast, Nat.sub_self, List.take_zero, List.map_cons, List.append_assoc, List.singleton_append]
      rw [ba_eq (ext_list t fr i)]
      rfl
    · rw [if_neg (by omega), if_neg hc]
      rw [l0_spl t ht m k fr (i + 1) _ (by omega) (by omega) (by omega) (by omega)]
      congr 4
      rw [show i + 1 - fr = (i - fr) + 1 by omega, List.take_succ_eq_append_getElem (by rw [List.length_drop]; omega)]
      congr 2
      rw [List.getElem_drop]
      congr 1
      omega
theorem split_eq (t : ByteArray) (ht : t.size ≤ 1048576) (k : Nat) (hk : t.size < k) : spec_l1Split.f k t 120 = some ((spl [] t.data.toList).map ba) := by
  unfold spec_l1Split.f
  have h := l0_spl t ht t.size k 0 0 [] (by omega) (by omega) (by simp) hk
  simpa using h
theorem spl_ne : ∀ (l cur : List UInt8), spl cur l ≠ []
  | [], cur => by simp [spl]
  | c :: r, cur => by
    simp only [spl]
    split
    · simp
    · exact spl_ne r _
theorem spl_one : ∀ (l cur p : List UInt8), spl cur l = [p] → cur ++ l = p
  | [], cur, p, h => by simpa [spl] using h
  | c :: r, cur, p, h => by
    simp only [spl] at h
    split at h
    · injection h with h1 h2
      exact absurd h2 (spl_ne r [])
    · have := spl_one r _ p h
      simpa using this
theorem spl_two : ∀ (l cur p q : List UInt8), spl cur l = [p, q] → cur ++ l = p ++ 120 :: q
  | [], cur, p, q, h => by simp [spl] at h
  | c :: r, cur, p, q, h => by
    simp only [spl] at h
    split at h
    · rename_i hc
      injection h with h1 h2
      have e := spl_one r [] q h2
      have e2 : c = 120 := UInt8.toNat_inj.mp hc
      rw [h1, e2, ← e]; rfl
    · have := spl_two r _ p q h
      simpa using this
theorem spl_plain : ∀ (l cur : List UInt8), (∀ c ∈ l, c.toNat ≠ 120) → spl cur l = [cur ++ l]
  | [], cur, _ => by simp [spl]
  | c :: r, cur, h => by
    simp only [spl]
    rw [if_neg (h c (by simp)), spl_plain r _ (fun c' hc => h c' (by simp [hc]))]
    simp
theorem spl_join (b : List UInt8) (hb : ∀ c ∈ b, c.toNat ≠ 120) : ∀ (a cur : List UInt8), (∀ c ∈ a, c.toNat ≠ 120) → spl cur (a ++ 120 :: b) = [cur ++ a, b]
  | [], cur, _ => by
    simp only [spl, List.nil_append]
    rw [if_pos (by decide), spl_plain b [] hb]
    simp
  | c :: r, cur, h => by
    simp only [spl, List.cons_append]
    rw [if_neg (h c (by simp)), spl_join b hb r _ (fun c' hc => h c' (by simp [hc]))]
    simp

/-! Reading a number. -/
def rd : Int → List UInt8 → Int
  | n, [] => n
  | n, c :: r => if c.toNat < 48 then -1 else if 57 < c.toNat then -1 else rd (10 * n + ((c.toNat : Int) - 48)) r
def readL : List UInt8 → Int
  | [] => -1
  | c :: r => if 5 < r.length then -1 else if c.toNat = 48 ∧ 0 < r.length then -1 else rd 0 (c :: r)
theorem pow6 : ∀ i : Nat, i ≤ 6 → (10 : Int) ^ i ≤ 1000000
  | 0, _ | 1, _ | 2, _ | 3, _ | 4, _ | 5, _ | 6, _ => by decide
  | n + 7, h => by omega
theorem l0_rd (s : ByteArray) (hs : s.size ≤ 6) : ∀ (m k i : Nat) (n : Int), i + m = s.size → m < k → 0 ≤ n → n < 10 ^ i → spec_l1Read.l0 k s n i = some (rd n (s.data.toList.drop i))
  | 0, k, i, n, hi, hk, h0, h1 => by
    obtain ⟨k, rfl⟩ : ∃ k', k = k' + 1 := ⟨k - 1, by omega⟩
    have hl : s.data.toList.length = s.size := by rw [Array.length_toList]; rfl
    simp only [spec_l1Read.l0]
    rw [if_neg (by omega), List.drop_of_length_le (by omega)]
    rfl
  | m + 1, k, i, n, hi, hk, h0, h1 => by
    obtain ⟨k, rfl⟩ : ∃ k', k = k' + 1 := ⟨k - 1, by omega⟩
    have hl : s.data.toList.length = s.size := by rw [Array.length_toList]; rfl
    have hil : i < s.data.toList.length := by omega
    have hp := pow6 i (by omega)
    simp only [spec_l1Read.l0]
    rw [if_pos (by omega), if_pos (by omega), bt_list s i hil, List.drop_eq_getElem_cons hil]
    simp only [rd]
    by_cases h2 : (s.data.toList[i]).toNat < 48
    · rw [if_pos (by omega), if_pos h2]
    · rw [if_neg (by omega), if_neg h2]
      by_cases h3 : 57 < (s.data.toList[i]).toNat
      · rw [if_pos (by omega), if_pos h3]
      · rw [if_neg (by omega), if_neg h3]
        rw [w_id (x := 10 * n) (by omega) (by omega), w_id (x := (i : Int) + 1) (by omega) (by omega), show (((s.data.toList[i]).toNat : Int) - 48) % 256 = ((s.data.toList[i]).toNat : Int) - 48 by omega, w_id (by omega) (by omega)]
        exact l0_rd s hs m k (i + 1) _ (by omega) (by omega) (by omega) (by rw [Int.pow_succ]; omega)
theorem read_eq (s : ByteArray) (k : Nat) (hk : 8 ≤ k) : spec_l1Read.f k s = some (readL s.data.toList) := by
  obtain ⟨k, rfl⟩ : ∃ k', k = k' + 1 := ⟨k - 1, by omega⟩
  have hl : s.data.toList.length = s.size := by rw [Array.length_toList]; rfl
  unfold spec_l1Read.f spec_l1In.f
  cases h : s.data.toList with
  | nil =>
    have h0 : s.size = 0 := by rw [← hl, h]; rfl
    rw [h0]
    simp [spec_l1Read.j0, readL]
  | cons c r =>
    have h0 : s.size = r.length + 1 := by rw [← hl, h]; rfl
    rw [if_pos (by omega)]
    simp only [Option.bind_some, readL]
    by_cases h6 : 5 < r.length
    · rw [if_pos h6, decide_eq_false (by omega)]
      simp [spec_l1Read.j0]
    · rw [if_neg h6, decide_eq_true (by omega), if_pos rfl, if_pos (by omega)]
      have hb := bt_list s 0 (by omega)
      have hb2 : bt s 0 = (c.toNat : Int) := by
        rw [show ((0 : Nat) : Int) = 0 from rfl] at hb
        rw [hb]
        simp [h]
      have hr := l0_rd s (by omega) s.size k 0 0 (by omega) (by omega) (by omega) (by decide)
      rw [List.drop_zero, h, show ((0 : Nat) : Int) = 0 from rfl] at hr
      rw [hb2]
      by_cases hc : c.toNat = 48
      · rw [if_pos (by omega)]
        by_cases hr2 : 0 < r.length
        · rw [if_pos ⟨hc, hr2⟩, decide_eq_true (by omega)]
          simp [spec_l1Read.j0]
        · rw [if_neg (fun q => hr2 q.2), decide_eq_false (by omega)]
          simp only [spec_l1Read.j0]
          rw [if_neg (by decide), hr]
      · rw [if_neg (by omega), if_neg (fun q => hc q.1)]
        simp only [spec_l1Read.j0]
        rw [if_neg (by decide), hr]
theorem rd_ge : ∀ (l : List UInt8) (n : Int), 0 ≤ n → rd n l = -1 ∨ n ≤ rd n l
  | [], n, _ => .inr (Int.le_refl _)
  | c :: r, n, h => by
    simp only [rd]
    split
    · exact .inl rfl
    · split
      · exact .inl rfl
      · rcases rd_ge r (10 * n + ((c.toNat : Int) - 48)) (by omega) with e | e
        · exact .inl e
        · exact .inr (by omega)
theorem fin1 : (List.range 58).all (fun c => c < 49 || decide (Lib.itoa ((c : Int) - 48) = [c.toUInt8])) = true := by decide +kernel
theorem fin2 : (List.range 58).all (fun c => (List.range 58).all (fun d => c < 49 || d < 48 || decide (Lib.itoa (10 * ((c : Int) - 48) + ((d : Int) - 48)) = [c.toUInt8, d.toUInt8]))) = true := by decide +kernel
theorem u8 (c : UInt8) : c.toNat.toUInt8 = c := by simp
theorem read_inv (l : List UInt8) (h1 : 1 ≤ readL l) (h2 : readL l ≤ 100) : l = Lib.itoa (readL l) := by
  match l, h1, h2 with
  | [], h1, _ => simp [readL] at h1
  | [c], h1, h2 =>
    simp only [readL, rd, List.length_nil] at h1 h2 ⊢
    rw [if_neg (by omega), if_neg (by omega)] at h1 h2 ⊢
    split at h1
    · omega
    · rename_i q1
      split at h1
      · omega
      · rename_i q2
        rw [if_neg q1, if_neg q2]
        have h := List.all_eq_true.mp fin1 c.toNat (List.mem_range.mpr (by omega))
        rw [decide_eq_false (by omega : ¬ c.toNat < 49), Bool.false_or] at h
        have h := of_decide_eq_true h
        rw [u8] at h
        rw [← h]
        congr 1
        omega
  | [c, d], h1, h2 =>
    simp only [readL, rd, List.length_cons, List.length_nil] at h1 h2 ⊢
    rw [if_neg (by omega)] at h1 h2 ⊢
    split at h1
    · omega
    · rename_i q0
      rw [if_neg q0] at h2 ⊢
      split at h1
      · omega
      · rename_i q1
        split at h1
        · omega
        · rename_i q2
          split at h1
          · omega
          · rename_i q3
            split at h1
            · omega
            · rename_i q4
              rw [if_neg q1, if_neg q2, if_neg q3, if_neg q4]
              have h := List.all_eq_true.mp (List.all_eq_true.mp fin2 c.toNat (List.mem_range.mpr (by omega))) d.toNat (List.mem_range.mpr (by omega))
              rw [decide_eq_false (by omega : ¬ c.toNat < 49), decide_eq_false (by omega : ¬ d.toNat < 48), Bool.false_or, Bool.false_or] at h
              have h := of_decide_eq_true h
              rw [u8, u8] at h
              rw [← h]
              congr 1
              omega
  | c :: d :: e :: r, h1, h2 =>
    simp only [readL, rd, List.length_cons] at h1 h2 ⊢
    split at h1
    · omega
    · rename_i q5
      rw [if_neg q5] at h2 ⊢
      split at h1
      · omega
      · rename_i q0
        rw [if_neg q0] at h2 ⊢
        split at h1
        · omega
        · rename_i q1
          split at h1
          · omega
          · rename_i q2
            split at h1
            · omega
            · rename_i q3
              split at h1
              · omega
              · rename_i q4
                split at h1
                · omega
                · rename_i q6
                  split at h1
                  · omega
                  · rename_i q7
                    rw [if_neg q1, if_neg q2, if_neg q3, if_neg q4, if_neg q6, if_neg q7] at h2 ⊢
                    have hc : 49 ≤ c.toNat := by omega
                    rcases rd_ge r (10 * (10 * (10 * 0 + ((c.toNat : Int) - 48)) + ((d.toNat : Int) - 48)) + ((e.toNat : Int) - 48)) (by omega) with g | g
                    · omega
                    · have e1 : c.toNat = 49 := by omega
                      have e2 : d.toNat = 48 := by omega
                      have e3 : e.toNat = 48 := by omega
                      rw [e1, e2, e3] at h2 g h1 ⊢
                      have c1 : c = 49 := UInt8.toNat_inj.mp e1
                      have d1 : d = 48 := UInt8.toNat_inj.mp e2
                      have e4 : e = 48 := UInt8.toNat_inj.mp e3
                      cases r with
                      | nil =>
                        rw [c1, d1, e4]
                        decide +kernel
                      | cons f r =>
                        exfalso
                        simp only [rd] at h1 h2
                        split at h1
                        · omega
                        · rename_i q8
                          split at h1
                          · omega
                          · rename_i q9
                            rw [if_neg q8, if_neg q9] at h2
                            rcases rd_ge r (10 * (10 * (10 * (10 * 0 + (((49 : Nat) : Int) - 48)) + (((48 : Nat) : Int) - 48)) + (((48 : Nat) : Int) - 48)) + ((f.toNat : Int) - 48)) (by omega) with g2 | g2
                            · omega
                            · omega

/-! The fields of a text. -/
def plain (s : ByteArray) (fr e : Nat) : Prop := ∀ j, fr ≤ j → j < e → ∀ h : j < s.size, (s[j]'h).toNat < 128 ∧ (s[j]'h).toNat ≠ 120
theorem step_some (s : ByteArray) (a f pos : Nat) (acc : List (Nat × Nat)) (h : pos < s.size) (hp : (s[pos]'h).toNat < 128 ∧ (s[pos]'h).toNat ≠ 120) :
    Lib.spansFromP isx s (f + 1) pos (some a) acc = Lib.spansFromP isx s f (pos + 1) (some a) acc := by
  rw [Lib.spansFromP, if_pos h, decode_ascii s pos h hp.1]
  rw [if_neg (by show ¬ isx (s[pos]'h).toNat = true; rw [show isx (s[pos]'h).toNat = false from decide_eq_false hp.2]; decide)]
theorem step_none (s : ByteArray) (f pos : Nat) (acc : List (Nat × Nat)) (h : pos < s.size) (hp : (s[pos]'h).toNat < 128 ∧ (s[pos]'h).toNat ≠ 120) :
    Lib.spansFromP isx s (f + 1) pos none acc = Lib.spansFromP isx s f (pos + 1) (some pos) acc := by
  rw [Lib.spansFromP, if_pos h, decode_ascii s pos h hp.1]
  rw [if_neg (by show ¬ isx (s[pos]'h).toNat = true; rw [show isx (s[pos]'h).toNat = false from decide_eq_false hp.2]; decide)]
theorem step_x (s : ByteArray) (a f pos : Nat) (acc : List (Nat × Nat)) (h : pos < s.size) (hp : (s[pos]'h).toNat = 120) :
    Lib.spansFromP isx s (f + 1) pos (some a) acc = Lib.spansFromP isx s f (pos + 1) none (acc ++ [(a, pos)]) := by
  rw [Lib.spansFromP, if_pos h, decode_ascii s pos h (by omega)]
  rw [if_pos (show isx (s[pos]'h).toNat = true from decide_eq_true hp)]
theorem run (s : ByteArray) (a e : Nat) (he : e ≤ s.size) : ∀ (m pos f : Nat) (acc : List (Nat × Nat)), pos + m = e → plain s pos e → Lib.spansFromP isx s (f + m) pos (some a) acc = Lib.spansFromP isx s f e (some a) acc
  | 0, pos, f, acc, h, _ => by rw [show pos = e by omega, Nat.add_zero]
  | m + 1, pos, f, acc, h, hp => by
    rw [← Nat.add_assoc, step_some s a (f + m) pos acc (by omega) (hp pos (Nat.le_refl _) (by omega) (by omega))]
    exact run s a e he m (pos + 1) f acc (by omega) (fun j h1 h2 h3 => hp j (by omega) h2 h3)
theorem get_list (s : ByteArray) (j : Nat) (h : j < s.size) (h2 : j < s.data.toList.length) : s[j]'h = s.data.toList[j] := by
  rw [Array.getElem_toList]; rfl
theorem fields_join (A B : List UInt8) (hA : ∀ c ∈ A, c.toNat < 128 ∧ c.toNat ≠ 120) (hB : ∀ c ∈ B, c.toNat < 128 ∧ c.toNat ≠ 120) (nA : A ≠ []) (nB : B ≠ []) (s : ByteArray) (hs : s.data.toList = A ++ 120 :: B) :
    Lib.goFieldsP isx s = [ba A, ba B] := by
  have hl : s.data.toList.length = s.size := by rw [Array.length_toList]; rfl
  have hsz : s.size = A.length + 1 + B.length := by rw [← hl, hs]; simp; omega
  have pA : 0 < A.length := List.length_pos_iff.mpr nA
  have pB : 0 < B.length := List.length_pos_iff.mpr nB
  have e1 : plain s 0 A.length := by
    intro j _ hj h
    rw [get_list s j h (by omega)]
    have : s.data.toList[j]'(by omega) = A[j] := by simp only [hs]; rw [List.getElem_append_left hj]
    rw [this]
    exact hA _ (List.getElem_mem hj)
  have e2 : plain s (A.length + 1) s.size := by
    intro j h1 hj h
    rw [get_list s j h (by omega)]
    have : s.data.toList[j]'(by omega) = B[j - (A.length + 1)]'(by omega) := by
      simp only [hs]
      rw [List.getElem_append_right (by omega), List.getElem_cons]
      rw [dif_neg (by omega)]
      congr 1
    rw [this]
    exact hB _ (List.getElem_mem _)
  have e3 : ∀ h : A.length < s.size, (s[A.length]'h).toNat = 120 := by
    intro h
    rw [get_list s A.length h (by omega)]
    have : s.data.toList[A.length]'(by omega) = 120 := by simp [hs]
    rw [this]; rfl
  unfold Lib.goFieldsP Lib.spansOfP
  have r1 : Lib.spansFromP isx s s.size 0 none [] = ([(0, A.length)], some (A.length + 1)) := by
    rw [show s.size = ((1 + B.length) + (A.length - 1)) + 1 by omega]
    rw [step_none s _ 0 [] (by omega) (e1 0 (Nat.le_refl _) pA (by omega))]
    rw [run s 0 A.length (by omega) (A.length - 1) (0 + 1) _ [] (by omega) (fun j h1 h2 h3 => e1 j (by omega) h2 h3)]
    rw [show 1 + B.length = B.length + 1 by omega]
    rw [step_x s 0 _ A.length [] (by omega) (e3 (by omega))]
    rw [show B.length = (0 + (B.length - 1)) + 1 by omega]
    rw [step_none s _ (A.length + 1) _ (by omega) (e2 _ (Nat.le_refl _) (by omega) (by omega))]
    rw [run s (A.length + 1) s.size (Nat.le_refl _) (B.length - 1) (A.length + 1 + 1) 0 _ (by omega) (fun j h1 h2 h3 => e2 j (by omega) h2 h3)]
    rfl
  rw [r1]
  simp only [Lib.closeSpans, List.singleton_append, List.map_cons, List.map_nil]
  rw [ba_eq (ext_list s 0 A.length), ba_eq (ext_list s (A.length + 1) s.size), hs]
  have d1 : ((A ++ 120 :: B).drop 0).take (A.length - 0) = A := by simp
  have d2 : ((A ++ 120 :: B).drop (A.length + 1)).take (s.size - (A.length + 1)) = B := by
    rw [show s.size - (A.length + 1) = B.length by omega]
    rw [show A ++ 120 :: B = (A ++ [120]) ++ B by simp]
    rw [List.drop_left' (by simp), List.take_length]
  rw [d1, d2]
  rfl

/-! Both sides. -/
def inR (a b : Int) : Prop := (1 ≤ a ∧ a ≤ 100) ∧ 1 ≤ b ∧ b ≤ 100
instance (a b : Int) : Decidable (inR a b) := by unfold inR; infer_instance
def val (t : ByteArray) : Int × Int × Bool := match Nums.nums (Lib.goFieldsP isx t) with
  | some [a, b] => if inR a b ∧ text a b = t then (a, b, true) else (0, 0, false)
  | _ => (0, 0, false)
theorem text_list (a b : Int) : (text a b).data.toList = Lib.itoa a ++ 120 :: Lib.itoa b := by
  unfold text txt
  simp [ByteArray.data_append]
theorem dig {v : Int} (h1 : 1 ≤ v) (h2 : v ≤ 100) : (∀ c ∈ Lib.itoa v, c.toNat < 128 ∧ c.toNat ≠ 120) ∧ Lib.itoa v ≠ [] := by
  obtain ⟨n, rfl⟩ : ∃ n : Nat, v = (n : Int) := ⟨v.toNat, by omega⟩
  have h := List.all_eq_true.mp fin_digits n (List.mem_range.mpr (by omega))
  simp only [Bool.and_eq_true] at h
  refine ⟨fun c hc => ?_, fun e => ?_⟩
  · have h3 := of_decide_eq_true (List.all_eq_true.mp h.1.1 c hc)
    omega
  · have h3 := of_decide_eq_true h.1.2
    rw [e] at h3
    simp at h3
theorem num_txt {v : Int} (h1 : 1 ≤ v) (h2 : v ≤ 100) : num1 (ba (Lib.itoa v)) = some v := by
  obtain ⟨n, rfl⟩ : ∃ n : Nat, v = (n : Int) := ⟨v.toNat, by omega⟩
  exact of_decide_eq_true (List.all_eq_true.mp fin_num n (List.mem_range.mpr (by omega)))
theorem read_txt {v : Int} (h1 : 1 ≤ v) (h2 : v ≤ 100) : readL (Lib.itoa v) = v := by
  obtain ⟨n, rfl⟩ : ∃ n : Nat, v = (n : Int) := ⟨v.toNat, by omega⟩
  have h := List.all_eq_true.mp fin_read n (List.mem_range.mpr (by omega))
  have h0 : (n == 0) = false := beq_eq_false_iff_ne.2 (by omega)
  rw [h0, Bool.false_or] at h
  have h := of_decide_eq_true h
  rw [read_eq _ 10 (by omega)] at h
  exact Option.some.inj h
theorem val_text {a b : Int} (h : inR a b) : val (text a b) = (a, b, true) := by
  have h0 := h
  obtain ⟨⟨h1, h2⟩, h3, h4⟩ := h
  unfold val
  rw [fields_join _ _ (dig h1 h2).1 (dig h3 h4).1 (dig h1 h2).2 (dig h3 h4).2 _ (text_list a b)]
  simp only [Nums.nums, num_txt h1 h2, num_txt h3 h4, Option.map_some]
  rw [if_pos ⟨h0, trivial⟩]
theorem val_other (t : ByteArray) (h : ∀ a b, inR a b → text a b ≠ t) : val t = (0, 0, false) := by
  unfold val
  split
  · rename_i a b _
    rw [if_neg]
    rintro ⟨q1, q2⟩
    exact h a b q1 q2
  · rfl
theorem good_eq (a b : Int) : spec_cnGood.f a b = some (decide (inR a b)) := by
  unfold spec_cnGood.f spec_l1In.f inR
  by_cases h1 : 1 ≤ a <;> by_cases h2 : a ≤ 100 <;> by_cases h3 : 1 ≤ b <;> by_cases h4 : b ≤ 100 <;> simp [h1, h2, h3, h4]
theorem corner_eq (a b : Int) : impl_IsCorner.f a b = some (decide (inR a b)) := by
  unfold impl_IsCorner.f impl_isDitch.f impl_within.f inR
  by_cases h1 : 1 ≤ a <;> by_cases h2 : a ≤ 100 <;> by_cases h3 : 1 ≤ b <;> by_cases h4 : b ≤ 100 <;> simp [h1, h2, h3, h4]
theorem txt_len {v : Int} (h1 : 1 ≤ v) (h2 : v ≤ 100) : (Lib.itoa v).length ≤ 3 := by
  have := txt_size h1 h2
  unfold txt at this
  rwa [show (⟨(Lib.itoa v).toArray⟩ : ByteArray).size = (Lib.itoa v).toArray.size from rfl, List.size_toArray] at this
/-- The specification at a text. -/
theorem spec_val (t : ByteArray) (ht : t.size ≤ 1048576) : spec_ParseCorner.f (t.size + 20) t = some (val t) := by
  have hl : t.data.toList.length = t.size := by rw [Array.length_toList]; rfl
  unfold spec_ParseCorner.f spec_cnParse.f
  rw [split_eq t ht _ (by omega)]
  simp only [Option.bind_some]
  have hk : t.size + 20 = (t.size + 19) + 1 := rfl
  have bad : (∀ a b, inR a b → text a b ≠ t) → val t = (0, 0, false) := val_other t
  by_cases h7 : (t.size : Int) > 7
  · rw [if_pos h7, hk]
    simp only [spec_cnParse.j0, if_true, Option.bind_some]
    rw [bad]
    intro a b hab e
    have h := text_list a b
    rw [e] at h
    have h2 := congrArg List.length h
    rw [hl, List.length_append, List.length_cons] at h2
    have := txt_len hab.1.1 hab.1.2
    have := txt_len hab.2.1 hab.2.2
    omega
  · rw [if_neg h7, hk]
    simp only [spec_cnParse.j0]
    by_cases h2 : (((spl [] t.data.toList).map ba).length : Int) = 2
    · have h2' : (((((spl [] t.data.toList).map ba).length : Int)) != 2) = false := by rw [bne_eq_false_iff_eq]; exact h2
      rw [h2']
      rw [if_neg (by decide)]
      have h3 : (spl [] t.data.toList).length = 2 := by rw [List.length_map] at h2; omega
      obtain ⟨p, q, hpq⟩ : ∃ p q, spl [] t.data.toList = [p, q] := by
        match hh : spl [] t.data.toList, h3 with
        | [p, q], _ => exact ⟨p, q, rfl⟩
      have hj := spl_two _ _ _ _ hpq
      rw [List.nil_append] at hj
      rw [hpq]
      simp only [List.map_cons, List.map_nil, List.length_cons, List.length_nil, rdOf]
      rw [if_pos (by omega), read_eq _ _ (by omega), Option.bind_some, if_pos (by omega), read_eq _ _ (by omega)]
      simp only [Option.bind_some, good_eq]
      have b1 : (([ba p, ba q].getD (0 : Int).toNat ByteArray.empty).data.toList) = p := rfl
      have b2 : (([ba p, ba q].getD (1 : Int).toNat ByteArray.empty).data.toList) = q := rfl
      rw [b1, b2]
      by_cases hin : inR (readL p) (readL q)
      · rw [decide_eq_true hin, if_pos rfl, Option.bind_some]
        have e1 := read_inv p hin.1.1 hin.1.2
        have e2 := read_inv q hin.2.1 hin.2.2
        have et : text (readL p) (readL q) = t := by
          rw [ba_eq (text_list (readL p) (readL q)), ← e1, ← e2, ← hj]
        have hv := val_text hin
        rw [et] at hv
        rw [hv]
      · rw [decide_eq_false hin, if_neg (by decide), Option.bind_some]
        rw [bad]
        intro a b hab e
        have h := text_list a b
        rw [e] at h
        rw [h] at hpq
        rw [spl_join _ (fun c hc => ((dig hab.2.1 hab.2.2).1 c hc).2) _ [] (fun c hc => ((dig hab.1.1 hab.1.2).1 c hc).2)] at hpq
        injection hpq with q1 q2
        injection q2 with q2 _
        rw [List.nil_append] at q1
        rw [← q1, ← q2, read_txt hab.1.1 hab.1.2, read_txt hab.2.1 hab.2.2] at hin
        exact hin hab
    · have h2' : (((((spl [] t.data.toList).map ba).length : Int)) != 2) = true := bne_iff_ne.mpr h2
      rw [h2']
      simp only [if_true, Option.bind_some]
      rw [bad]
      intro a b hab e
      have h := text_list a b
      rw [e] at h
      apply h2
      rw [h, spl_join _ (fun c hc => ((dig hab.2.1 hab.2.2).1 c hc).2) _ [] (fun c hc => ((dig hab.1.1 hab.1.2).1 c hc).2)]
      rfl
/-- The walked code at a text. -/
theorem impl_val (t : ByteArray) (w : World) (ht : t.size ≤ 1048576) (hv : Vars w) :
    Calls Tryd.prog 5 #[.string t] w fun e w' => e = .returned (.tuple #[.agg #[.int .i64 (val t).1, .int .i64 (val t).2.1], .bool (val t).2.2]) ∧ Below w.heap.size w w' := by
  unfold val
  cases hn : Nums.nums (Lib.goFieldsP isx t) with
  | none => exact IPC.bad_none t w ht hv hn
  | some l =>
    by_cases hl : l.length = 2
    · obtain ⟨a, b, rfl⟩ : ∃ a b, l = [a, b] := by
        match l, hl with
        | [a, b], _ => exact ⟨a, b, rfl⟩
      simp only
      by_cases hin : inR a b
      · by_cases he : text a b = t
        · rw [if_pos ⟨hin, he⟩]
          exact IPC.good_yes t a b w ht hv hn hin.1.1 hin.1.2 hin.2.1 hin.2.2 (by rw [corner_eq, decide_eq_true hin]) he
        · rw [if_neg (fun q => he q.2)]
          exact IPC.good_ne t a b w ht hv hn hin.1.1 hin.1.2 hin.2.1 hin.2.2 (by rw [corner_eq, decide_eq_true hin]) he
      · rw [if_neg (fun q => hin q.1)]
        exact IPC.good_no t a b w ht hv hn (by rw [corner_eq, decide_eq_false hin])
    · have hm := IPC.bad_len t l w ht hv hn hl
      split
      · rename_i a b e
        injection e with e
        rw [e] at hl
        exact absurd rfl hl
      · exact hm
end Go.Proofs.YtnnedicoapdkkaaDoor.FcPC
