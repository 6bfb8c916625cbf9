/- strings.ContainsRune over the text "x" at every rune, and the closure of impl.numbers that calls it. No condition beyond: a rune is at most 1114111. -/
import Derived.Test.YtnnedicoapdkkaaDoorShelfPC
import Derived.Test.YtnnedicoapdkkaaDoorPFnExactParseCornerx5
import Derived.Laws.Runes
import Derived.WalkMore
namespace Go.Proofs.YtnnedicoapdkkaaDoor.Rune
set_option linter.unusedVariables false
set_option linter.unusedSimpArgs false
open Go.RowKit Go.Proofs.YtnnedicoapdkkaaDoorW.PrintWords Go.Proofs.YtnnedicoapdkkaaDoorW.PrintLast Go.Proofs.YtnnedicoapdkkaaDoorW.PrintMore

def X : ByteArray := ⟨#[120]⟩
theorem X_size : X.size = 1 := rfl
theorem enc_size (r : Int) (h : 128 ≤ r) : 2 ≤ (Utf8.encode r).size := by
  by_cases hv : Utf8.valid r = true
  · exact (encode_facts r hv h).1
  · have : (Utf8.encode r) = Utf8.encode 65533 := by
      unfold Utf8.encode
      simp only [hv]
      rfl
    rw [this]; decide
theorem enc_le (r : Int) : (Utf8.encode r).size ≤ 4 := by
  unfold Utf8.encode
  dsimp only
  generalize (if Utf8.valid r = true then r.toNat else Utf8.runeError) = c
  (repeat' split) <;> simp [ByteArray.size]

theorem valid (r : Int) (w : World) : Calls Tryd.prog 26 #[.int .i32 r] w fun e w' => e = .returned (.bool (Lib.validRune r)) ∧ w' = w := Any.utf8_ValidRune Tryd.lays119 r w
theorem decX : (Utf8.decode X 0) = (120, 1) := by decide

set_option maxHeartbeats 4000000 in
set_option maxRecDepth 1000000 in
theorem idxErr (w : World) : Calls Tryd.prog 21 #[.string X, .int .i32 65533] w fun e w' => e = .returned (.int .i64 (-1)) ∧ Below w.heap.size w w' := by
  obtain ⟨s, hs⟩ : ∃ s, X = s := ⟨_, rfl⟩
  have hsz : s.size = 1 := by rw [← hs]; rfl
  have hdec : Utf8.decode s 0 = (120, 1) := by rw [← hs]; exact decX
  rw [hs]
  go_enter Tryd.func21, Tryd.ntmps21
  go_wp2
  go_loopg [] 1 (fun gf wx => ∃ pos : Nat, wx.heap[w.heap.size]? = some (.stringIter s pos) ∧ Below w.heap.size w wx ∧ (pos = 0 ∧ gf = 1 ∨ pos = 1))
  case atStart => exact ⟨0, World.iter_heap w s 0, (Below.refl _ w).alloc (Nat.le_refl _) _, Or.inl ⟨rfl, rfl⟩⟩
  case round =>
    obtain ⟨pos, hit, hbw, hp⟩ := hrel
    rcases hp with ⟨rfl, rfl⟩ | rfl
    · have hnx : ∀ ty, (Instr.next (.pointer (some ⟨w.heap.size, 0, none⟩)) true ty).run Tryd.prog wr = _ := fun ty => Lib.run_next_any_at wr w.heap.size s 0 ty hit (by omega)
      rw [hdec] at hnx
      have hit2 := Lib.iterAt_heap wr w.heap.size s 0 1 hit
      have hbw2 := Lib.below_iterAt hbw (k := w.heap.size) (Nat.le_refl _) s 1
      obtain ⟨W, hWd⟩ : ∃ W, wr.iterAt w.heap.size s 1 = W := ⟨_, rfl⟩
      simp only [Nat.zero_add] at hnx
      rw [hWd] at hnx hit2 hbw2
      have hnx2 : ∀ ty, (Instr.next (.pointer (some ⟨w.heap.size, 0, none⟩)) true ty).run Tryd.prog wr = .ok (.tuple #[.bool true, .int .i64 0, .int .i32 120]) W := hnx
      clear hnx
      go_wp2
      go_roundg 0
      case measure => omega
      case rel => exact ⟨1, hit2, hbw2, Or.inr rfl⟩
    · have hnx : ∀ ty, (Instr.next (.pointer (some ⟨w.heap.size, 0, none⟩)) true ty).run Tryd.prog wr = _ := fun ty => Lib.run_next_end_at wr w.heap.size s 1 ty hit (by omega)
      go_wp2
      go_ret
      exact ⟨rfl, hbw⟩

set_option maxHeartbeats 4000000 in
set_option maxRecDepth 1000000 in
theorem idxBig (r : Int) (w : World) (h0 : 128 ≤ r) (h1 : r ≤ 1114111) (hr : r ≠ 65533) : Calls Tryd.prog 21 #[.string X, .int .i32 r] w fun e w' => e = .returned (.int .i64 (-1)) ∧ Below w.heap.size w w' := by
  obtain ⟨s, hs⟩ : ∃ s, X = s := ⟨_, rfl⟩
  have hsz : s.size = 1 := by rw [← hs]; rfl
  rw [hs]
  have hlt : ¬ r < 128 := by omega
  have hV := valid r
  cases hv : Lib.validRune r <;> simp only [hv] at hV <;> have HV := Aside0.mk hV <;> clear hV
  · go_enter Tryd.func21, Tryd.ntmps21
    go_wp2_with fail
    refine (HV.out _).mono ?_
    rintro e w' ⟨rfl, hw⟩
    rw [hw]
    clear hw
    go_wp2_with fail
    go_ret
    exact ⟨rfl, Below.refl _ _⟩
  · have e1 := enc_size r h0
    have e2 := enc_le r
    have hcv : ∀ w, (convert 21 9 (.int .i32 r)).run Tryd.prog w = .ok (.string (Utf8.encode r)) w := fun w => run_convert_int_string w 21 9 .i32 r (by rw [Tryd.underlying21]; rfl) Tryd.underlying9
    obtain ⟨u, hu⟩ : ∃ u, Utf8.encode r = u := ⟨_, rfl⟩
    rw [hu] at e1 e2
    simp only [hu] at hcv
    have e3 : ¬ ((u.size : Int) - 1 < 1) := by omega
    clear hu
    go_enter Tryd.func21, Tryd.ntmps21
    go_wp2_with fail
    refine (HV.out _).mono ?_
    rintro e w' ⟨rfl, hw⟩
    rw [hw]
    clear hw
    go_wp2_with fail
    go_step3
    go_wp2_with fail
    go_loopg [9, 10, 11, 12] 0 (fun gf s9 s10 s11 s12 wx => s9 = .int .i64 ((u.size : Int) - 1) ∧ wx = w)
    case atStart => exact ⟨rfl, rfl⟩
    case round =>
      obtain ⟨rfl, rfl⟩ := hrel
      go_wp2
      rw [Exit.noGoto_ret]
      go_ret
      exact ⟨rfl, Below.refl _ _⟩

def isx (n : Nat) : Bool := decide (n = 120)
theorem asc : (List.range 128).all (fun n => decide (0 ≤ Lib.indexByte X.data.toList (n : Int).toNat.toUInt8) == isx n) = true := by decide +kernel
theorem contains_c (n : Nat) (w : World) (h1 : n ≤ 1114111) : Calls Tryd.prog 16 #[.string X, .int .i32 (n : Int)] w fun e w' => e = .returned (.bool (isx n)) ∧ Below w.heap.size w w' := by
  by_cases h : n < 128
  · have e := eq_of_beq (List.all_eq_true.mp asc n (List.mem_range.mpr h))
    rw [← e]
    refine Calls.mono (Any.strings_ContainsRune_ascii Tryd.lays151 X n w (by omega) (by omega)) ?_
    rintro e w' ⟨rfl, rfl⟩
    exact ⟨rfl, Below.refl _ _⟩
  · have hI : Calls Tryd.prog 21 #[.string X, .int .i32 (n : Int)] w fun e w' => e = .returned (.int .i64 (-1)) ∧ Below w.heap.size w w' := by
      by_cases hr : (n : Int) = 65533
      · rw [hr]; exact idxErr w
      · exact idxBig n w (by omega) (by omega) hr
    have e : isx n = false := decide_eq_false (by omega)
    rw [e]
    have HI := Aside0.mk hI
    clear hI
    obtain ⟨s, hs⟩ : ∃ s, X = s := ⟨_, rfl⟩
    rw [hs] at HI ⊢
    go_enter Tryd.func16, Tryd.ntmps16
    go_wp2_with fail
    refine HI.out.mono ?_
    rintro e w' ⟨rfl, hb⟩
    go_wp2_with fail
    go_ret
    exact ⟨rfl, hb⟩

/-- The closure of impl.numbers at the boxed text "x". -/
theorem clo (n b : Nat) (w : World) (h1 : n ≤ 1114111) (hc : w.cell? ⟨b, 0, none⟩ = some (.string X)) :
    Calls Tryd.prog 15 #[.int .i32 (n : Int), .pointer (some ⟨b, 0, none⟩)] w fun e w' => e = .returned (.bool (isx n)) ∧ Below w.heap.size w w' := by
  have H := Aside0.mk (fun w => contains_c n w h1)
  obtain ⟨s, hs⟩ : ∃ s, X = s := ⟨_, rfl⟩
  rw [hs] at H hc
  clear hs
  go_enter Tryd.func15, Tryd.ntmps15
  go_wp2_with fail
  refine (H.out _).mono ?_
  rintro e w' ⟨rfl, hb⟩
  go_wp2_with fail
  go_ret
  exact ⟨rfl, hb⟩
theorem pays (b : Nat) (w : World) (hlt : b < w.heap.size) (hc : w.cell? ⟨b, 0, none⟩ = some (.string X)) : PredGrows Tryd.prog 15 #[.pointer (some ⟨b, 0, none⟩)] isx w := by
  intro W x hx hb
  exact clo x b W hx (by rw [hb.cell hlt]; exact hc)

theorem fields (s : ByteArray) (b : Nat) (w : World) (hs : s.size ≤ 4294967296) (hlt : b < w.heap.size) (hc : w.cell? ⟨b, 0, none⟩ = some (.string X)) :
    Calls Tryd.prog 14 #[.string s, .func (.func 15) #[] #[.pointer (some ⟨b, 0, none⟩)]] w fun e w' => ∃ A, e = .returned (.slice (some ⟨A, 0, none⟩) (Lib.goFieldsP isx s).length (Lib.goFieldsP isx s).length) ∧ w.heap.size ≤ A ∧
      w'.ownsRow w.heap.size 9 1 (.slice (some ⟨A, 0, none⟩) (Lib.goFieldsP isx s).length (Lib.goFieldsP isx s).length) (Lib.goFieldsP isx s).length ((Lib.goFieldsP isx s).map Value.string) ∧ Below w.heap.size w w' :=
  Any.strings_FieldsFunc_grows Tryd.lays229 15 _ (enters_of Tryd.func15 (by kernel_rfl) rfl) isx s w hs (pays b w hlt hc) (by kernel_rfl) (by kernel_rfl)
end Go.Proofs.YtnnedicoapdkkaaDoor.Rune
