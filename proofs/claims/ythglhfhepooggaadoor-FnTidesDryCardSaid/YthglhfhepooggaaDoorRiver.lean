/- impl.IsRiver at this program, of a text of o and . alone: true. Conditions: from 1 to 40 bytes, each one of the two. -/
import Derived.Test.YthglhfhepooggaaDoorSh
namespace Go.Proofs.YthglhfhepooggaaDoor.Sh
open Go.RowKit Go.Proofs.YthglhfhepooggaaDoorW.PrintWords Go.Proofs.YthglhfhepooggaaDoorW.PrintLast Go.Proofs.YthglhfhepooggaaDoorW.PrintMore
set_option linter.unusedVariables false
set_option linter.unusedSimpArgs false
theorem trim_river (s : ByteArray) (hd : ∀ x ∈ s.data.toList, x = 111 ∨ x = 46) : (⟨(Lib.trimS s.data.toList [111, 46]).toArray⟩ : ByteArray).toList = [] := by
  have h := (trim_nil s.data.toList [111, 46]).mpr (fun x hx => by rcases hd x hx with e | e <;> (subst e; decide))
  rw [Lib.toList_data]
  exact h
theorem trimmedR (s : ByteArray) (w : World) (h : s.size ≤ 9223372036854775807) (hd : ∀ x ∈ s.data.toList, x = 111 ∨ x = 46) : Calls Tryd.prog 53 #[.string s, .string ⟨#[111, 46]⟩] w fun e w' => ∃ t : ByteArray, e = .returned (.string t) ∧ t.toList = [] ∧ Below w.heap.size w w' :=
  (Any.strings_Trim_laid Tryd.lays160 (by kernel_rfl) s ⟨#[111, 46]⟩ w h (by decide) (fun j b hj => of_decide_eq_true (List.all_eq_true.mp (show ([111, 46] : List UInt8).all (fun b => decide (b.toNat < 128)) = true by decide) b (List.mem_of_getElem? hj)))).mono fun e w' ⟨he, hb⟩ => ⟨_, he, trim_river s hd, hb⟩

set_option maxHeartbeats 2000000 in
set_option maxRecDepth 100000 in
theorem isRiver (s : ByteArray) (w : World) (h1 : 1 ≤ s.size) (h2 : s.size ≤ 40) (hd : ∀ x ∈ s.data.toList, x = 111 ∨ x = 46) : Calls Tryd.prog 43 #[.string s] w fun e w' => e = .returned (.bool true) ∧ Below w.heap.size w w' := by
  have CT := Aside0.mk (trimmedR s w (by omega) hd)
  have CW := Aside0.mk (fun W => within_any (s.size : Int) 1 40 W)
  have E := Aside0.mk (decide_eq_true (show (1 : Int) ≤ (s.size : Int) ∧ (s.size : Int) ≤ 40 by omega))
  clear hd h1 h2
  go_enter Tryd.func43, Tryd.ntmps43
  go_wp2_with fail
  refine (CW.out _).mono ?_
  rw [E.out]
  rintro e w' ⟨rfl, rfl⟩
  go_wp2_with fail
  refine CT.out.mono ?_
  rintro e w1 ⟨t, rfl, ht, hb⟩
  have HB := Aside0.mk hb
  clear hb
  have ht2 := List.isEmpty_iff.mpr ht
  go_wp2_with fail
  go_ret
  exact ⟨by first | rfl | (simp [ht]; done), HB.out⟩
end Go.Proofs.YthglhfhepooggaaDoor.Sh
