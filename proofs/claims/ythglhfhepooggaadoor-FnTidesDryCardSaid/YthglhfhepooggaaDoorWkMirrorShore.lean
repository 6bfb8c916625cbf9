/- impl.MirrorShore at this program: the text turned round, where it is a shore. Condition: the text lies within the reach. -/
import Derived.Test.YthglhfhepooggaaDoorSh
import Derived.Test.YthglhfhepooggaaDoorShelfRev
import Derived.Laws.IdiomStrings
import Derived.Lib.ConvBytes
namespace Go.Proofs.YthglhfhepooggaaDoor.WkMirrorShore
set_option linter.unusedVariables false
set_option linter.unusedSimpArgs false
open Go.Sort
open Go.RowKit Go.Proofs.YthglhfhepooggaaDoorW.PrintWords Go.Proofs.YthglhfhepooggaaDoorW.PrintLast Go.Proofs.YthglhfhepooggaaDoorW.PrintMore Sh

abbrev encB (b : UInt8) : Value := .int .u8 (b.toNat : Int)
theorem oneB : OneCell encB := fun x => rfl
def val (s : ByteArray) : ByteArray × Bool := if okShore s = true then (⟨s.data.toList.reverse.toArray⟩, true) else (⟨#[]⟩, false)
theorem holds_bytes (w : World) (s : ByteArray) : Holds encB (Lib.bytesWorld w 5 s) w.heap.size 0 s.data.toList.toArray := by
  intro j hj
  have hj' : j < s.size := by simpa using hj
  refine ⟨?_, ?_⟩
  · rw [Nat.zero_add, Lib.bytesWorld_cell w 5 s j hj']
    simp [encB, List.getD_eq_getElem?_getD, hj']
  · rw [Nat.zero_add]
    have h2 : s.size ≤ (Lib.bytesCells w 5 s).size := by simp [Lib.bytesCells]
    simp only [World.frozen?, Lib.bytesWorld_at_new]
    simp
    omega
theorem below_bytes (w : World) (s : ByteArray) : Below w.heap.size w (Lib.bytesWorld w 5 s) := by
  have hg : w.grownBy (Lib.bytesWorld w 5 s) none := ⟨rfl, rfl, rfl, by rw [Lib.bytesWorld_size]; omega, fun k hk _ => Lib.bytesWorld_at_old w 5 s k hk⟩
  exact (Below.refl _ _).grown hg (Nat.le_refl _) (fun k e => by cases e)
theorem below_row {w W : World} {g n : Nat} {m : List UInt8} (h : Below w.heap.size w W) (hg : w.heap.size ≤ g) : Below w.heap.size w (putRow encB (Sort.ahead W n) g 0 m.toArray) := by
  have h2 : W.grownBy (putRow encB (Sort.ahead W n) g 0 m.toArray) (some g) := ⟨rfl, rfl, rfl, by simp [putRow, mapBlock, Sort.ahead], fun k hk hne => by simp [putRow, mapBlock, Sort.ahead, Array.getElem?_modify, show g ≠ k from fun e => hne (by rw [e])]⟩
  exact h.grown h2 h.size (fun k e => by cases e; exact hg)
theorem back (w : World) (g : Nat) (l m : List UInt8) (n cap : Nat) (hm : m.length = l.length) (h : Holds encB w g 0 l.toArray) :
    (convert 40 9 (.slice (some ⟨g, 0, none⟩) l.length cap)).run Tryd.prog (putRow encB (Sort.ahead w n) g 0 m.toArray) = .ok (.string ⟨m.toArray⟩) (putRow encB (Sort.ahead w n) g 0 m.toArray) := by
  rw [← hm]
  refine run_convert_bytes_back _ 40 9 5 ⟨g, 0, none⟩ cap m Tryd.underlying40 Tryd.underlying5 Tryd.underlying9 (fun j hj => ?_)
  have := cell?_putRow encB (Sort.ahead w n) g 0 l.toArray m.toArray h (by simp [hm]) j (by simpa using hj)
  rw [show (⟨g, 0, none⟩ : Addr).add j = ⟨g, 0 + j, none⟩ by unfold Addr.add; split <;> simp_all]
  rw [this]
  simp [encB, hj]

set_option maxHeartbeats 2000000 in
set_option maxRecDepth 100000 in
theorem mirrored (s : ByteArray) (w : World) (hs : s.size ≤ 14) : Calls Tryd.prog 55 #[.string s] w fun e w' => e = .returned (.string ⟨s.data.toList.reverse.toArray⟩) ∧ Below w.heap.size w w' := by
  have hconv := fun (w : World) (s : ByteArray) => Lib.run_convert_string_bytes (P := Tryd.prog) w 9 40 5 s Tryd.underlying9 Tryd.underlying40 Tryd.underlying5
  have hlen : s.data.toList.length = s.size := size_list s
  have cR := AnyE.slices_Reverse Tryd.laysRev encB oneB w.heap.size 0 (grownCap w s.size 0 5) s.data.toList (Lib.bytesWorld w 5 s) (holds_bytes w s) (by rw [hlen]; omega)
  change Calls Tryd.prog 90 _ _ _ at cR
  rw [hlen] at cR
  have HB := Aside0.mk (fun (n cap : Nat) => back (Lib.bytesWorld w 5 s) w.heap.size s.data.toList s.data.toList.reverse n cap (by simp) (holds_bytes w s))
  rw [hlen] at HB
  clear hlen
  generalize s.data.toList.reverse = m at cR HB ⊢
  go_enter Tryd.func55, Tryd.ntmps55
  go_wp2_with fail
  refine cR.mono ?_
  clear cR hconv
  rintro e w' ⟨rfl, n, rfl⟩
  have hb := HB.out n (grownCap w s.size 0 5)
  have HBel := Aside0.mk (below_row (n := n) (m := m) (below_bytes w s) (Nat.le_refl _))
  generalize putRow encB (Sort.ahead (Lib.bytesWorld w 5 s) n) w.heap.size 0 m.toArray = W at hb HBel ⊢
  go_wp2_with fail
  go_ret
  exact ⟨rfl, HBel.out⟩

set_option maxHeartbeats 2000000 in
set_option maxRecDepth 100000 in
theorem impl (s : ByteArray) (w : World) (hs : s.size ≤ 140737488351232) : Calls Tryd.prog 22 #[.string s] w fun e w' => e = .returned (.tuple #[.string (val s).1, .bool (val s).2]) ∧ Below w.heap.size w w' := by
  have c1 := isShore s w hs
  unfold val
  cases h1 : okShore s with
  | false =>
    rw [h1] at c1
    rw [if_neg (by simp)]
    clear h1
    go_enter Tryd.func22, Tryd.ntmps22
    go_wp2_with fail
    refine c1.mono ?_
    clear c1
    rintro e w1 ⟨rfl, hb⟩
    have HB := Aside0.mk hb
    clear hb
    go_wp2_with fail
    go_ret2
    exact ⟨rfl, HB.out⟩
  | true =>
    have hz := okShore_size h1
    have CM := Aside0.mk (fun W => mirrored s W hz.2)
    rw [h1] at c1
    rw [if_pos rfl]
    clear h1 hz
    go_enter Tryd.func22, Tryd.ntmps22
    go_wp2_with fail
    refine c1.mono ?_
    clear c1
    rintro e w1 ⟨rfl, hb⟩
    have HB := Aside0.mk hb
    clear hb
    go_wp2_with fail
    refine (CM.out _).mono ?_
    rintro e w2 ⟨rfl, hb⟩
    have HB2 := Aside0.mk (HB.out.trans (hb.mono HB.out.size))
    clear hb
    go_wp2_with fail
    go_ret2
    exact ⟨rfl, HB2.out⟩
end Go.Proofs.YthglhfhepooggaaDoor.WkMirrorShore
