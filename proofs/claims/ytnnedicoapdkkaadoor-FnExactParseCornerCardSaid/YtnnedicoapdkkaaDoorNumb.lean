/- impl.number at this program: whether a text is the decimal form of a number from 0 to 100. Conditions: at most 2^48 bytes; the library's table and its two error variables stand as laid. -/
import Derived.Test.YtnnedicoapdkkaaDoorRune
import Derived.Lib.AppendIntMem
import Derived.Lib.SmallJoins
import Derived.Lib.AtoiAllCases
import Derived.Lib.AtoiErrMem
namespace Go.Proofs.YtnnedicoapdkkaaDoor.Numb
set_option linter.unusedVariables false
set_option linter.unusedSimpArgs false
open Go.RowKit Go.Joins Go.Proofs.YtnnedicoapdkkaaDoorW.PrintWords Go.Proofs.YtnnedicoapdkkaaDoorW.PrintLast Go.Proofs.YtnnedicoapdkkaaDoorW.PrintMore

def txt (n : Int) : ByteArray := ⟨(Lib.itoa n).toArray⟩
abbrev Tab (w : World) : Prop := Lib.TabIs Tryd.prog w "internal/strconv.uint64pow10" .u64 Lib.pow10Tab
theorem named : Tryd.prog.globalNamed "internal/strconv.uint64pow10" = some 3 := by kernel_rfl
theorem namedS : Tryd.prog.globalNamed "strconv.ErrSyntax" = some 1 := by kernel_rfl
theorem namedR : Tryd.prog.globalNamed "strconv.ErrRange" = some 2 := by kernel_rfl
theorem tab {w W : World} (h : Tab w) (hb : Below w.heap.size w W) : Tab W := Go.Joins.tab_stays named h hb (Nat.le_refl _)
def ErrIs (w : World) (n : String) : Prop := ∃ (tp : TypeId) (p : Value), w.var? Tryd.prog n = some #[.iface tp p]
theorem err_below {w W : World} {n : String} {g : Nat} (h : ErrIs w n) (hg : Tryd.prog.globalNamed n = some g) (hb : Below w.heap.size w W) : ErrIs W n := by
  obtain ⟨tp, p, h⟩ := h
  refine ⟨tp, p, ?_⟩
  have hlt : g < w.heap.size := World.block_lt_of_cell? _ _ (World.var?_cell hg h 0)
  unfold World.var? at h ⊢
  rw [hg] at h ⊢
  simp only [Option.bind_some] at h ⊢
  rw [hb.block g hlt]
  exact h
structure Vars (w : World) : Prop where
  tab : Tab w
  es : ErrIs w "strconv.ErrSyntax"
  er : ErrIs w "strconv.ErrRange"
theorem Vars.below {w W : World} (h : Vars w) (hb : Below w.heap.size w W) : Vars W := ⟨Numb.tab h.tab hb, err_below h.es namedS hb, err_below h.er namedR hb⟩
theorem itoa (n : Int) (W : World) (h0 : -9223372036854775808 ≤ n) (h1 : n ≤ 9223372036854775807) (ht : Tab W) : Calls Tryd.prog 19 #[.int .i64 n] W fun e w' => e = .returned (.string (txt n)) ∧ Below W.heap.size W w' := by
  refine Calls.mono (Any.strconv_Itoa Tryd.laysM171 n h0 h1 W ht) ?_
  rintro e w' ⟨rfl, k, os, rfl⟩
  exact ⟨rfl, Lib.below_grow _ _ (Nat.le_refl _) _ _⟩
/-- What the program's number reads. -/
def num1 (s : ByteArray) : Option Int := match Lib.atoiAll s.data.toList with
  | .ok v => if txt v = s ∧ 0 ≤ v ∧ v ≤ 100 then some v else none
  | _ => none
def enc : Option Int → Value
  | some v => .tuple #[.int .i64 v, .bool true]
  | none => .tuple #[.int .i64 0, .bool false]
theorem within (a : Int) (b : Bool) (w : World) (hb : decide (0 ≤ a ∧ a ≤ 100) = b) : Calls Tryd.prog 23 #[.int .i64 a, .int .i64 0, .int .i64 100] w fun e w' => e = .returned (.bool b) ∧ Below w.heap.size w w' := by
  refine Calls.mono (PFnExactParseCorner.impl_within.calls a 0 100 b w ?_) ?_
  · unfold PFnExactParseCorner.impl_within.f
    by_cases h : 0 ≤ a
    · rw [if_pos h, ← hb]; simp [h]
    · rw [if_neg h, ← hb]; simp [h]
  · rintro e w' ⟨rfl, hd⟩
    exact ⟨rfl, hd.below⟩

theorem atoi_ok (s : ByteArray) (v : Int) (w : World) (hs : s.size ≤ 281474976710656) (h : Lib.atoiAll s.data.toList = .ok v) :
    Calls Tryd.prog 22 #[.string s] w fun e w' => e = .returned (.tuple #[.int .i64 v, .nilIface]) ∧ Below w.heap.size w w' := by
  refine Calls.mono (Any.strconv_Atoi_ok Tryd.laysC172 s (by omega) v h w) ?_
  rintro e w' ⟨rfl, rfl | ⟨t, rfl⟩⟩
  · exact ⟨rfl, Below.refl _ _⟩
  · exact ⟨rfl, Lib.bytesWorld_below _ _ _⟩
theorem atoi_bad (s : ByteArray) (w : World) (hs : s.size ≤ 281474976710656) (h : ∀ v, Lib.atoiAll s.data.toList ≠ .ok v) (hV : Vars w) :
    Calls Tryd.prog 22 #[.string s] w fun e w' => (∃ (N : Nat) (x : Int), e = .returned (.tuple #[.int .i64 x, .iface 62 (.pointer (some ⟨N, 0, none⟩))])) ∧ Below w.heap.size w w' := by
  cases hh : Lib.atoiAll s.data.toList with
  | ok v => exact absurd hh (h v)
  | «syntax» =>
    obtain ⟨tp, p, hv⟩ := hV.es
    refine Calls.mono (Any.strconv_Atoi_syntax_var Tryd.laysC172 s hs hh tp p w hv) ?_
    rintro e w' ⟨N, rfl, _, _, hb⟩
    exact ⟨⟨N, 0, rfl⟩, hb⟩
  | range =>
    obtain ⟨tp, p, hv⟩ := hV.er
    refine Calls.mono (Any.strconv_Atoi_range_var Tryd.laysC172 s hs hh tp p w hv) ?_
    rintro e w' ⟨N, rfl, _, _, hb⟩
    exact ⟨⟨N, _, rfl⟩, hb⟩

set_option maxHeartbeats 4000000 in
set_option maxRecDepth 100000 in
theorem num_bad (s : ByteArray) (w : World) (hs : s.size ≤ 281474976710656) (h : ∀ v, Lib.atoiAll s.data.toList ≠ .ok v) (hV : Vars w) :
    Calls Tryd.prog 17 #[.string s, .int .i64 100] w fun e w' => e = .returned (.tuple #[.int .i64 0, .bool false]) ∧ Below w.heap.size w w' := by
  have H := Aside0.mk (atoi_bad s w hs h hV)
  clear h hV
  go_enter Tryd.func17, Tryd.ntmps17
  go_wp2_with fail
  refine H.out.mono ?_
  rintro e w' ⟨⟨N, x, rfl⟩, hb⟩
  go_wp2_with fail
  go_ret2
  exact ⟨rfl, hb⟩

set_option maxHeartbeats 4000000 in
set_option maxRecDepth 100000 in
theorem num_ne (s t : ByteArray) (v : Int) (w : World) (hs : s.size ≤ 281474976710656) (h : Lib.atoiAll s.data.toList = .ok v) (ht : txt v = t) (hne : t ≠ s) (hV : Vars w) :
    Calls Tryd.prog 17 #[.string s, .int .i64 100] w fun e w' => e = .returned (.tuple #[.int .i64 0, .bool false]) ∧ Below w.heap.size w w' := by
  have hbd := Lib.atoiAll_bounds h
  have H := Aside0.mk (atoi_ok s v w hs h)
  have HI := Aside0.mk (fun W (hb : Below w.heap.size w W) => ht ▸ itoa v W hbd.1 hbd.2 (hV.below hb).tab)
  clear hbd hV h ht
  have hb1 : ¬ t.toList = s.toList := by
    rw [ByteArray.toList_eq, ByteArray.toList_eq]
    intro e
    apply hne
    obtain ⟨⟨x⟩⟩ := t
    obtain ⟨⟨y⟩⟩ := s
    exact congrArg (fun l => (⟨⟨l⟩⟩ : ByteArray)) e
  go_enter Tryd.func17, Tryd.ntmps17
  go_wp2_with fail
  refine H.out.mono ?_
  rintro e w' ⟨rfl, hb⟩
  go_wp2_with fail
  refine (HI.out _ hb).mono ?_
  rintro e w2 ⟨rfl, hb2⟩
  go_wp2_with fail
  go_ret2
  exact ⟨rfl, hb.trans (hb2.mono hb.size)⟩
set_option maxHeartbeats 4000000 in
set_option maxRecDepth 100000 in
theorem num_eq (s : ByteArray) (v : Int) (w : World) (b : Bool) (hs : s.size ≤ 281474976710656) (h : Lib.atoiAll s.data.toList = .ok v) (ht : txt v = s) (hin : decide (0 ≤ v ∧ v ≤ 100) = b) (hV : Vars w) :
    Calls Tryd.prog 17 #[.string s, .int .i64 100] w fun e w' => e = .returned (if b = true then .tuple #[.int .i64 v, .bool true] else .tuple #[.int .i64 0, .bool false]) ∧ Below w.heap.size w w' := by
  have hbd := Lib.atoiAll_bounds h
  have H := Aside0.mk (atoi_ok s v w hs h)
  have HI := Aside0.mk (fun W (hb : Below w.heap.size w W) => ht ▸ itoa v W hbd.1 hbd.2 (hV.below hb).tab)
  have HW := Aside0.mk (fun w => within v b w hin)
  clear hbd hV h ht hin
  have hb1 : (s.data.toList != s.data.toList) = false := bne_self_eq_false _
  cases b
  all_goals (
    go_enter Tryd.func17, Tryd.ntmps17
    go_wp2_with fail
    refine H.out.mono ?_
    rintro e w' ⟨rfl, hb⟩
    go_wp2_with fail
    refine (HI.out _ hb).mono ?_
    rintro e w2 ⟨rfl, hb2⟩
    go_wp2_with fail
    refine (HW.out _).mono ?_
    rintro e w3 ⟨rfl, hb3⟩
    go_wp2_with fail
    go_ret2
    exact ⟨rfl, (hb.trans (hb2.mono hb.size)).trans (hb3.mono (Nat.le_trans hb.size hb2.size))⟩)

theorem number (s : ByteArray) (w : World) (hs : s.size ≤ 281474976710656) (hV : Vars w) :
    Calls Tryd.prog 17 #[.string s, .int .i64 100] w fun e w' => e = .returned (enc (num1 s)) ∧ Below w.heap.size w w' := by
  cases hh : Lib.atoiAll s.data.toList with
  | ok v =>
    by_cases he : txt v = s
    · refine (num_eq s v w _ hs hh he rfl hV).mono ?_
      rintro e w' ⟨rfl, hb⟩
      refine ⟨?_, hb⟩
      unfold num1
      rw [hh]
      by_cases h2 : 0 ≤ v ∧ v ≤ 100
      · simp [he, h2, enc]
      · simp [he, h2, enc]
    · refine (num_ne s _ v w hs hh rfl he hV).mono ?_
      rintro e w' ⟨rfl, hb⟩
      refine ⟨?_, hb⟩
      unfold num1
      rw [hh]
      simp [he, enc]
  | _ =>
    refine (num_bad s w hs (by rw [hh]; intro v hv; cases hv) hV).mono ?_
    rintro e w' ⟨rfl, hb⟩
    refine ⟨?_, hb⟩
    unfold num1
    rw [hh]
    rfl
end Go.Proofs.YtnnedicoapdkkaaDoor.Numb
