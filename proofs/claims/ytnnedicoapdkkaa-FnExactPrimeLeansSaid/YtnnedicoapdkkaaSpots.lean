/- (Corner).spots, CountSpots, SpotsFor, LeastPlank at this program: told by the list of first spots and the predicate far. Conditions: the printed list of first spots is r, its elements have two numbers or more. -/
import Derived.Test.YtnnedicoapdkkaaClo
import Derived.Test.YtnnedicoapdkkaaPFnExactSpotsForx1
import Derived.Shelf.Abstract
namespace Go.Proofs.Ytnnedicoapdkkaa.Spots
set_option linter.unusedVariables false
set_option linter.unusedSimpArgs false
open Go.Shelf Go.RowKit Go.Proofs.YtnnedicoapdkkaaW.PrintWords Go.Proofs.YtnnedicoapdkkaaW.PrintLast Go.Proofs.YtnnedicoapdkkaaW.PrintMore DF Clo PFnExactSpotsFor

/-- Elements of one list with tags that differ: their rows lie apart. -/
theorem S_of_tags {α : Type} {d : Kd α} {e base : Nat} {ok : Nat → Prop} {w : World} {v : Value} {f : Nat → Nat} {ys : List (α × Nat)} (h : (Kd.tag f d).R e w base ok v ys) (hn : (ys.map Prod.snd).Nodup) : Kd.S d e w base ok v (ys.map Prod.fst) := by
  obtain ⟨h0, inner, ho, hr⟩ := h
  refine ⟨fun b => (ys.map Prod.snd).idxOf (f b), h0, inner, by rw [List.length_zipIdx, List.length_map]; exact ho, by rw [List.length_zipIdx, List.length_map]; exact hr.1, fun j p hj => ?_⟩
  rw [List.getElem?_zipIdx, Nat.zero_add] at hj
  obtain ⟨x, hx, rfl⟩ := Option.map_eq_some_iff.1 hj
  rw [List.getElem?_map] at hx
  obtain ⟨y, hy, rfl⟩ := Option.map_eq_some_iff.1 hx
  refine d.M_mono (fun b hb => ⟨hb.1, ?_⟩) (hr.2 j y hy)
  have h2 : f b = y.2 := hb.2
  obtain ⟨hjl, hyj⟩ := List.getElem?_eq_some_iff.1 hy
  show (ys.map Prod.snd).idxOf (f b) = j
  have h3 : f b = (ys.map Prod.snd)[j]'(by rw [List.length_map]; exact hjl) := by rw [List.getElem_map, hyj]; exact h2
  rw [h3]
  exact hn.idxOf_getElem j _
theorem zip_filter {α : Type} (p : α → Bool) (xs : List α) : ((xs.zipIdx.filter fun y => !p y.1).map Prod.fst) = xs.filter fun x => !p x := by
  have h1 : (fun y : α × Nat => !p y.1) = (fun x => !p x) ∘ Prod.fst := rfl
  rw [h1, ← List.filter_map, List.zipIdx_map_fst]
theorem zip_nodup {α : Type} (q : α × Nat → Bool) (xs : List α) : ((xs.zipIdx.filter q).map Prod.snd).Nodup := by
  have h1 : ((xs.zipIdx.filter q).map Prod.snd).Sublist (xs.zipIdx.map Prod.snd) := (List.filter_sublist).map _
  refine h1.nodup ?_
  rw [List.zipIdx_map_snd]
  exact List.nodup_range'
theorem deleteS {α : Type} (d : Kd α) (hs : d.sz = 1) (p : α → Bool) (gf : Nat) (lb : Array Value) (base : Nat) (ok : Nat → Prop) (v : Value) (xs : List α) (w0 w : World)
    (eg : ∀ args w, (callFunc gf args).run Try.prog w = .ok (.enter gf args) w)
    (hT : ∀ W x u, w.grownBy W v.ownBlock → x ∈ xs → d.K W x [u] → Calls Try.prog gf (#[u] ++ lb) W fun e w' => e = .returned (.bool (p x)) ∧ Below W.heap.size W w')
    (hR : Kd.S d 40 w base ok v xs) (hB : Below w0.heap.size w0 w) (hb : w0.heap.size ≤ base) :
    Calls Try.prog 50 #[v, .func (.func gf) #[] lb] w fun e w' => ∃ v', e = .returned v' ∧ Kd.S d 40 w' base ok v' (xs.filter fun x => !p x) ∧ Below w0.heap.size w0 w' := by
  obtain ⟨f, h⟩ := hR
  refine (deleteFunc (Kd.tag f d) hs (fun y => p y.1) gf lb base ok v xs.zipIdx w0 w eg (fun W x u hg hx hK => hT W x.1 u hg ?_ hK) h hB hb).mono ?_
  · obtain ⟨x, i⟩ := x
    have := List.mem_zipIdx hx
    exact List.mem_iff_getElem.2 ⟨i, by omega, this.2.2.symm⟩
  · rintro e w' ⟨v', rfl, h1, h2⟩
    have h3 := S_of_tags h1 (zip_nodup _ xs)
    rw [zip_filter] at h3
    exact ⟨v', rfl, h3, h2⟩

abbrev KL : Kd (List Int) := Kd.slice 3 (Kd.int .i64)
def good (cw cd pl : Int) (r : List (List Int)) : List (List Int) := r.filter fun x => !far cw cd pl x
abbrev boxC (cw cd : Int) : Obj := .cells #[.int .i64 cw, .int .i64 cd] 26

set_option maxHeartbeats 4000000 in
set_option maxRecDepth 100000 in
theorem spots (k : Nat) (cw cd pl : Int) (r : List (List Int)) (w : World) (h : impl_firsts.f k pl = some r) (hl : ∀ x ∈ r, 2 ≤ x.length) :
    Calls Try.prog 46 #[.agg #[.int .i64 cw, .int .i64 cd], .int .i64 pl] w fun e w' => ∃ v, e = .returned v ∧ Kd.S KL 40 w' w.heap.size (fun _ => True) v (good cw cd pl r) ∧ Below w.heap.size w w' := by
  have hu26 := Try.underlying26
  have HF := Aside0.mk (fun W => impl_firsts.calls k pl r W h)
  have HL := Aside0.mk hl
  clear h hl
  go_enter Try.func46, Try.ntmps46
  go_wp2_with fail
  refine (HF.out _).mono ?_
  rintro e w1 ⟨v, rfl, hS, hb⟩
  have hsz : ((w.alloc (boxC cw cd)).alloc (.cells #[.int .i64 pl] 3)).heap.size = w.heap.size + 2 := by simp
  have HB1 := Aside0.mk (below_step (below_alloc (below_alloc (Below.refl w.heap.size w) (boxC cw cd)) (.cells #[.int .i64 pl] 3)) hb)
  have B1 : Aside0 (w1.heap[w.heap.size]? = some (boxC cw cd)) := ⟨blk_below (blk_below (blk_new w _) (below_alloc (Below.refl _ _) _)) hb⟩
  have B2 : Aside0 (w1.heap[w.heap.size + 1]? = some (.cells #[.int .i64 pl] 3)) := ⟨blk_below (by have := blk_new (w.alloc (boxC cw cd)) (.cells #[.int .i64 pl] 3); simpa using this) hb⟩
  have HS : Aside0 (Kd.S KL 40 w1 (w.heap.size + 2) (fun _ => True) v r) := ⟨by rw [← hsz]; exact hS⟩
  clear hS hb hsz
  go_wp2_with fail
  refine (deleteS KL rfl (far cw cd pl) 62 #[.pointer (some ⟨w.heap.size, 0, none⟩), .pointer (some ⟨w.heap.size + 1, 0, none⟩)] (w.heap.size + 2) (fun _ => True) v r w w1 (enters_of Try.func62 (by kernel_rfl) rfl) ?_ HS.out HB1.out (by omega)).mono ?_
  · intro W x u hg hx hK
    have hne : ∀ q, q < w.heap.size + 2 → some q ≠ v.ownBlock := fun q hq he => by have := Kd.S_base HS.out q he.symm; omega
    have hc1 := (hg.block _ (blk_lt B1.out) (hne _ (by omega))).trans B1.out
    have hc2 := (hg.block _ (blk_lt B2.out) (hne _ (by omega))).trans B2.out
    exact spot cw cd pl w.heap.size (w.heap.size + 1) x u W (HL.out x hx) hK ((blk_cell hc1 0).trans rfl) ((blk_cell hc1 1).trans rfl) ((blk_cell hc2 0).trans rfl)
  · rintro e w2 ⟨v2, rfl, h2, b2⟩
    have H2 := Aside0.mk (Kd.S_lower h2 (show w.heap.size ≤ w.heap.size + 2 by omega))
    have HB2 := Aside0.mk b2
    clear h2 b2
    obtain ⟨A, c, rfl⟩ := Kd.S_slice H2.out
    go_wp2_with fail
    go_ret
    exact ⟨_, rfl, H2.out, HB2.out⟩
/-- Behind the box of the corner. -/
theorem box_kept {w w1 : World} {cw cd : Int} (hb : Below (w.alloc (boxC cw cd)).heap.size (w.alloc (boxC cw cd)) w1) : w1.heap[w.heap.size]? = some (boxC cw cd) := blk_below (blk_new w _) hb
theorem box0 {w1 : World} {g : Nat} {cw cd : Int} (h : w1.heap[g]? = some (boxC cw cd)) : w1.cell? ⟨g, 0, none⟩ = some (.int .i64 cw) := (blk_cell h 0).trans rfl
theorem box1 {w1 : World} {g : Nat} {cw cd : Int} (h : w1.heap[g]? = some (boxC cw cd)) : w1.cell? ⟨g, 1, none⟩ = some (.int .i64 cd) := (blk_cell h 1).trans rfl

set_option maxHeartbeats 4000000 in
set_option maxRecDepth 100000 in
theorem count_yes (k : Nat) (cw cd pl : Int) (r : List (List Int)) (w : World) (hI : impl_IsCorner.f cw cd = some true) (hP : impl_isPlankLong.f pl = some true) (h : impl_firsts.f k pl = some r) (hl : ∀ x ∈ r, 2 ≤ x.length) :
    Calls Try.prog 15 #[.agg #[.int .i64 cw, .int .i64 cd], .int .i64 pl] w fun e w' => e = .returned (.tuple #[.int .i64 ((good cw cd pl r).length : Int), .bool true]) ∧ Below w.heap.size w w' := by
  have hu26 := Try.underlying26
  have CI := Aside0.mk (fun W => impl_IsCorner.calls cw cd true W hI)
  have CP := Aside0.mk (fun W => impl_isPlankLong.calls pl true W hP)
  have CS := Aside0.mk (fun W => spots k cw cd pl r W h hl)
  clear hI hP h hl
  generalize good cw cd pl r = q at CS ⊢
  go_enter Try.func15, Try.ntmps15
  go_wp2_with fail
  refine (CI.out _).mono ?_
  rintro e w1 ⟨rfl, hb⟩
  have HB1 := Aside0.mk (below_step (below_alloc (Below.refl w.heap.size w) (boxC cw cd)) hb)
  have BK := Aside0.mk (box_kept hb)
  clear hb
  go_wp2_with fail
  refine (CP.out _).mono ?_
  rintro e wx ⟨rfl, ⟨nd, rfl⟩⟩
  have HB2 := Aside0.mk (pw_below_drewN HB1.out nd)
  have BK2 : Aside0 ((w1.drewN nd).heap[w.heap.size]? = some (boxC cw cd)) := ⟨BK.out⟩
  generalize w1.drewN nd = w2 at HB2 BK2 ⊢
  have hc0 := box0 BK2.out
  have hc1 := box1 BK2.out
  go_wp2_with fail
  refine (CS.out _).mono ?_
  rintro e w3 ⟨v, rfl, hS, hb⟩
  have HB3 := Aside0.mk (below_then HB2.out HB2.out.size hb)
  clear hb
  obtain ⟨A, c, rfl⟩ := Kd.S_slice hS
  clear hS
  go_wp2_with fail
  go_ret2
  exact ⟨rfl, HB3.out⟩

set_option maxHeartbeats 4000000 in
set_option maxRecDepth 100000 in
theorem count_no (cw cd pl : Int) (b : Bool) (w : World) (hI : impl_IsCorner.f cw cd = some b) (hP : b = true → impl_isPlankLong.f pl = some false) :
    Calls Try.prog 15 #[.agg #[.int .i64 cw, .int .i64 cd], .int .i64 pl] w fun e w' => e = .returned (.tuple #[.int .i64 0, .bool false]) ∧ Below w.heap.size w w' := by
  have hu26 := Try.underlying26
  cases b with
  | false =>
    have CI := Aside0.mk (fun W => impl_IsCorner.calls cw cd false W hI)
    clear hI hP
    go_enter Try.func15, Try.ntmps15
    go_wp2_with fail
    refine (CI.out _).mono ?_
    rintro e w1 ⟨rfl, hb⟩
    have HB1 := Aside0.mk (below_step (below_alloc (Below.refl w.heap.size w) (boxC cw cd)) hb)
    clear hb
    go_wp2_with fail
    go_ret2
    exact ⟨rfl, HB1.out⟩
  | true =>
    have CI := Aside0.mk (fun W => impl_IsCorner.calls cw cd true W hI)
    have CP := Aside0.mk (fun W => impl_isPlankLong.calls pl false W (hP rfl))
    clear hI hP
    go_enter Try.func15, Try.ntmps15
    go_wp2_with fail
    refine (CI.out _).mono ?_
    rintro e w1 ⟨rfl, hb⟩
    have HB1 := Aside0.mk (below_step (below_alloc (Below.refl w.heap.size w) (boxC cw cd)) hb)
    clear hb
    go_wp2_with fail
    refine (CP.out _).mono ?_
    rintro e wx ⟨rfl, ⟨nd, rfl⟩⟩
    have HB2 := Aside0.mk (pw_below_drewN HB1.out nd)
    generalize w1.drewN nd = w2 at HB2 ⊢
    go_wp2_with fail
    go_ret2
    exact ⟨rfl, HB2.out⟩

/-- What SpotsFor hands back, told by what CountSpots does. -/
def sf (n : Int) (b : Bool) (q : List (List Int)) : List (List Int) × Bool := if b = true ∧ n ≤ 1000 then (q, true) else ([], false)
set_option maxHeartbeats 4000000 in
set_option maxRecDepth 100000 in
theorem spotsFor (cw cd pl n : Int) (b : Bool) (q : List (List Int)) (w : World)
    (hC : ∀ W, Calls Try.prog 15 #[.agg #[.int .i64 cw, .int .i64 cd], .int .i64 pl] W fun e w' => e = .returned (.tuple #[.int .i64 n, .bool b]) ∧ Below W.heap.size W w')
    (hS : b = true → ∀ W, Calls Try.prog 46 #[.agg #[.int .i64 cw, .int .i64 cd], .int .i64 pl] W fun e w' => ∃ v, e = .returned v ∧ Kd.S KL 40 w' W.heap.size (fun _ => True) v q ∧ Below W.heap.size W w') :
    Calls Try.prog 19 #[.agg #[.int .i64 cw, .int .i64 cd], .int .i64 pl] w fun e w' => ∃ v, e = .returned (.tuple #[v, .bool (sf n b q).2]) ∧ Kd.S KL 40 w' w.heap.size (fun _ => True) v (sf n b q).1 ∧ Below w.heap.size w w' := by
  have hu26 := Try.underlying26
  unfold sf
  have CC := Aside0.mk hC
  have CS := Aside0.mk hS
  clear hC hS
  cases b with
  | false =>
    rw [if_neg (by simp)]
    clear CS
    go_enter Try.func19, Try.ntmps19
    go_wp2_with fail
    refine (CC.out _).mono ?_
    rintro e w1 ⟨rfl, hb⟩
    have HB1 := Aside0.mk (below_step (below_alloc (Below.refl w.heap.size w) (boxC cw cd)) hb)
    clear hb
    go_wp2_with fail
    go_ret2
    exact ⟨_, rfl, Kd.S_nil _ _ _ _ _, HB1.out⟩
  | true =>
    by_cases hn : n ≤ 1000
    · rw [if_pos ⟨rfl, hn⟩]
      replace CS := Aside0.mk (CS.out rfl)
      have hn2 : ¬ n > 1000 := by omega
      go_enter Try.func19, Try.ntmps19
      go_wp2_with fail
      refine (CC.out _).mono ?_
      rintro e w1 ⟨rfl, hb⟩
      have HB1 := Aside0.mk (below_step (below_alloc (Below.refl w.heap.size w) (boxC cw cd)) hb)
      have BK := Aside0.mk (box_kept hb)
      have hc0 := box0 BK.out
      have hc1 := box1 BK.out
      clear hb
      go_wp2_with fail
      refine (CS.out _).mono ?_
      rintro e w2 ⟨v, rfl, hS, hb⟩
      have HB2 := Aside0.mk (below_then HB1.out HB1.out.size hb)
      have HS := Aside0.mk (Kd.S_lower hS HB1.out.size)
      clear hb
      obtain ⟨A, c, rfl⟩ := Kd.S_slice hS
      clear hS
      go_wp2_with fail
      go_ret2
      exact ⟨_, rfl, HS.out, HB2.out⟩
    · rw [if_neg (fun q => hn q.2)]
      clear CS
      have hn2 : n > 1000 := by omega
      go_enter Try.func19, Try.ntmps19
      go_wp2_with fail
      refine (CC.out _).mono ?_
      rintro e w1 ⟨rfl, hb⟩
      have HB1 := Aside0.mk (below_step (below_alloc (Below.refl w.heap.size w) (boxC cw cd)) hb)
      clear hb
      go_wp2_with fail
      go_ret2
      exact ⟨_, rfl, Kd.S_nil _ _ _ _ _, HB1.out⟩
set_option maxHeartbeats 4000000 in
set_option maxRecDepth 100000 in
theorem least_yes (cw cd : Int) (P : Nat) (q : Nat → List (List Int)) (w : World) (hI : impl_IsCorner.f cw cd = some true) (hP1 : 1 ≤ P) (hP2 : P ≤ 1000)
    (hS : ∀ p : Nat, 1 ≤ p → p ≤ P → ∀ W, Calls Try.prog 46 #[.agg #[.int .i64 cw, .int .i64 cd], .int .i64 (p : Int)] W fun e w' => ∃ v, e = .returned v ∧ Kd.S KL 40 w' W.heap.size (fun _ => True) v (q p) ∧ Below W.heap.size W w')
    (hq : ∀ p : Nat, 1 ≤ p → p < P → (q p).length = 0) (hq2 : 0 < (q P).length) :
    Calls Try.prog 17 #[.agg #[.int .i64 cw, .int .i64 cd]] w fun e w' => e = .returned (.tuple #[.int .i64 (P : Int), .bool true]) ∧ Below w.heap.size w w' := by
  have hu26 := Try.underlying26
  have CI := Aside0.mk (fun W => impl_IsCorner.calls cw cd true W hI)
  have HS := Aside0.mk hS
  have HQ := Aside0.mk hq
  have HQ2 := Aside0.mk hq2
  clear hI hS hq hq2
  go_enter Try.func17, Try.ntmps17
  go_wp2_with fail
  refine (CI.out _).mono ?_
  rintro e w1 ⟨rfl, hb⟩
  have HB1 := Aside0.mk (below_step (below_alloc (Below.refl w.heap.size w) (boxC cw cd)) hb)
  have BK := Aside0.mk (box_kept hb)
  clear hb
  go_wp2_with fail
  go_loopw [4] (fun v4 wr => ∃ p : Nat, v4 = .int .i64 (p : Int) ∧ Aside0 (1 ≤ p) ∧ Aside0 (p ≤ P) ∧ Aside0 (Below w.heap.size w wr) ∧ Aside0 (wr.heap[w.heap.size]? = some (boxC cw cd))) (fun v4 _ => P - (intOf v4).toNat)
  case atStart => exact ⟨1, rfl, ⟨by omega⟩, ⟨hP1⟩, HB1, BK⟩
  case round =>
    clear HB1 BK
    obtain ⟨p, rfl, H1, HP, HB, BK⟩ := hrel
    have hc0 := box0 BK.out
    have hc1 := box1 BK.out
    have HC := Aside0.mk (HS.out p H1.out HP.out)
    have hpP := HP.out
    by_cases hlt : p < P
    · have h0 := Aside0.mk (HQ.out p H1.out hlt)
      have HP1 : Aside0 (p + 1 ≤ P) := ⟨hlt⟩
      have H11 : Aside0 (1 ≤ p + 1) := ⟨by omega⟩
      go_wp2_with fail
      refine (HC.out _).mono ?_
      rintro e w2 ⟨v, rfl, hS, hb⟩
      have HB2 := Aside0.mk (below_then HB.out HB.out.size hb)
      have BK2 : Aside0 (w2.heap[w.heap.size]? = some (boxC cw cd)) := ⟨blk_below BK.out hb⟩
      obtain ⟨A, c, rfl⟩ := Kd.S_slice hS
      clear hb hS
      rw [h0.out]
      go_wp2_with fail
      go_roundw
      case rel => exact ⟨p + 1, by go_num, H11, HP1, HB2, BK2⟩
      case measure => simp [intOf]; omega
    · obtain rfl : p = P := by omega
      have h0 := HQ2.out
      go_wp2_with fail
      refine (HC.out _).mono ?_
      rintro e w2 ⟨v, rfl, hS, hb⟩
      have HB2 := Aside0.mk (below_then HB.out HB.out.size hb)
      obtain ⟨A, c, rfl⟩ := Kd.S_slice hS
      clear hb hS
      have hne : ((((q p).length : Nat) : Int) == 0) = false := beq_eq_false_iff_ne.2 (by omega)
      go_wp2_with fail
      go_ret2
      exact ⟨rfl, HB2.out⟩
set_option maxHeartbeats 4000000 in
set_option maxRecDepth 100000 in
theorem least_no (cw cd : Int) (w : World) (hI : impl_IsCorner.f cw cd = some false) :
    Calls Try.prog 17 #[.agg #[.int .i64 cw, .int .i64 cd]] w fun e w' => e = .returned (.tuple #[.int .i64 0, .bool false]) ∧ Below w.heap.size w w' := by
  have hu26 := Try.underlying26
  have CI := Aside0.mk (fun W => impl_IsCorner.calls cw cd false W hI)
  clear hI
  go_enter Try.func17, Try.ntmps17
  go_wp2_with fail
  refine (CI.out _).mono ?_
  rintro e w1 ⟨rfl, hb⟩
  have HB1 := Aside0.mk (below_step (below_alloc (Below.refl w.heap.size w) (boxC cw cd)) hb)
  clear hb
  go_wp2_with fail
  go_ret2
  exact ⟨rfl, HB1.out⟩
end Go.Proofs.Ytnnedicoapdkkaa.Spots
