/- laws.FnTidesDry answers true for all arguments; nothing that lay before is turned. Condition: the two rows of bytes stand. -/
import Derived.Test.YthglhfhepooggaaDoorTdF
import Derived.Test.YthglhfhepooggaaDoorRdr
namespace Go.Proofs.YthglhfhepooggaaDoor.TdL
set_option linter.unusedVariables false
set_option linter.unusedSimpArgs false
open Go.RowKit Go.Proofs.YthglhfhepooggaaDoorW.PrintWords Go.Proofs.YthglhfhepooggaaDoorW.PrintLast Go.Proofs.YthglhfhepooggaaDoorW.PrintMore Sh Td TdT TdH TdA TdS Rdr

abbrev Rw := Option Addr × Nat × List Int
/-- What stands: nothing of old is turned, and these rows read as these lists. -/
def St (w0 W : World) (rs : List Rw) : Prop := Below w0.heap.size w0 W ∧ ∀ r ∈ rs, r.2.2.length ≤ r.2.1 ∧ Kd.C (Kd.int .i64) W r.1 r.2.2.length r.2.2
theorem St.step {w0 W W' : World} {rs : List Rw} (h : St w0 W rs) (hb : Below W.heap.size W W') : St w0 W' rs := ⟨h.1.trans (hb.mono h.1.size), fun r hr => ⟨(h.2 r hr).1, Kd.C_below (h.2 r hr).2 hb⟩⟩
theorem St.drewN {w0 W : World} {rs : List Rw} (h : St w0 W rs) (n : Nat) : St w0 (W.drewN n) rs := ⟨pw_below_drewN h.1 n, fun r hr => ⟨(h.2 r hr).1, Kd.C_drewN (h.2 r hr).2 n⟩⟩
theorem St.add {w0 W : World} {rs : List Rw} {A : Option Addr} {c : Nat} {l : List Int} (h : St w0 W rs) (hc : l.length ≤ c) (hC : Kd.C (Kd.int .i64) W A l.length l) : St w0 W ((A, c, l) :: rs) := ⟨h.1, fun r hr => by
  rcases List.mem_cons.mp hr with rfl | hr
  · exact ⟨hc, hC⟩
  · exact h.2 r hr⟩
theorem St.sub {w0 W : World} {rs qs : List Rw} (h : St w0 W rs) (hq : ∀ r ∈ qs, r ∈ rs) : St w0 W qs := ⟨h.1, fun r hr => h.2 r (hq r hr)⟩
theorem St.same {w0 W : World} {rs : List Rw} (h : St w0 W rs) (A B : Option Addr) (c d : Nat) (l : List Int) (hA : (A, c, l) ∈ rs) (hB : (B, d, l) ∈ rs) :
    Calls Tryd.prog 40 #[.slice A l.length c, .slice B l.length d] W fun e w' => e = .returned (.bool true) ∧ Drawn0 W w' :=
  Same.dSame A B c d l W (h.2 _ hA).2 (h.2 _ hB).2 (h.2 _ hA).1 (h.2 _ hB).1
theorem St.rises {w0 W : World} {rs : List Rw} (h : St w0 W rs) (A : Option Addr) (c : Nat) (l : List Int) (hA : (A, c, l) ∈ rs) (hl : l.length ≤ 1000) (hp : l.Pairwise (· < ·)) :
    Calls Tryd.prog 41 #[.slice A l.length c] W fun e w' => e = .returned (.bool true) ∧ Drawn0 W w' :=
  PFnTidesDry.laws_dRises.calls 2000 A c l true W (h.2 _ hA).2 (h.2 _ hA).1 (TdF.rises l hl hp)
theorem St.has {w0 W : World} {rs : List Rw} (h : St w0 W rs) (A : Option Addr) (c : Nat) (l : List Int) (a : Int) (hA : (A, c, l) ∈ rs) (hl : l.length ≤ 1000) :
    Calls Tryd.prog 42 #[.slice A l.length c, .int .i64 a] W fun e w' => e = .returned (.bool (decide (a ∈ l))) ∧ Drawn0 W w' :=
  PFnTidesDry.laws_dHas.calls 2000 A c l a _ W (h.2 _ hA).2 (h.2 _ hA).1 (TdF.has l a hl)
theorem toS {w0 W : World} {e : Ending} {rs : List Rw} {w' : World} {r : List Int × Bool} (hS : St w0 W rs) (h : Lists W w' e r) : ∃ A c, e = .returned (.tuple #[.slice A r.1.length c, .bool r.2]) ∧ St w0 w' ((A, c, r.1) :: rs) := by
  obtain ⟨A, c, he, hc, hC, hb⟩ := h
  exact ⟨A, c, he, (hS.step hb).add hc hC⟩





















set_option maxHeartbeats 16000000 in
set_option maxRecDepth 1000000 in
theorem law (A B : Option Addr) (n c m d : Nat) (w : World) (hA : Row w A n) (hB : Row w B m) :
    Calls Tryd.prog 13 #[.slice A n c, .slice B m d] w fun e w' => e = .returned (.bool true) ∧ Below w.heap.size w w' := by
  have HB := Aside0.mk (big A B n c m d w)
  have RA := Aside0.mk (fun W (hb : Below w.heap.size w W) => (show Row W A n from fun i hi => by obtain ⟨ad, b, e, hc, h0, h1⟩ := hA i hi; exact ⟨ad, b, e, pw_cell_below hb hc, h0, h1⟩))
  have RB := Aside0.mk (fun W (hb : Below w.heap.size w W) => (show Row W B m from fun i hi => by obtain ⟨ad, b, e, hc, h0, h1⟩ := hB i hi; exact ⟨ad, b, e, pw_cell_below hb hc, h0, h1⟩))
  clear hA hB
  cases hbig : tooBig n m with
  | true =>
    rw [hbig] at HB
    clear hbig
    go_enter Tryd.func13, Tryd.ntmps13
    go_wp2_with fail
    refine HB.out.mono ?_
    rintro e w1 ⟨rfl, hb⟩
    have HB1 := Aside0.mk hb
    clear hb HB
    go_wp2_with fail
    go_ret
    exact ⟨rfl, HB1.out⟩
  | false =>
    rw [hbig] at HB
    have HN : Aside0 (n ≤ 1000000000000 ∧ m ≤ 1000000000000) := ⟨by have := of_decide_eq_false hbig; omega⟩
    clear hbig
    go_enter Tryd.func13, Tryd.ntmps13
    go_wp2_with fail
    refine HB.out.mono ?_
    rintro e w1 ⟨rfl, hb⟩
    have HS := Aside0.mk (show St w w1 [] from ⟨hb, fun r hr => absurd hr (by simp)⟩)
    clear hb HB
    go_wp2_with fail
    refine (draw39 A n c _ (RA.out _ HS.out.1) HN.out.1).mono ?_
    rintro e w2 ⟨s, t, h, rfl, hs, ht, hh, hb⟩
    replace HS := Aside0.mk (HS.out.step hb)
    have ZS := Aside0.mk (show s.size ≤ 140737488351232 ∧ t.size ≤ 140737488351232 by omega)
    clear hb hs ht hh
    go_wp2_with fail
    have cI := fun W => dryI s t h W ZS.out.1 ZS.out.2
    have cS := fun W => dryS s t h W ZS.out.1 ZS.out.2
    have kI := fun W => alwI s t W ZS.out.1 ZS.out.2
    have kS := fun W => alwS s t W ZS.out.1 ZS.out.2
    have nI := fun W => nevI s t W ZS.out.1 ZS.out.2
    have nS := fun W => nevS s t W ZS.out.1 ZS.out.2
    have gI := fun W => highI t W ZS.out.2
    have gS := fun W => highS t W ZS.out.2
    have sI := fun W => isShore s W ZS.out.1
    have sS := fun W => shoreS s W ZS.out.1
    have tI := fun W => isTide t W ZS.out.2
    have tS := fun W => tideS t W ZS.out.2
    generalize eV : WkDryAt.val s t h (dk s t h) = V at cI cS
    generalize eA : alwV s t (t.size : Int) = VA at kI kS
    generalize eN : alwV s t 0 = VN at nI nS
    generalize eH : WkHighestHour.val t = VH at gI gS
    generalize eS : okShore s = bS at sI sS
    generalize eT : okTide t = bT at tI tS
    obtain ⟨dT, ok⟩ := V
    obtain ⟨al, one⟩ := VA
    obtain ⟨nv, three⟩ := VN
    obtain ⟨hi, at_, five⟩ := VH
    have EV := Aside0.mk eV
    have EA := Aside0.mk eA
    have EN := Aside0.mk eN
    have EH := Aside0.mk eH
    have ES := Aside0.mk eS
    have ET := Aside0.mk eT
    have CI := Aside0.mk cI
    have CS := Aside0.mk cS
    have KI := Aside0.mk kI
    have KS := Aside0.mk kS
    have NI := Aside0.mk nI
    have NS := Aside0.mk nS
    have GI := Aside0.mk gI
    have GS := Aside0.mk gS
    have SI := Aside0.mk sI
    have SS := Aside0.mk sS
    have TI := Aside0.mk tI
    have TS := Aside0.mk tS
    clear cI cS kI kS nI nS gI gS sI sS tI tS eV eA eN eH eS eT
    refine (CI.out _).mono ?_
    rintro e w3 ⟨rfl, hb⟩
    replace HS := Aside0.mk (HS.out.step hb)
    clear hb
    go_wp2_with fail
    refine (CS.out _).mono ?_
    rintro e w4 ⟨rfl, hb⟩
    replace HS := Aside0.mk (HS.out.step hb)
    clear hb
    go_wp2_with fail
    refine (KI.out _).mono ?_
    intro e w5 hL
    obtain ⟨Aa, ca, rfl, hS⟩ := toS HS.out hL
    replace HS := Aside0.mk hS
    clear hL hS
    go_wp2_with fail
    refine (KS.out _).mono ?_
    intro e w6 hL
    obtain ⟨Ab, cb, rfl, hS⟩ := toS HS.out hL
    replace HS := Aside0.mk hS
    clear hL hS
    go_wp2_with fail
    refine (NI.out _).mono ?_
    intro e w7 hL
    obtain ⟨An, cn, rfl, hS⟩ := toS HS.out hL
    replace HS := Aside0.mk hS
    clear hL hS
    go_wp2_with fail
    refine (NS.out _).mono ?_
    intro e w8 hL
    obtain ⟨Am, cm, rfl, hS⟩ := toS HS.out hL
    replace HS := Aside0.mk hS
    clear hL hS
    go_wp2_with fail
    refine (GI.out _).mono ?_
    rintro e w9 ⟨rfl, hb⟩
    replace HS := Aside0.mk (HS.out.step hb)
    clear hb
    go_wp2_with fail
    refine (GS.out _).mono ?_
    rintro e w9 ⟨rfl, hb⟩
    replace HS := Aside0.mk (HS.out.step hb)
    clear hb
    go_upto_region 12 with (fail)
    have HV : Aside0 (one = (bS && bT) ∧ three = (bS && bT) ∧ five = bT ∧ (ok = true → (bS && bT) = true)) := ⟨by
      have eV := EV.out
      have eA := EA.out
      have eN := EN.out
      have eH := EH.out
      unfold WkDryAt.val at eV
      unfold alwV at eA eN
      unfold WkHighestHour.val at eH
      rw [ES.out, ET.out] at eV eA eN
      rw [ET.out] at eH
      refine ⟨?_, ?_, ?_, ?_⟩
      · split at eA <;> simp_all
      · split at eN <;> simp_all
      · split at eH <;> simp_all
      · split at eV <;> simp_all⟩
    go_cut [212] from 126 to 212 (fun v212 wc => v212 = .bool false ∧ Aside0 (St w wc [(An, cn, nv), (Aa, ca, al)]))
    case first =>
      as_aux_lemma =>
        clear RA RB EV EA EN EH CI CS KI KS NI NS GI GS ES ET
        have d1 : (dT.toList != dT.toList) = false := by simp
        have d2 : (dT.toList == dT.toList) = true := by simp
        have d3 : decide (dT.toList = dT.toList) = true := by simp
        cases bS <;> cases bT <;> cases ok <;> cases one <;> cases three <;> cases five <;> first | (exact absurd HV.out (by decide)) | skip
        all_goals
          clear HV
          simp only [List.append_eq, List.cons_append, List.nil_append]
          go_wp2_with (first
            | (go_at_call 40; (with_reducible refine (St.same HS.out _ _ _ _ _ (by simp) (by simp)).mono ?_); rintro e wz ⟨rfl, hb⟩; replace HS := Aside0.mk (HS.out.step hb.below); clear hb)
            | (go_at_call 16; (with_reducible refine (SI.out _).mono ?_); rintro e wz ⟨rfl, hb⟩; replace HS := Aside0.mk (HS.out.step hb); clear hb)
            | (go_at_call 18; (with_reducible refine (TI.out _).mono ?_); rintro e wz ⟨rfl, hb⟩; replace HS := Aside0.mk (HS.out.step hb); clear hb)
            | (go_at_call 15; (with_reducible refine (SS.out _).mono ?_); rintro e wz ⟨rfl, hb⟩; replace HS := Aside0.mk (HS.out.step hb); clear hb)
            | (go_at_call 17; (with_reducible refine (TS.out _).mono ?_); rintro e wz ⟨rfl, hb⟩; replace HS := Aside0.mk (HS.out.step hb); clear hb))
          go_meet
          case rel => exact ⟨rfl, ⟨HS.out.sub (by simp)⟩⟩
    case rest =>
      clear HS
      obtain ⟨rfl, HS⟩ := hcut
      have F1 : Aside0 (one = true → okShore s = true ∧ okTide t = true ∧ al = stonesL s t (t.size : Int) ∧ nv = stonesL s t 0 ∧ hi = (WkHighestHour.val t).1) := ⟨by
        intro h1
        have hv := HV.out
        have eS := ES.out
        have eT := ET.out
        have hbs : bS = true ∧ bT = true := by
          rw [h1] at hv; simpa using hv.1.symm
        have e1 := EA.out
        have e2 := EN.out
        unfold alwV at e1 e2
        rw [eS, eT, hbs.1, hbs.2, if_pos (by rfl)] at e1 e2
        have e3 := EH.out
        refine ⟨by rw [eS, hbs.1], by rw [eT, hbs.2], (congrArg Prod.fst e1).symm, (congrArg Prod.fst e2).symm, by rw [e3]⟩⟩
      have F2 : Aside0 (ok = true → one = true ∧ dT = TdF.river s t h ∧ 0 ≤ h ∧ h ≤ 1000) := ⟨by
        intro h1
        have hv := HV.out
        have e1 := EV.out
        unfold WkDryAt.val at e1
        have h2 := hv.2.2.2 h1
        refine ⟨hv.1.trans h2, ?_⟩
        by_cases hc : (okShore s && okTide t) = true ∧ 0 ≤ h ∧ h ≤ 1000
        · rw [if_pos hc] at e1
          exact ⟨(congrArg Prod.fst e1).symm, hc.2⟩
        · rw [if_neg hc] at e1
          have := congrArg Prod.snd e1
          rw [h1] at this
          cases this⟩
      have F3 : Aside0 (five = true → okTide t = true ∧ WkHighestHour.val t = (hi, at_, true)) := ⟨by
        intro h1
        have e3 := EH.out
        have hv := HV.out
        rw [h1] at e3
        exact ⟨by rw [ET.out, ← hv.2.2.1, h1], e3⟩⟩
      clear HV EV EA EN EH ES ET
      go_upto_if 213 with (fail)
      go_cut [] from 213 to 310 (fun wc => Aside0 (St w wc []))
      case first =>
        as_aux_lemma =>
          cases one with
          | false =>
            clear RA RB
            go_wp2_with fail
            go_meet
            case rel => exact ⟨HS.out.sub (by simp)⟩
          | true =>
            obtain ⟨oS, oT, eA, eN, eH⟩ := F1.out rfl
            have zS := okShore_size oS
            have zT := okTide_size oT
            have R1 := Aside0.mk (fun W (hS : St w W [(An, cn, nv), (Aa, ca, al)]) => hS.rises Aa ca al (by simp) (by rw [eA]; have := TdF.stones_len s t (t.size : Int); omega) (by rw [eA]; exact TdF.stones_rise _ _ _))
            have R2 := Aside0.mk (fun W (hS : St w W [(An, cn, nv), (Aa, ca, al)]) => hS.rises An cn nv (by simp) (by rw [eN]; have := TdF.stones_len s t 0; omega) (by rw [eN]; exact TdF.stones_rise _ _ _))
            have OS := Aside0.mk oS
            have OT := Aside0.mk oT
            have EA := Aside0.mk eA
            have EN := Aside0.mk eN
            have EH := Aside0.mk eH
            have Z := Aside0.mk (And.intro zS zT)
            clear oS oT eA eN eH zS zT
            go_wp2_with fail
            refine (R1.out _ HS.out).mono ?_
            rintro e wz ⟨rfl, hb⟩
            replace HS := Aside0.mk (HS.out.step hb.below)
            clear hb
            go_wp2_with fail
            refine (R2.out _ HS.out).mono ?_
            rintro e wz ⟨rfl, hb⟩
            replace HS := Aside0.mk (HS.out.step hb.below)
            clear hb
            go_wp2_with fail
            go_loopw [26] (fun v26 wr => ∃ p : Int, v26 = .int .i64 p ∧ Aside0 (1 ≤ p ∧ p ≤ (s.size : Int) + 1) ∧ Aside0 (St w wr [(An, cn, nv), (Aa, ca, al)])) (fun v26 _ => s.size + 1 - (intOf v26).toNat)
            case atStart => exact ⟨1, rfl, ⟨by omega⟩, HS⟩
            case round =>
              obtain ⟨p, rfl, HP, HS⟩ := hrel
              by_cases hp : p ≤ (s.size : Int)
              · have hp0 := decide_eq_true hp
                obtain ⟨j, hj⟩ : ∃ j, wrap64 (p - 1) = j := ⟨_, rfl⟩
                have hjw : IntKind.i64.wrap (p - 1) = j := (i64_w _).trans hj
                obtain ⟨q, hq⟩ : ∃ q : Nat, p = ((q + 1 : Nat) : Int) := ⟨p.toNat - 1, by have := HP.out; omega⟩
                have HQ : Aside0 (p = ((q + 1 : Nat) : Int) ∧ j = (q : Int) ∧ q < s.size) := ⟨hq, by
                  have hz := Z.out.1
                  have : wrap64 (p - 1) = p - 1 := w_id (by omega) (by omega)
                  omega, by omega⟩
                have hw : wrap64 (p + 1) = p + 1 := w_id (by omega) (by have := Z.out.1; omega)
                have p13 := eq_true (show 0 ≤ j by have := HQ.out; omega)
                have q13 := eq_true (show j < (s.size : Int) by have := HQ.out; omega)
                have hx := bt_at s j
                have PL := Aside0.mk (TdF.place s t q OS.out OT.out HQ.out.2.2)
                have CH := Aside0.mk (fun W => hrsI s t p W (by have := Z.out; omega) (by have := Z.out; omega))
                have EQ : Aside0 (hrsV s t p = (hoursL s t p, true)) := ⟨by unfold hrsV; rw [if_pos ⟨by rw [OS.out, OT.out]; rfl, by have := HP.out; omega, hp⟩]⟩
                have HJ := Aside0.mk hj
                have HJW := Aside0.mk hjw
                clear hp hq hj hjw
                rw [EQ.out] at CH
                have LH := Aside0.mk (And.intro (TdF.hours_len s t p) (TdF.hours_rise s t p))
                have HM := Aside0.mk (fun (hO : ok = true) => TdF.river_has s t h q OT.out HQ.out.2.2)
                generalize eh : hoursL s t p = hl at CH LH
                have EHL := Aside0.mk eh
                clear eh EQ
                go_wp2_with fail
                refine (CH.out _).mono ?_
                intro e w2 hL
                obtain ⟨Ah, ch, rfl, hS⟩ := toS HS.out hL
                replace HS := Aside0.mk hS
                clear hL hS CH
                have hj := HJ.out
                have hjw := HJW.out
                go_upto_region 22 with (fail)
                go_cut [29, 295] from 239 to 295 (fun v29 v295 wc => v295 = .bool false ∧ Aside0 (St w wc [(Ah, ch, hl), (An, cn, nv), (Aa, ca, al)]))
                case first =>
                  as_aux_lemma =>
                    have Q1 := Aside0.mk (fun n => ((HS.out.drewN n).rises Ah ch hl (by simp) (by have := LH.out.1; have := Z.out; omega) LH.out.2).mono (fun _ _ ⟨he, hd⟩ => And.intro he hd.out))
                    rcases PL.out with ⟨a, b, c, d, e⟩ | ⟨a, b, c, d, e⟩ | ⟨a, b, c, d, e⟩ | ⟨a, b, b', c, d, e⟩
                    · rw [← HQ.out.2.1] at a e
                      rw [← HQ.out.1] at c d
                      rw [← HQ.out.1, EHL.out] at b
                      rw [← EA.out] at c
                      rw [← EN.out] at d
                      rw [← EH.out] at e
                      have hst := decide_eq_false a
                      have hg := decide_eq_false e
                      have Q2 := Aside0.mk (fun n => ((HS.out.drewN n).has Aa ca al p (by simp) (by rw [EA.out]; have := TdF.stones_len s t (t.size : Int); have := Z.out; omega)).mono (fun _ _ ⟨he, hd⟩ => And.intro he hd.out))
                      have Q3 := Aside0.mk (fun n => ((HS.out.drewN n).has An cn nv p (by simp) (by rw [EN.out]; have := TdF.stones_len s t 0; have := Z.out; omega)).mono (fun _ _ ⟨he, hd⟩ => And.intro he hd.out))
                      rw [decide_eq_false c] at Q2
                      rw [decide_eq_false d] at Q3
                      rw [hst]
                      have n1 : ((hl.length : Int) == (t.size : Int)) = false := beq_eq_false_iff_ne.mpr (by have := Z.out.2; omega)
                      have n2 : (hl.length == t.size) = false := beq_eq_false_iff_ne.mpr (by have := Z.out.2; omega)
                      have n3 : ((hl.length : Int) == 0) = true := beq_iff_eq.mpr (by have := Z.out.2; omega)
                      have n4 : (hl.length == 0) = true := beq_iff_eq.mpr (by have := Z.out.2; omega)
                      have n5 : ((hl.length : Int) != 0) = false := by rw [bne, n3]; rfl
                      have n6 : (hl.length != 0) = false := by rw [bne, n4]; rfl
                      clear a b c d e
                      go_big_quiet (first | (go_at_call 41; with_reducible exact Calls.quiet_of (Q1.out _)) | (go_at_call 42; first | with_reducible exact Calls.quiet_of (Q2.out _) | with_reducible exact Calls.quiet_of (Q3.out _)))
                      go_wp2_with fail
                      go_meet
                      case rel => exact ⟨rfl, ⟨HS.out.drewN _⟩⟩
                    · rw [← HQ.out.2.1] at a e
                      rw [← HQ.out.1] at c d
                      rw [← HQ.out.1, EHL.out] at b
                      rw [← EA.out] at c
                      rw [← EN.out] at d
                      rw [← EH.out] at e
                      have hst := decide_eq_true a
                      have hg := decide_eq_true e
                      have Q2 := Aside0.mk (fun n => ((HS.out.drewN n).has Aa ca al p (by simp) (by rw [EA.out]; have := TdF.stones_len s t (t.size : Int); have := Z.out; omega)).mono (fun _ _ ⟨he, hd⟩ => And.intro he hd.out))
                      have Q3 := Aside0.mk (fun n => ((HS.out.drewN n).has An cn nv p (by simp) (by rw [EN.out]; have := TdF.stones_len s t 0; have := Z.out; omega)).mono (fun _ _ ⟨he, hd⟩ => And.intro he hd.out))
                      rw [decide_eq_true c] at Q2
                      rw [decide_eq_false d] at Q3
                      rw [hst]
                      have n1 : ((hl.length : Int) == (t.size : Int)) = true := beq_iff_eq.mpr (by have := Z.out.2; omega)
                      have n2 : (hl.length == t.size) = true := beq_iff_eq.mpr (by have := Z.out.2; omega)
                      have n3 : ((hl.length : Int) == 0) = false := beq_eq_false_iff_ne.mpr (by have := Z.out.2; omega)
                      have n4 : (hl.length == 0) = false := beq_eq_false_iff_ne.mpr (by have := Z.out.2; omega)
                      have n5 : ((hl.length : Int) != 0) = true := by rw [bne, n3]; rfl
                      have n6 : (hl.length != 0) = true := by rw [bne, n4]; rfl
                      clear a b c d e
                      go_big_quiet (first | (go_at_call 41; with_reducible exact Calls.quiet_of (Q1.out _)) | (go_at_call 42; first | with_reducible exact Calls.quiet_of (Q2.out _) | with_reducible exact Calls.quiet_of (Q3.out _)))
                      go_wp2_with fail
                      go_meet
                      case rel => exact ⟨rfl, ⟨HS.out.drewN _⟩⟩
                    · rw [← HQ.out.2.1] at a e
                      rw [← HQ.out.1] at c d
                      rw [← HQ.out.1, EHL.out] at b
                      rw [← EA.out] at c
                      rw [← EN.out] at d
                      rw [← EH.out] at e
                      have hst := decide_eq_true a
                      have hg := decide_eq_false e
                      have Q2 := Aside0.mk (fun n => ((HS.out.drewN n).has Aa ca al p (by simp) (by rw [EA.out]; have := TdF.stones_len s t (t.size : Int); have := Z.out; omega)).mono (fun _ _ ⟨he, hd⟩ => And.intro he hd.out))
                      have Q3 := Aside0.mk (fun n => ((HS.out.drewN n).has An cn nv p (by simp) (by rw [EN.out]; have := TdF.stones_len s t 0; have := Z.out; omega)).mono (fun _ _ ⟨he, hd⟩ => And.intro he hd.out))
                      rw [decide_eq_false c] at Q2
                      rw [decide_eq_true d] at Q3
                      rw [hst]
                      have n1 : ((hl.length : Int) == (t.size : Int)) = false := beq_eq_false_iff_ne.mpr (by have := Z.out.2; omega)
                      have n2 : (hl.length == t.size) = false := beq_eq_false_iff_ne.mpr (by have := Z.out.2; omega)
                      have n3 : ((hl.length : Int) == 0) = true := beq_iff_eq.mpr (by have := Z.out.2; omega)
                      have n4 : (hl.length == 0) = true := beq_iff_eq.mpr (by have := Z.out.2; omega)
                      have n5 : ((hl.length : Int) != 0) = false := by rw [bne, n3]; rfl
                      have n6 : (hl.length != 0) = false := by rw [bne, n4]; rfl
                      clear a b c d e
                      go_big_quiet (first | (go_at_call 41; with_reducible exact Calls.quiet_of (Q1.out _)) | (go_at_call 42; first | with_reducible exact Calls.quiet_of (Q2.out _) | with_reducible exact Calls.quiet_of (Q3.out _)))
                      go_wp2_with fail
                      go_meet
                      case rel => exact ⟨rfl, ⟨HS.out.drewN _⟩⟩
                    · rw [← HQ.out.2.1] at a e
                      rw [← HQ.out.1] at c d
                      rw [← HQ.out.1, EHL.out] at b b'
                      rw [← EA.out] at c
                      rw [← EN.out] at d
                      rw [← EH.out] at e
                      have hst := decide_eq_true a
                      have hg := decide_eq_false e
                      have Q2 := Aside0.mk (fun n => ((HS.out.drewN n).has Aa ca al p (by simp) (by rw [EA.out]; have := TdF.stones_len s t (t.size : Int); have := Z.out; omega)).mono (fun _ _ ⟨he, hd⟩ => And.intro he hd.out))
                      have Q3 := Aside0.mk (fun n => ((HS.out.drewN n).has An cn nv p (by simp) (by rw [EN.out]; have := TdF.stones_len s t 0; have := Z.out; omega)).mono (fun _ _ ⟨he, hd⟩ => And.intro he hd.out))
                      rw [decide_eq_false c] at Q2
                      rw [decide_eq_false d] at Q3
                      rw [hst]
                      have n1 : ((hl.length : Int) == (t.size : Int)) = false := beq_eq_false_iff_ne.mpr (by have := Z.out.2; omega)
                      have n2 : (hl.length == t.size) = false := beq_eq_false_iff_ne.mpr (by have := Z.out.2; omega)
                      have n3 : ((hl.length : Int) == 0) = false := beq_eq_false_iff_ne.mpr (by have := Z.out.2; omega)
                      have n4 : (hl.length == 0) = false := beq_eq_false_iff_ne.mpr (by have := Z.out.2; omega)
                      have n5 : ((hl.length : Int) != 0) = true := by rw [bne, n3]; rfl
                      have n6 : (hl.length != 0) = true := by rw [bne, n4]; rfl
                      clear a b c d e b'
                      go_big_quiet (first | (go_at_call 41; with_reducible exact Calls.quiet_of (Q1.out _)) | (go_at_call 42; first | with_reducible exact Calls.quiet_of (Q2.out _) | with_reducible exact Calls.quiet_of (Q3.out _)))
                      go_wp2_with fail
                      go_meet
                      case rel => exact ⟨rfl, ⟨HS.out.drewN _⟩⟩
                case rest =>
                  clear HS
                  obtain ⟨rfl, HS⟩ := hcut
                  have HW := Aside0.mk hw
                  clear hw
                  cases ok with
                  | false =>
                    go_upto_region 24 with (fail)
                    go_big_quiet (fail)
                    replace HS := Aside0.mk (HS.out.drewN nq)
                    go_wp2_with fail
                    have hw := HW.out
                    go_roundw
                    case rel => exact ⟨p + 1, by rw [hw], ⟨by have := HP.out; have := HQ.out; omega⟩, ⟨HS.out.sub (by simp)⟩⟩
                    case measure => (try rw [hw]); have := HP.out; have := HQ.out; simp [intOf]; omega
                  | true =>
                    obtain ⟨_, ed, h0, h1⟩ := F2.out rfl
                    have hm := HM.out rfl
                    rw [← HQ.out.1, EHL.out, ← ed, ← HQ.out.2.1] at hm
                    have hdz : dT.size = s.size := by rw [ed]; exact TdF.river_size s t h
                    have r13 := eq_true (show j < (dT.size : Int) by rw [hdz]; have := HQ.out; omega)
                    have hy := bt_at dT j
                    have Q4 := Aside0.mk (fun n => ((HS.out.drewN n).has Ah ch hl (h % (t.size : Int)) (by simp) (by have := LH.out.1; have := Z.out; omega)).mono (fun _ _ ⟨he, hd⟩ => And.intro he hd.out))
                    rw [hm] at Q4
                    have z1 : ¬ (t.size : Int) = 0 := by have := Z.out.2; omega
                    have z2 : ((t.size : Int) == 0) = false := beq_eq_false_iff_ne.mpr z1
                    have z3 : h.tmod (t.size : Int) = h % (t.size : Int) := Int.tmod_eq_emod_of_nonneg h0
                    clear hm ed hdz
                    generalize hbb : (bt dT j == 111) = bb at Q4
                    cases bb
                    all_goals
                      have hbc := hbb
                      go_upto_region 24 with (fail)
                      go_big_quiet ((go_at_call 42; with_reducible exact Calls.quiet_of (Q4.out _)))
                      replace HS := Aside0.mk (HS.out.drewN nq)
                      go_wp2_with fail
                      have hw := HW.out
                      go_roundw
                      case rel => exact ⟨p + 1, by rw [hw], ⟨by have := HP.out; have := HQ.out; omega⟩, ⟨HS.out.sub (by simp)⟩⟩
                      case measure => (try rw [hw]); have := HP.out; have := HQ.out; simp [intOf]; omega
              · have hp0 := decide_eq_false hp
                clear hp
                go_wp2_with fail
                go_meet
                case rel => exact ⟨HS.out.sub (by simp)⟩
      case rest =>
        clear HS
        have HS := hcut
        clear hcut
        go_upto_if 311 with (fail)
        go_cut [] from 311 to 347 (fun wc => Aside0 (St w wc []))
        case first =>
          as_aux_lemma =>
            cases ok with
            | false =>
              clear RA RB
              go_wp2_with fail
              go_meet
              case rel => exact HS
            | true =>
              obtain ⟨o1, ed, h0, h2⟩ := F2.out rfl
              obtain ⟨oS, oT, -⟩ := F1.out o1
              have zS := okShore_size oS
              have zT := okTide_size oT
              obtain ⟨m, em, hm⟩ := TdF.emod_nat h t zT.1
              have hdz : dT.size = s.size := by rw [ed]; exact TdF.river_size s t h
              have C43 := Aside0.mk (fun W => Sh.isRiver dT W (by omega) (by omega) (by rw [ed]; exact TdF.river_bytes s t h))
              have c20 := fun W => turnI t (h % (t.size : Int)) W ZS.out.2
              have c28 := fun W => dryI s (TdF.turned t m) 0 W ZS.out.1 (by rw [TdF.turned_size]; exact ZS.out.2)
              rw [TdF.turn_is t _ m oT em hm] at c20
              rw [TdF.turned_river s t h m oS oT em hm, ← ed] at c28
              generalize TdF.turned t m = tt at c20 c28
              have C20 := Aside0.mk c20
              have C28 := Aside0.mk c28
              have z1 : ¬ (t.size : Int) = 0 := by omega
              have z2 : ((t.size : Int) == 0) = false := beq_eq_false_iff_ne.mpr z1
              have y1 : (dT.size != s.size) = false := bne_eq_false_iff_eq.mpr hdz
              have y2 : ((dT.size : Int) != (s.size : Int)) = false := bne_eq_false_iff_eq.mpr (by omega)
              have d1 : (dT.toList != dT.toList) = false := by simp
              have d2 : (dT.toList == dT.toList) = true := by simp
              have z3 : h.tmod (t.size : Int) = h % (t.size : Int) := Int.tmod_eq_emod_of_nonneg h0
              clear c20 c28 em hm ed oS oT o1 hdz RA RB
              go_wp2_with fail
              refine (C43.out _).mono ?_
              rintro e wz ⟨rfl, hb⟩
              replace HS := Aside0.mk (HS.out.step hb)
              clear hb
              go_wp2_with fail
              refine (C20.out _).mono ?_
              rintro e wz ⟨rfl, hb⟩
              replace HS := Aside0.mk (HS.out.step hb)
              clear hb
              go_wp2_with fail
              refine (C28.out _).mono ?_
              rintro e wz ⟨rfl, hb⟩
              replace HS := Aside0.mk (HS.out.step hb)
              clear hb
              go_wp2_with fail
              go_meet
              case rel => exact HS
        case rest =>
          clear HS
          have HS := hcut
          clear hcut
          go_upto_region 33 with (fail)
          go_cut [367] from 348 to 367 (fun v367 wc => v367 = .bool false ∧ Aside0 (St w wc []))
          case first =>
            as_aux_lemma =>
              clear RA RB
              cases five with
              | false =>
                go_wp2_with fail
                go_meet
                case rel => exact ⟨rfl, HS⟩
              | true =>
                obtain ⟨oT, ev⟩ := F3.out rfl
                obtain ⟨j, hj, ej, -⟩ := TdF.high_is oT
                rw [ev] at ej
                have hd := TdF.bt_dig (TdF.digs_of' oT) j hj
                have a1 : hi = bt t (j : Int) - 48 := congrArg (fun x => x.1) ej
                have a2 : at_ = (j : Int) := congrArg (fun x => x.2.1) ej
                have x1 : (bt t at_ - 48) % 256 = hi := by rw [a1, a2]; exact Int.emod_eq_of_lt (by omega) (by omega)
                have x2 : decide (at_ < 0) = false := decide_eq_false (by omega)
                have x3 : decide ((t.size : Int) ≤ at_) = false := decide_eq_false (by omega)
                have x4 := eq_true (show 0 ≤ at_ by omega)
                have x5 := eq_true (show at_ < (t.size : Int) by omega)
                have x6 := bt_at t at_
                have x7 : (hi != hi) = false := by simp
                clear a1 a2 hd ej ev hj oT
                go_wp2_with fail
                go_meet
                case rel => exact ⟨rfl, HS⟩
          case rest =>
            clear HS
            obtain ⟨rfl, HS⟩ := hcut
            clear CI CS KI KS NI NS GI GS SI SS TI TS F1 F2 F3 RA
            go_wp2_with fail
            refine (draw44 B m d _ (RB.out _ HS.out.1) HN.out.2).mono ?_
            rintro e wz ⟨s2, t2, p2, rfl, hs, ht, hb⟩
            replace HS := Aside0.mk (HS.out.step hb)
            clear hb
            have Z2 := Aside0.mk (show s2.size ≤ 140737488351232 ∧ t2.size ≤ 140737488351232 by omega)
            clear hs ht
            have hI := fun W => hrsI s2 t2 p2 W Z2.out.1 Z2.out.2
            have hS := fun W => hrsS s2 t2 p2 W Z2.out.1 Z2.out.2
            generalize hrsV s2 t2 p2 = VV at hI hS
            obtain ⟨l7, seven⟩ := VV
            have HI := Aside0.mk hI
            have HSp := Aside0.mk hS
            clear hI hS
            go_wp2_with fail
            refine (HI.out _).mono ?_
            intro e wz hL
            obtain ⟨A7, c7, rfl, hS⟩ := toS HS.out hL
            replace HS := Aside0.mk hS
            clear hL hS
            go_wp2_with fail
            refine (HSp.out _).mono ?_
            intro e wz hL
            obtain ⟨A8, c8, rfl, hS⟩ := toS HS.out hL
            replace HS := Aside0.mk hS
            clear hL hS
            go_wp2_with fail
            refine (draw45 B m d _ (RB.out _ HS.out.1) HN.out.2).mono ?_
            rintro e wz ⟨u, k, by_, rfl, hs, hb⟩
            replace HS := Aside0.mk (HS.out.step hb)
            clear hb
            have Zu := Aside0.mk (show u.size ≤ 140737488351232 by omega)
            clear hs
            have rI := fun W => raiseI u k by_ W Zu.out
            have rS := fun W => raiseS u k by_ W Zu.out
            generalize eR : WkRaiseStone.val u k by_ = VR at rI rS
            obtain ⟨rt, nine⟩ := VR
            have ER := Aside0.mk eR
            have RI := Aside0.mk rI
            have RS := Aside0.mk rS
            clear rI rS eR
            go_wp2_with fail
            refine (RI.out _).mono ?_
            rintro e wz ⟨rfl, hb⟩
            replace HS := Aside0.mk (HS.out.step hb)
            clear hb
            go_wp2_with fail
            refine (RS.out _).mono ?_
            rintro e wz ⟨rfl, hb⟩
            replace HS := Aside0.mk (HS.out.step hb)
            clear hb
            go_wp2_with fail
            refine (draw46 B m d _ (RB.out _ HS.out.1) HN.out.2).mono ?_
            rintro e wz ⟨v, n2, rfl, hs, hb⟩
            replace HS := Aside0.mk (HS.out.step hb)
            clear hb
            have Zv := Aside0.mk (show v.size ≤ 42 by omega)
            clear hs
            have uI := fun W => turnI v n2 W (by have := Zv.out; omega)
            have uS := fun W => turnS v n2 W (by have := Zv.out; omega)
            generalize eU : WkTurnTide.val v n2 = VU at uI uS
            obtain ⟨ut, eleven⟩ := VU
            have EU := Aside0.mk eU
            have UI := Aside0.mk uI
            have US := Aside0.mk uS
            clear uI uS eU
            go_wp2_with fail
            refine (UI.out _).mono ?_
            rintro e wz ⟨rfl, hb⟩
            replace HS := Aside0.mk (HS.out.step hb)
            clear hb
            go_wp2_with fail
            refine (US.out _).mono ?_
            rintro e wz ⟨rfl, hb⟩
            replace HS := Aside0.mk (HS.out.step hb)
            clear hb
            go_wp2_with fail
            refine (draw47 B m d _ (RB.out _ HS.out.1) HN.out.2).mono ?_
            rintro e wz ⟨x, rfl, hs, hb⟩
            replace HS := Aside0.mk (HS.out.step hb)
            clear hb
            have Zx := Aside0.mk (show x.size ≤ 140737488351232 by omega)
            clear hs
            have mI := fun W => mirI x W Zx.out
            have mS := fun W => mirS x W Zx.out
            generalize eM : WkMirrorShore.val x = VM at mI mS
            obtain ⟨mt, thirteen⟩ := VM
            have EM := Aside0.mk eM
            have MI := Aside0.mk mI
            have MS := Aside0.mk mS
            clear mI mS eM
            go_wp2_with fail
            refine (MI.out _).mono ?_
            rintro e wz ⟨rfl, hb⟩
            replace HS := Aside0.mk (HS.out.step hb)
            clear hb
            go_wp2_with fail
            refine (MS.out _).mono ?_
            rintro e wz ⟨rfl, hb⟩
            replace HS := Aside0.mk (HS.out.step hb)
            clear hb
            have d1 : (rt.toList != rt.toList) = false := by simp
            have d2 : (ut.toList != ut.toList) = false := by simp
            have d3 : (mt.toList != mt.toList) = false := by simp
            go_wp2_with fail
            refine (St.same HS.out A7 A8 c7 c8 l7 (by simp) (by simp)).mono ?_
            rintro e wz ⟨rfl, hb⟩
            replace HS := Aside0.mk (HS.out.step hb.below)
            clear hb
            go_upto_if 476 with (fail)
            clear d1 d2 d3 HI HSp RI RS UI US MI MS RB HN
            go_cut [] from 476 to 513 (fun wc => Aside0 (St w wc []))
            case first =>
              as_aux_lemma =>
                cases nine with
                | false =>
                  go_wp2_with fail
                  go_meet
                  case rel => exact ⟨HS.out.sub (by simp)⟩
                | true =>
                  have hc : WkRaiseStone.can u k by_ := by
                    have := ER.out
                    unfold WkRaiseStone.val at this
                    by_cases q : WkRaiseStone.can u k by_
                    · exact q
                    · rw [if_neg q] at this
                      cases congrArg Prod.snd this
                  obtain ⟨y, ey, hy, o1, o2, k1, k2, b1, b2, hl⟩ := TdF.raised u k by_ hc
                  have hrt : rt = y := by
                    have := ER.out.symm.trans ey
                    exact congrArg Prod.fst this
                  subst hrt
                  have zu := okShore_size o1
                  have cu := fun W => hrsI u ⟨#[48, 49, 50, 51, 52, 53, 54, 55, 56, 57]⟩ k W Zu.out (by decide)
                  have cr := fun W => hrsI rt ⟨#[48, 49, 50, 51, 52, 53, 54, 55, 56, 57]⟩ k W (by rw [hy]; exact Zu.out) (by decide)
                  have eu : hrsV u ⟨#[48, 49, 50, 51, 52, 53, 54, 55, 56, 57]⟩ k = (hoursL u TdF.T0 k, true) := by
                    show hrsV u TdF.T0 k = _
                    unfold hrsV
                    rw [if_pos ⟨by rw [o1, TdF.T0_ok]; rfl, k1, k2⟩]
                  have er : hrsV rt ⟨#[48, 49, 50, 51, 52, 53, 54, 55, 56, 57]⟩ k = (hoursL rt TdF.T0 k, true) := by
                    show hrsV rt TdF.T0 k = _
                    unfold hrsV
                    rw [if_pos ⟨by rw [o2, TdF.T0_ok]; rfl, k1, by rw [hy]; exact k2⟩]
                  rw [eu] at cu
                  rw [er] at cr
                  have z1 := TdF.hours_len u TdF.T0 k
                  rw [TdF.T0_nat] at z1
                  generalize hoursL u TdF.T0 k = lu at cu hl z1
                  generalize hoursL rt TdF.T0 k = lr at cr hl
                  have c18 := fun W => isTide ⟨#[48, 49, 50, 51, 52, 53, 54, 55, 56, 57]⟩ W (by decide)
                  rw [show okTide ⟨#[48, 49, 50, 51, 52, 53, 54, 55, 56, 57]⟩ = true from TdF.T0_ok] at c18
                  have C18 := Aside0.mk c18
                  have CU := Aside0.mk cu
                  have CR := Aside0.mk cr
                  have hw : wrap64 ((lu.length : Int) + by_) = (lu.length : Int) + by_ := w_id (by omega) (by omega)
                  have g1 : ((lr.length : Int) != (lu.length : Int) + by_) = false := bne_eq_false_iff_eq.mpr hl
                  have g2 : (rt.size != u.size) = false := bne_eq_false_iff_eq.mpr hy
                  have g3 : ((rt.size : Int) != (u.size : Int)) = false := bne_eq_false_iff_eq.mpr (by omega)
                  clear hl hy ey o1 o2 zu eu er cu cr c18 z1 hc
                  go_wp2_with fail
                  refine (CU.out _).mono ?_
                  intro e wz hL
                  obtain ⟨A1, c1, rfl, hS⟩ := toS HS.out hL
                  replace HS := Aside0.mk hS
                  clear hL hS
                  go_wp2_with fail
                  refine (CR.out _).mono ?_
                  intro e wz hL
                  obtain ⟨A2, c2, rfl, hS⟩ := toS HS.out hL
                  replace HS := Aside0.mk hS
                  clear hL hS
                  go_wp2_with fail
                  refine (C18.out _).mono ?_
                  rintro e wz ⟨rfl, hb⟩
                  replace HS := Aside0.mk (HS.out.step hb)
                  clear hb
                  go_wp2_with fail
                  go_meet
                  case rel => exact ⟨HS.out.sub (by simp)⟩
            case rest =>
              clear HS
              have HS := hcut
              clear hcut
              go_upto_if 514 with (fail)
              go_cut [] from 514 to 533 (fun wc => Aside0 (St w wc []))
              case first =>
                as_aux_lemma =>
                  cases eleven with
                  | false =>
                    go_wp2_with fail
                    go_meet
                    case rel => exact HS
                  | true =>
                    have hc : okTide v = true ∧ 0 ≤ n2 ∧ n2 ≤ (v.size : Int) - 1 := by
                      have := EU.out
                      unfold WkTurnTide.val at this
                      by_cases q : okTide v = true ∧ 0 ≤ n2 ∧ n2 ≤ (v.size : Int) - 1
                      · exact q
                      · rw [if_neg q] at this
                        cases congrArg Prod.snd this
                    have hut : ut = TdF.turned v n2.toNat := by
                      have := EU.out
                      unfold WkTurnTide.val at this
                      rw [if_pos hc] at this
                      exact (congrArg Prod.fst this).symm
                    have cb := fun W => turnI ut (((v.size : Int) - n2) % (v.size : Int)) W (by rw [hut, TdF.turned_size]; have := Zv.out; omega)
                    rw [hut, TdF.turned_back v n2 hc.1 hc.2.1 hc.2.2, ← hut] at cb
                    have en : ((v.size : Int) - n2) % (v.size : Int) = -n2 % (v.size : Int) := by simp
                    rw [en] at cb
                    have CB := Aside0.mk cb
                    clear en
                    have hw : wrap64 ((v.size : Int) - n2) = (v.size : Int) - n2 := w_id (by have := Zv.out; omega) (by have := Zv.out; omega)
                    have z1 : ¬ (v.size : Int) = 0 := by omega
                    have z2 : ((v.size : Int) == 0) = false := beq_eq_false_iff_ne.mpr z1
                    have z0 : 0 ≤ (v.size : Int) - n2 := by omega
                    have z3 : ((v.size : Int) - n2).tmod (v.size : Int) = ((v.size : Int) - n2) % (v.size : Int) := Int.tmod_eq_emod_of_nonneg z0
                    have d1 : (v.toList != v.toList) = false := by simp
                    clear cb hut hc
                    go_wp2_with fail
                    refine (CB.out _).mono ?_
                    rintro e wz ⟨rfl, hb⟩
                    replace HS := Aside0.mk (HS.out.step hb)
                    clear hb
                    go_wp2_with fail
                    go_meet
                    case rel => exact HS
              case rest =>
                clear HS
                have HS := hcut
                clear hcut
                cases thirteen with
                | false =>
                  go_wp2_with fail
                  go_ret
                  exact ⟨rfl, HS.out.1⟩
                | true =>
                  have oX : okShore x = true := by
                    have := EM.out
                    unfold WkMirrorShore.val at this
                    by_cases q : okShore x = true
                    · exact q
                    · rw [if_neg q] at this
                      cases congrArg Prod.snd this
                  obtain ⟨y, e1, e2⟩ := TdF.mirror_twice x oX
                  have hmt : mt = y := congrArg Prod.fst (EM.out.symm.trans e1)
                  subst hmt
                  have hmz : mt.size ≤ 140737488351232 := by
                    by_cases q : okShore mt = true
                    · have := okShore_size q; omega
                    · unfold WkMirrorShore.val at e2
                      rw [if_neg q] at e2
                      cases congrArg Prod.snd e2
                  have cm := fun W => mirI mt W hmz
                  rw [e2] at cm
                  have CM := Aside0.mk cm
                  have d1 : (x.toList == x.toList) = true := by simp
                  have d2 : decide (x.toList = x.toList) = true := by simp
                  clear cm e1 e2 oX hmz
                  go_wp2_with fail
                  refine (CM.out _).mono ?_
                  rintro e wz ⟨rfl, hb⟩
                  replace HS := Aside0.mk (HS.out.step hb)
                  clear hb
                  go_wp2_with fail
                  go_ret
                  exact ⟨by first | rfl | (simp; done), HS.out.1⟩
theorem row_of (A : Option Addr) (n c : Nat) (zs : List Int) (w : World)
    (h : (A = none ∧ n = 0 ∧ c = 0 ∧ zs = []) ∨ ∃ x, A = some x ∧ n ≤ c ∧ c ≤ maxLen ∧ zs.length = c ∧ (∀ i, i < zs.length → w.cell? (x.add i) = some (.int .u8 (zs.getD i 0))) ∧ ∀ n ∈ zs, (Lit.int .u8 n).wf = true) : Row w A n := by
  intro i hi
  rcases h with ⟨_, rfl, _, _⟩ | ⟨x, rfl, h1, _, h2, h3, h4⟩
  · exact absurd hi (Nat.not_lt_zero _)
  · have hz : i < zs.length := by omega
    refine ⟨x, zs.getD i 0, rfl, h3 i hz, ?_⟩
    have hm : zs.getD i 0 ∈ zs := by
      rw [List.getD_eq_getElem?_getD, List.getElem?_eq_getElem hz]
      exact List.getElem_mem hz
    have := h4 _ hm
    simp only [Lit.wf, Bool.and_eq_true, decide_eq_true_eq] at this
    exact ⟨this.1, this.2⟩
theorem whole (A : Option Addr) (n c : Nat) (zs : List Int) (B : Option Addr) (m d : Nat) (ys : List Int) (w : World)
    (h : (A = none ∧ n = 0 ∧ c = 0 ∧ zs = []) ∨ ∃ x, A = some x ∧ n ≤ c ∧ c ≤ maxLen ∧ zs.length = c ∧ (∀ i, i < zs.length → w.cell? (x.add i) = some (.int .u8 (zs.getD i 0))) ∧ ∀ n ∈ zs, (Lit.int .u8 n).wf = true)
    (h2 : (B = none ∧ m = 0 ∧ d = 0 ∧ ys = []) ∨ ∃ x, B = some x ∧ m ≤ d ∧ d ≤ maxLen ∧ ys.length = d ∧ (∀ i, i < ys.length → w.cell? (x.add i) = some (.int .u8 (ys.getD i 0))) ∧ ∀ n ∈ ys, (Lit.int .u8 n).wf = true) :
    Calls Tryd.prog 13 #[.slice A n c, .slice B m d] w fun e w' => e = .returned (.bool true) ∧ Below w.heap.size w w' :=
  law A B n c m d w (row_of A n c zs w h) (row_of B m d ys w h2)
end Go.Proofs.YthglhfhepooggaaDoor.TdL
