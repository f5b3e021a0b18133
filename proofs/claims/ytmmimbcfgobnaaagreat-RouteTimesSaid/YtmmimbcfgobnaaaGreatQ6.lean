/- The reference: Check, CheckMinima, checkAll, Arrive, end. -/
import Derived.Test.YtmmimbcfgobnaaaGreatQ5
import Derived.Test.YtmmimbcfgobnaaaGreatR12
namespace Go.Proofs.YtmmimbcfgobnaaaGreat
open Go.RowKit
set_option linter.unusedVariables false
set_option linter.unusedSimpArgs false
attribute [local go_sem] stored_match isSome_setCell

theorem Inp.err0_net {I : Inp} (h : I.N.check ≠ 0) : I.err0 = I.N.check := by unfold Inp.err0; exact Net.checkF_net (N := I.N) (l := none) h
theorem Inp.err0_bad {I : Inp} (h : I.N.check = 0) (hf : I.f.good I.m.places I.N.L = false) : I.err0 = 51 := Net.checkF_bad (N := I.N) (l := none) h hf
theorem Inp.err0_ok {I : Inp} (h : I.N.check = 0) (hf : I.f.good I.m.places I.N.L = true) : I.err0 = 0 := Net.checkF_ok (N := I.N) (l := none) h hf
set_option maxRecDepth 100000 in
set_option maxHeartbeats 2000000 in
theorem Check_25 (I : Inp) (w : World) (h : I.In w) :
    Calls Tryz.prog 25 #[I.vm, I.vn, I.vf] w fun e w' => e = .returned (.int .i64 I.err0) ∧ Ext w w' := by
  simp only [Inp.vm, Inp.vn, Inp.vf, Met.val, Flight.val]
  by_cases hc : I.N.check = 0
  · have hg := Lib.hid (Net.check_good hc)
    rcases Bool.eq_false_or_eq_true (I.f.good I.m.places I.N.L) with hf | hf
    all_goals
      first
      | have hR := Lib.hid (Inp.err0_ok hc hf)
      | have hR := Lib.hid (Inp.err0_bad hc hf)
      replace hf := Lib.hid hf
      go_enter Tryz.func25, Tryz.ntmps25
      go_wp2_with (first | (go_at_call 22; refine (checkNet_22 I.m I.xs I.AF I.AS I.nF I.cF I.nS I.cS I.AX I.nX I.cX _ (h.met.ext (by with_reducible (repeat first | assumption | exact Ext.refl _ | refine Ext.set ?_ (by omega) _ | refine Ext.alloc ?_ _ | refine Ext.drew ?_ | refine Ext.drewN ?_ _ | refine Ext.trans ?_ (by assumption)))) (h.net.ext (by with_reducible (repeat first | assumption | exact Ext.refl _ | refine Ext.set ?_ (by omega) _ | refine Ext.alloc ?_ _ | refine Ext.drew ?_ | refine Ext.drewN ?_ _ | refine Ext.trans ?_ (by assumption))))).mono ?_; rintro e1 w1 ⟨rfl, hb1⟩; obtain ⟨hc1, hf1, hz1⟩ := hb1.cells; have hs1 := hb1.size; (try simp at hs1)) | (go_at_call 65; refine (right_65 I.m I.xs I.f I.AF I.AS I.nF I.cF I.nS I.cS I.AX I.nX I.cX I.AR I.nR I.cR _ (h.net.ext (by with_reducible (repeat first | assumption | exact Ext.refl _ | refine Ext.set ?_ (by omega) _ | refine Ext.alloc ?_ _ | refine Ext.drew ?_ | refine Ext.drewN ?_ _ | refine Ext.trans ?_ (by assumption)))) (h.route.ext (by with_reducible (repeat first | assumption | exact Ext.refl _ | refine Ext.set ?_ (by omega) _ | refine Ext.alloc ?_ _ | refine Ext.drew ?_ | refine Ext.drewN ?_ _ | refine Ext.trans ?_ (by assumption)))) hg.out).mono ?_; rw [hf.out]; rintro e1 w2 ⟨rfl, hb2⟩))
      go_ret
      exact ⟨by rw [hR.out]; rfl, (by with_reducible (repeat first | assumption | exact Ext.refl _ | refine Ext.set ?_ (by omega) _ | refine Ext.alloc ?_ _ | refine Ext.drew ?_ | refine Ext.drewN ?_ _ | refine Ext.trans ?_ (by assumption)))⟩
  · have hR := Lib.hid (Inp.err0_net hc)
    have hbb : (I.N.check == (0 : Int)) = false := beq_eq_false_iff_ne.2 hc
    have hbn : (I.N.check != (0 : Int)) = true := by rw [bne_iff_ne]; exact hc
    replace hc := Lib.hid hc
    go_enter Tryz.func25, Tryz.ntmps25
    go_wp2_with (go_at_call 22; refine (checkNet_22 I.m I.xs I.AF I.AS I.nF I.cF I.nS I.cS I.AX I.nX I.cX _ (h.met.ext (by with_reducible (repeat first | assumption | exact Ext.refl _ | refine Ext.set ?_ (by omega) _ | refine Ext.alloc ?_ _ | refine Ext.drew ?_ | refine Ext.drewN ?_ _ | refine Ext.trans ?_ (by assumption)))) (h.net.ext (by with_reducible (repeat first | assumption | exact Ext.refl _ | refine Ext.set ?_ (by omega) _ | refine Ext.alloc ?_ _ | refine Ext.drew ?_ | refine Ext.drewN ?_ _ | refine Ext.trans ?_ (by assumption))))).mono ?_; rintro e1 w1 ⟨rfl, hb1⟩; obtain ⟨hc1, hf1, hz1⟩ := hb1.cells; have hs1 := hb1.size; (try simp at hs1))
    go_ret
    exact ⟨by rw [hR.out]; rfl, (by with_reducible (repeat first | assumption | exact Ext.refl _ | refine Ext.set ?_ (by omega) _ | refine Ext.alloc ?_ _ | refine Ext.drew ?_ | refine Ext.drewN ?_ _ | refine Ext.trans ?_ (by assumption)))⟩
set_option maxRecDepth 100000 in
set_option maxHeartbeats 2000000 in
theorem checkMinima_68 (m : Met) (l : Minima) (AF AS : Option Addr) (nF cF nS cS : Nat) (w : World) (hm : MetIn w m AF nF AS nS) :
    Calls Tryz.prog 68 #[m.val (.slice AF nF cF) (.slice AS nS cS), l.val] w fun e w' => e = .returned (.int .i64 (checkMinima m l)) ∧ Ext w w' := by
  simp only [Met.val, Minima.val]
  rcases Bool.eq_false_or_eq_true m.good with hg | hg
  · have hck : m.check = 0 := check_good.2 hg
    have hR : checkMinima m l = if l.good = true then 0 else 41 := by unfold checkMinima; rw [if_pos hg]
    have hR := Lib.hid hR
    go_enter Tryz.func68, Tryz.ntmps68
    go_wp2_with (first | (go_at_call 33; refine (check_33 m AF AS nF cF nS cS _ (hm.ext (by with_reducible (repeat first | assumption | exact Ext.refl _ | refine Ext.set ?_ (by omega) _ | refine Ext.alloc ?_ _ | refine Ext.drew ?_ | refine Ext.drewN ?_ _ | refine Ext.trans ?_ (by assumption))))).mono ?_; rintro e1 w1 ⟨rfl, hb1⟩; obtain ⟨hc1, hf1, hz1⟩ := hb1.cells; have hs1 := hb1.size; (try simp at hs1)) | (go_at_call 71; refine (from_71 _ _ _ _).mono ?_; rintro e1 w1 ⟨rfl, rfl⟩))
    all_goals
      go_ret
      exact ⟨ret_int (by rw [hR.out]; (try simp only [Bool.not_eq_true', Bool.not_eq_false'] at *); unfold Minima.good; simp [*]), (by with_reducible (repeat first | assumption | exact Ext.refl _ | refine Ext.set ?_ (by omega) _ | refine Ext.alloc ?_ _ | refine Ext.drew ?_ | refine Ext.drewN ?_ _ | refine Ext.trans ?_ (by assumption)))⟩
  · have hck : m.check = 40 := by unfold Met.check; simp [hg]
    have hR : checkMinima m l = 40 := by unfold checkMinima; rw [if_neg (by simp [hg])]
    have hR := Lib.hid hR
    go_enter Tryz.func68, Tryz.ntmps68
    go_wp2_with (first | (go_at_call 33; refine (check_33 m AF AS nF cF nS cS _ (hm.ext (by with_reducible (repeat first | assumption | exact Ext.refl _ | refine Ext.set ?_ (by omega) _ | refine Ext.alloc ?_ _ | refine Ext.drew ?_ | refine Ext.drewN ?_ _ | refine Ext.trans ?_ (by assumption))))).mono ?_; rintro e1 w1 ⟨rfl, hb1⟩; obtain ⟨hc1, hf1, hz1⟩ := hb1.cells; have hs1 := hb1.size; (try simp at hs1)) | (go_at_call 71; refine (from_71 _ _ _ _).mono ?_; rintro e1 w1 ⟨rfl, rfl⟩))
    go_ret
    exact ⟨by rw [hR.out]; rfl, (by with_reducible (repeat first | assumption | exact Ext.refl _ | refine Ext.set ?_ (by omega) _ | refine Ext.alloc ?_ _ | refine Ext.drew ?_ | refine Ext.drewN ?_ _ | refine Ext.trans ?_ (by assumption)))⟩
theorem Inp.err_min {I : Inp} (h : checkMinima I.m I.l ≠ 0) : I.err = checkMinima I.m I.l := by
  have h1 : I.N.checkL (some I.l) = checkMinima I.m I.l := by simp only [Net.checkL]; rw [if_neg h]
  unfold Inp.err
  rw [Net.checkF_net (by rw [h1]; exact h), h1]
theorem Inp.err_eq {I : Inp} (h : checkMinima I.m I.l = 0) : I.err = I.err0 := by
  have h1 : I.N.checkL (some I.l) = I.N.checkL none := by simp only [Net.checkL]; rw [if_pos h]
  unfold Inp.err Inp.err0 Net.checkF
  rw [h1]
set_option maxRecDepth 100000 in
set_option maxHeartbeats 2000000 in
theorem checkAll_79 (I : Inp) (w : World) (h : I.In w) :
    Calls Tryz.prog 79 #[I.vm, I.l.val, I.vn, I.vf] w fun e w' => e = .returned (.int .i64 I.err) ∧ Ext w w' := by
  simp only [Inp.vm, Inp.vn, Inp.vf, Met.val, Flight.val, Minima.val]
  by_cases hc : checkMinima I.m I.l = 0
  · have hR := Lib.hid (Inp.err_eq hc)
    go_enter Tryz.func79, Tryz.ntmps79
    go_wp2_with (first | (go_at_call 68; refine (checkMinima_68 I.m I.l I.AF I.AS I.nF I.cF I.nS I.cS _ (h.met.ext (by with_reducible (repeat first | assumption | exact Ext.refl _ | refine Ext.set ?_ (by omega) _ | refine Ext.alloc ?_ _ | refine Ext.drew ?_ | refine Ext.drewN ?_ _ | refine Ext.trans ?_ (by assumption))))).mono ?_; rintro e1 w1 ⟨rfl, hb1⟩; obtain ⟨hc1, hf1, hz1⟩ := hb1.cells; have hs1 := hb1.size; (try simp at hs1)) | (go_at_call 25; refine (Check_25 I _ (h.ext (by with_reducible (repeat first | assumption | exact Ext.refl _ | refine Ext.set ?_ (by omega) _ | refine Ext.alloc ?_ _ | refine Ext.drew ?_ | refine Ext.drewN ?_ _ | refine Ext.trans ?_ (by assumption))))).mono ?_; rintro e1 w1 ⟨rfl, hb1⟩; obtain ⟨hc1, hf1, hz1⟩ := hb1.cells; have hs1 := hb1.size; (try simp at hs1)))
    go_ret
    exact ⟨by rw [hR.out]; rfl, (by with_reducible (repeat first | assumption | exact Ext.refl _ | refine Ext.set ?_ (by omega) _ | refine Ext.alloc ?_ _ | refine Ext.drew ?_ | refine Ext.drewN ?_ _ | refine Ext.trans ?_ (by assumption)))⟩
  · have hR := Lib.hid (Inp.err_min hc)
    have hbb : (checkMinima I.m I.l == (0 : Int)) = false := beq_eq_false_iff_ne.2 hc
    have hbn : (checkMinima I.m I.l != (0 : Int)) = true := by rw [bne_iff_ne]; exact hc
    replace hc := Lib.hid hc
    go_enter Tryz.func79, Tryz.ntmps79
    go_wp2_with (go_at_call 68; refine (checkMinima_68 I.m I.l I.AF I.AS I.nF I.cF I.nS I.cS _ (h.met.ext (by with_reducible (repeat first | assumption | exact Ext.refl _ | refine Ext.set ?_ (by omega) _ | refine Ext.alloc ?_ _ | refine Ext.drew ?_ | refine Ext.drewN ?_ _ | refine Ext.trans ?_ (by assumption))))).mono ?_; rintro e1 w1 ⟨rfl, hb1⟩; obtain ⟨hc1, hf1, hz1⟩ := hb1.cells; have hs1 := hb1.size; (try simp at hs1))
    go_ret
    exact ⟨by rw [hR.out]; rfl, (by with_reducible (repeat first | assumption | exact Ext.refl _ | refine Ext.set ?_ (by omega) _ | refine Ext.alloc ?_ _ | refine Ext.drew ?_ | refine Ext.drewN ?_ _ | refine Ext.trans ?_ (by assumption)))⟩
theorem Net.checkF_good {N : Net} {l : Option Minima} {f : Flight} (h : N.checkF l f = 0) : N.checkL l = 0 ∧ f.good N.met.places N.L = true := by
  unfold Net.checkF at h
  by_cases h1 : N.checkL l = 0
  · rw [if_pos h1] at h
    by_cases h2 : f.good N.met.places N.L = true
    · exact ⟨h1, h2⟩
    · rw [if_neg h2] at h; exact absurd h (by decide)
  · rw [if_neg h1] at h; exact absurd h h1
theorem Inp.err0_good {I : Inp} (h : I.err0 = 0) : I.N.good = true ∧ I.f.good I.m.places I.N.L = true := by
  obtain ⟨h1, h2⟩ := Net.checkF_good h
  exact ⟨Net.check_good h1, h2⟩
theorem Inp.err_good {I : Inp} (h : I.err = 0) : I.N.good = true ∧ I.l.good = true ∧ I.f.good I.m.places I.N.L = true ∧ I.err0 = 0 := by
  obtain ⟨h1, h2⟩ := Net.checkF_good h
  obtain ⟨h3, h4⟩ := Net.checkL_good h1
  refine ⟨h3, h4, h2, ?_⟩
  by_cases hc : checkMinima I.m I.l = 0
  · rw [← Inp.err_eq hc]; exact h
  · rw [Inp.err_min hc] at h; exact absurd h hc
/-- flown of a valid flight. -/
theorem flown_ok (I : Inp) (w : World) (h : I.In w) (hn : I.N.good = true) (hf : I.f.good I.m.places I.N.L = true) :
    Calls Tryz.prog 67 #[I.vn, I.vf] w fun e w' => (∃ A c, e = .returned (.tuple #[.slice A I.f.route.length c, .bool true]) ∧ Rows 1 encInt w' A I.f.route.length (I.f.atList I.N.L I.f.route.length)) ∧ Ext w w' := by
  obtain ⟨-, -, -, hLu, -⟩ := Net.good_parts hn
  obtain ⟨hp, hr, hj, ha⟩ := Flight.good_parts hf
  obtain ⟨⟨l1, l2⟩, ⟨d1, d2⟩, -⟩ := Flight.plain_parts hp
  have e := Net.legOf_eq hn
  have := flown_67 I.xs I.f I.m.places I.AX I.nX I.cX I.AR I.nR I.cR w h.net h.route (by rw [e]; exact hLu) l1 (by omega) ⟨d1, d2⟩ hr
  rw [e] at this
  exact this.mono fun e w' hp => ⟨hp.1 hj, hp.2.2⟩
set_option maxRecDepth 100000 in
set_option maxHeartbeats 2000000 in
theorem Arrive_29 (I : Inp) (w : World) (h : I.In w) :
    Calls Tryz.prog 29 #[I.vm, I.vn, I.vf] w (IntsPost I.err0 (I.f.atList I.N.L I.f.route.length) w) := by
  simp only [Inp.vm, Inp.vn, Inp.vf, Met.val, Flight.val]
  by_cases hc : I.err0 = 0
  · obtain ⟨hn, hf⟩ := Inp.err0_good hc
    have hn := Lib.hid hn
    have hf := Lib.hid hf
    go_enter Tryz.func29, Tryz.ntmps29
    go_wp2_with (first | (go_at_call 25; refine (Check_25 I _ (h.ext (by with_reducible (repeat first | assumption | exact Ext.refl _ | refine Ext.set ?_ (by omega) _ | refine Ext.alloc ?_ _ | refine Ext.drew ?_ | refine Ext.drewN ?_ _ | refine Ext.trans ?_ (by assumption))))).mono ?_; rintro e1 w1 ⟨rfl, hb1⟩; obtain ⟨hc1, hf1, hz1⟩ := hb1.cells; have hs1 := hb1.size; (try simp at hs1)) | (go_at_call 67; refine (flown_ok I _ (h.ext (by with_reducible (repeat first | assumption | exact Ext.refl _ | refine Ext.set ?_ (by omega) _ | refine Ext.alloc ?_ _ | refine Ext.drew ?_ | refine Ext.drewN ?_ _ | refine Ext.trans ?_ (by assumption)))) hn.out hf.out).mono ?_; rintro e1 w2 ⟨⟨A, c, rfl, hR⟩, hb2⟩; replace hR := Lib.hid hR))
    go_ret2
    exact ⟨fun _ => ⟨A, c, by rw [Flight.atList_length]; rfl, by rw [Flight.atList_length]; exact hR.out⟩, fun hn => absurd hc hn, (by with_reducible (repeat first | assumption | exact Ext.refl _ | refine Ext.set ?_ (by omega) _ | refine Ext.alloc ?_ _ | refine Ext.drew ?_ | refine Ext.drewN ?_ _ | refine Ext.trans ?_ (by assumption)))⟩
  · have hbb : (I.err0 == (0 : Int)) = false := beq_eq_false_iff_ne.2 hc
    have hbn : (I.err0 != (0 : Int)) = true := by rw [bne_iff_ne]; exact hc
    replace hc := Lib.hid hc
    go_enter Tryz.func29, Tryz.ntmps29
    go_wp2_with (go_at_call 25; refine (Check_25 I _ (h.ext (by with_reducible (repeat first | assumption | exact Ext.refl _ | refine Ext.set ?_ (by omega) _ | refine Ext.alloc ?_ _ | refine Ext.drew ?_ | refine Ext.drewN ?_ _ | refine Ext.trans ?_ (by assumption))))).mono ?_; rintro e1 w1 ⟨rfl, hb1⟩; obtain ⟨hc1, hf1, hz1⟩ := hb1.cells; have hs1 := hb1.size; (try simp at hs1))
    go_ret2
    exact ⟨fun h0 => absurd h0 hc.out, fun _ => rfl, (by with_reducible (repeat first | assumption | exact Ext.refl _ | refine Ext.set ?_ (by omega) _ | refine Ext.alloc ?_ _ | refine Ext.drew ?_ | refine Ext.drewN ?_ _ | refine Ext.trans ?_ (by assumption)))⟩
set_option maxRecDepth 100000 in
set_option maxHeartbeats 2000000 in
theorem end_80 (I : Inp) (w : World) (h : I.In w) (hn : I.N.good = true) (hf : I.f.good I.m.places I.N.L = true) :
    Calls Tryz.prog 80 #[I.vn, I.vf] w fun e w' => e = .returned (.int .i64 (I.f.arrival I.N.L)) ∧ Ext w w' := by
  simp only [Inp.vn, Inp.vf, Flight.val]
  obtain ⟨hp, hr, hj, ha⟩ := Flight.good_parts hf
  obtain ⟨⟨l1, l2⟩, ⟨d1, d2⟩, -⟩ := Flight.plain_parts hp
  have hlast : I.f.last + 1 = I.f.route.length := by unfold Flight.last; omega
  have hv4 : (I.f.route.length : Int) - 1 = (I.f.last : Int) := by omega
  have har := Lib.hid (show I.f.arrival I.N.L = I.f.at I.N.L I.f.last from rfl)
  have hn := Lib.hid hn
  have hf := Lib.hid hf
  clear hj ha
  go_enter Tryz.func80, Tryz.ntmps80
  go_wp2_with (go_at_call 67; refine (flown_ok I _ (h.ext (by with_reducible (repeat first | assumption | exact Ext.refl _ | refine Ext.set ?_ (by omega) _ | refine Ext.alloc ?_ _ | refine Ext.drew ?_ | refine Ext.drewN ?_ _ | refine Ext.trans ?_ (by assumption)))) hn.out hf.out).mono ?_; rintro e1 w2 ⟨⟨A, c, rfl, hR⟩, hb2⟩; obtain ⟨b9, off9, rfl, hb9', k9⟩ := hR.intx (j := I.f.last) (by omega) (Flight.atList_at _ _ (by omega)); replace hR := Lib.hid hR)
  go_ret
  exact ⟨by rw [har.out]; rfl, (by with_reducible (repeat first | assumption | exact Ext.refl _ | refine Ext.set ?_ (by omega) _ | refine Ext.alloc ?_ _ | refine Ext.drew ?_ | refine Ext.drewN ?_ _ | refine Ext.trans ?_ (by assumption)))⟩
end Go.Proofs.YtmmimbcfgobnaaaGreat
