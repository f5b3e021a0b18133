/- route: Times, Arrive, Check, Havens, Best, Least, Safe, Proof. -/
import Derived.Test.YtmmimbcfgobnaaaGreatR11
namespace Go.Proofs.YtmmimbcfgobnaaaGreat
open Go.RowKit
set_option linter.unusedVariables false
set_option linter.unusedSimpArgs false
attribute [local go_sem] stored_match isSome_setCell

def TimesPost (N : Net) (w : World) (e : Ending) (w' : World) : Prop :=
  (N.check = 0 → ∃ lo hi g c r, e = .returned (.tuple #[.slice (some ⟨g, 0, none⟩) N.n c, .int .i64 0]) ∧ TabOwn w' lo hi g N.n r N.T) ∧ (N.check ≠ 0 → e = .returned (.tuple #[.slice none 0 0, .int .i64 N.check])) ∧ Ext w w'
set_option maxRecDepth 100000 in
set_option maxHeartbeats 2000000 in
theorem Times_23 (I : Inp) (w : World) (h : I.In w) :
    Calls Tryz.prog 23 #[I.vm, I.vn] w (TimesPost I.N w) := by
  simp only [Inp.vm, Inp.vn, Met.val]
  by_cases hc : I.N.check = 0
  · have hg := Lib.hid (Net.check_good hc)
    have hc := Lib.hid hc
    go_enter Tryz.func23, Tryz.ntmps23
    go_wp2_with (go_at_call 63; refine (newNet_nil I.m I.xs I.AF I.AS I.nF I.cF I.nS I.cS I.AX I.nX I.cX _ (h.met.ext (by with_reducible (repeat first | assumption | exact Ext.refl _ | refine Ext.set ?_ (by omega) _ | refine Ext.alloc ?_ _ | refine Ext.drew ?_ | refine Ext.drewN ?_ _ | refine Ext.trans ?_ (by assumption)))) (h.net.ext (by with_reducible (repeat first | assumption | exact Ext.refl _ | refine Ext.set ?_ (by omega) _ | refine Ext.alloc ?_ _ | refine Ext.drew ?_ | refine Ext.drewN ?_ _ | refine Ext.trans ?_ (by assumption)))) hg.out).mono ?_; rintro e1 w1 ⟨q, t, rfl, hN⟩; have c15 := hN.times; have hb1 := hN.ext; replace hN := Lib.hid hN)
    go_ret2
    exact ⟨fun _ => ⟨_, _, _, _, _, rfl, hN.out.T2⟩, fun hn => absurd hc.out hn, (by with_reducible (repeat first | assumption | exact Ext.refl _ | refine Ext.set ?_ (by omega) _ | refine Ext.alloc ?_ _ | refine Ext.drew ?_ | refine Ext.drewN ?_ _ | refine Ext.trans ?_ (by assumption)))⟩
  · have hbb : (I.N.check == (0 : Int)) = false := beq_eq_false_iff_ne.2 hc
    have hbn : (I.N.check != (0 : Int)) = true := by rw [bne_iff_ne]; exact hc
    replace hc := Lib.hid hc
    go_enter Tryz.func23, Tryz.ntmps23
    go_wp2_with (go_at_call 63; refine (newNet_nil_bad I.m I.xs I.AF I.AS I.nF I.cF I.nS I.cS I.AX I.nX I.cX _ (h.met.ext (by with_reducible (repeat first | assumption | exact Ext.refl _ | refine Ext.set ?_ (by omega) _ | refine Ext.alloc ?_ _ | refine Ext.drew ?_ | refine Ext.drewN ?_ _ | refine Ext.trans ?_ (by assumption)))) (h.net.ext (by with_reducible (repeat first | assumption | exact Ext.refl _ | refine Ext.set ?_ (by omega) _ | refine Ext.alloc ?_ _ | refine Ext.drew ?_ | refine Ext.drewN ?_ _ | refine Ext.trans ?_ (by assumption)))) hc.out).mono ?_; rintro e1 w1 ⟨rfl, hb1⟩)
    go_ret2
    exact ⟨fun h0 => absurd h0 hc.out, fun _ => rfl, (by with_reducible (repeat first | assumption | exact Ext.refl _ | refine Ext.set ?_ (by omega) _ | refine Ext.alloc ?_ _ | refine Ext.drew ?_ | refine Ext.drewN ?_ _ | refine Ext.trans ?_ (by assumption)))⟩
def IntsPost (c : Int) (L : List Int) (w : World) (e : Ending) (w' : World) : Prop :=
  (c = 0 → ∃ A k, e = .returned (.tuple #[.slice A L.length k, .int .i64 0]) ∧ Rows 1 encInt w' A L.length L) ∧ (c ≠ 0 → e = .returned (.tuple #[.slice none 0 0, .int .i64 c])) ∧ Ext w w'
set_option maxRecDepth 100000 in
set_option maxHeartbeats 2000000 in
theorem Arrive_24 (I : Inp) (w : World) (h : I.In w) :
    Calls Tryz.prog 24 #[I.vm, I.vn, I.vf] w (IntsPost I.err0 (I.f.atList I.N.L I.f.route.length) w) := by
  simp only [Inp.vm, Inp.vn, Inp.vf, Met.val, Flight.val]
  by_cases hc : I.err0 = 0
  · have hc := Lib.hid hc
    go_enter Tryz.func24, Tryz.ntmps24
    go_wp2_with (go_at_call 64; refine (newFlight_ok0 I _ (h.ext (by with_reducible (repeat first | assumption | exact Ext.refl _ | refine Ext.set ?_ (by omega) _ | refine Ext.alloc ?_ _ | refine Ext.drew ?_ | refine Ext.drewN ?_ _ | refine Ext.trans ?_ (by assumption)))) hc.out).mono ?_; rintro e1 w1 ⟨⟨p, r, rfl, hP⟩, hb1⟩; have c11 := hP.fl.c11; replace hP := Lib.hid hP)
    go_ret2
    exact ⟨fun _ => ⟨_, _, by rw [Flight.atList_length]; rfl, by rw [Flight.atList_length]; exact hP.out.at_⟩, fun hn => absurd hc.out hn, (by with_reducible (repeat first | assumption | exact Ext.refl _ | refine Ext.set ?_ (by omega) _ | refine Ext.alloc ?_ _ | refine Ext.drew ?_ | refine Ext.drewN ?_ _ | refine Ext.trans ?_ (by assumption)))⟩
  · have hbb : (I.err0 == (0 : Int)) = false := beq_eq_false_iff_ne.2 hc
    have hbn : (I.err0 != (0 : Int)) = true := by rw [bne_iff_ne]; exact hc
    replace hc := Lib.hid hc
    go_enter Tryz.func24, Tryz.ntmps24
    go_wp2_with (go_at_call 64; refine (newFlight_bad0 I _ (h.ext (by with_reducible (repeat first | assumption | exact Ext.refl _ | refine Ext.set ?_ (by omega) _ | refine Ext.alloc ?_ _ | refine Ext.drew ?_ | refine Ext.drewN ?_ _ | refine Ext.trans ?_ (by assumption)))) hc.out).mono ?_; rintro e1 w1 ⟨rfl, hb1⟩)
    go_ret2
    exact ⟨fun h0 => absurd h0 hc.out, fun _ => rfl, (by with_reducible (repeat first | assumption | exact Ext.refl _ | refine Ext.set ?_ (by omega) _ | refine Ext.alloc ?_ _ | refine Ext.drew ?_ | refine Ext.drewN ?_ _ | refine Ext.trans ?_ (by assumption)))⟩
set_option maxRecDepth 100000 in
set_option maxHeartbeats 2000000 in
theorem Check_26 (I : Inp) (w : World) (h : I.In w) :
    Calls Tryz.prog 26 #[I.vm, I.vn, I.vf] w fun e w' => e = .returned (.int .i64 I.err0) ∧ Ext w w' := by
  simp only [Inp.vm, Inp.vn, Inp.vf, Met.val, Flight.val]
  by_cases hc : I.err0 = 0
  · have hc := Lib.hid hc
    go_enter Tryz.func26, Tryz.ntmps26
    go_wp2_with (go_at_call 64; refine (newFlight_ok0 I _ (h.ext (by with_reducible (repeat first | assumption | exact Ext.refl _ | refine Ext.set ?_ (by omega) _ | refine Ext.alloc ?_ _ | refine Ext.drew ?_ | refine Ext.drewN ?_ _ | refine Ext.trans ?_ (by assumption)))) hc.out).mono ?_; rintro e1 w1 ⟨⟨p, r, rfl, hP⟩, hb1⟩; replace hP := Lib.hid hP)
    go_ret
    exact ⟨by rw [hc.out]; rfl, (by with_reducible (repeat first | assumption | exact Ext.refl _ | refine Ext.set ?_ (by omega) _ | refine Ext.alloc ?_ _ | refine Ext.drew ?_ | refine Ext.drewN ?_ _ | refine Ext.trans ?_ (by assumption)))⟩
  · replace hc := Lib.hid hc
    go_enter Tryz.func26, Tryz.ntmps26
    go_wp2_with (go_at_call 64; refine (newFlight_bad0 I _ (h.ext (by with_reducible (repeat first | assumption | exact Ext.refl _ | refine Ext.set ?_ (by omega) _ | refine Ext.alloc ?_ _ | refine Ext.drew ?_ | refine Ext.drewN ?_ _ | refine Ext.trans ?_ (by assumption)))) hc.out).mono ?_; rintro e1 w1 ⟨rfl, hb1⟩)
    go_ret
    exact ⟨rfl, (by with_reducible (repeat first | assumption | exact Ext.refl _ | refine Ext.set ?_ (by omega) _ | refine Ext.alloc ?_ _ | refine Ext.drew ?_ | refine Ext.drewN ?_ _ | refine Ext.trans ?_ (by assumption)))⟩
/-- A list of havens and an error. -/
def HavensPost (c : Int) (L : List Haven) (w : World) (e : Ending) (w' : World) : Prop :=
  (c = 0 → ∃ A k, e = .returned (.tuple #[.slice A L.length k, .int .i64 0]) ∧ Rows 3 Haven.enc w' A L.length L) ∧ (c ≠ 0 → e = .returned (.tuple #[.slice none 0 0, .int .i64 c])) ∧ Ext w w'
theorem NTPost.okI {I : Inp} {tick : Int} {w : World} {e : Ending} {w' : World} (h : NTPost I tick w e w') (hc : I.code tick = 0) : (∃ p r, e = .returned (.tuple #[.pointer (some ⟨p, 0, none⟩), .int .i64 0]) ∧ PlanAt w' I.P p r) ∧ Ext w w' := ⟨h.1 hc, h.2.2⟩
theorem newTick_ok (I : Inp) (tick : Int) (w : World) (h : I.In w) (h12 : I.Short) (hc : I.code tick = 0) :
    Calls Tryz.prog 57 #[I.vm, I.l.val, I.vn, I.vf, .int .i64 tick] w fun e w' => (∃ p r, e = .returned (.tuple #[.pointer (some ⟨p, 0, none⟩), .int .i64 0]) ∧ PlanAt w' I.P p r) ∧ Ext w w' :=
  (newTick_57 I tick w h h12).mono fun e w' hp => ⟨hp.1 hc, hp.2.2⟩
theorem newTick_bad (I : Inp) (tick : Int) (w : World) (h : I.In w) (h12 : I.Short) (hc : I.code tick ≠ 0) :
    Calls Tryz.prog 57 #[I.vm, I.l.val, I.vn, I.vf, .int .i64 tick] w fun e w' => e = .returned (.tuple #[.pointer none, .int .i64 (I.code tick)]) ∧ Ext w w' :=
  (newTick_57 I tick w h h12).mono fun e w' hp => ⟨hp.2.1 hc, hp.2.2⟩
theorem Inp.code_zero {I : Inp} {tick : Int} (h : I.code tick = 0) : I.err = 0 ∧ I.f.depart ≤ tick ∧ tick ≤ I.f.arrival I.N.L := by
  unfold Inp.code at h
  by_cases he : I.err = 0
  · rw [if_pos he] at h
    by_cases ht : within tick I.f.depart (I.f.arrival I.N.L) = true
    · exact ⟨he, within_true.1 ht⟩
    · rw [if_neg ht] at h; exact absurd h (by decide)
  · rw [if_neg he] at h; exact absurd h he
set_option maxRecDepth 100000 in
set_option maxHeartbeats 2000000 in
theorem Havens_17 (I : Inp) (tick : Int) (w : World) (h : I.In w) (h12 : I.Short) :
    Calls Tryz.prog 17 #[I.vm, I.l.val, I.vn, I.vf, .int .i64 tick] w (HavensPost (I.code tick) (I.P.all tick false) w) := by
  simp only [Inp.vm, Inp.vn, Inp.vf, Met.val, Flight.val, Minima.val]
  by_cases hc : I.code tick = 0
  · obtain ⟨-, t0, t1⟩ := Inp.code_zero hc
    have hc := Lib.hid hc
    go_enter Tryz.func17, Tryz.ntmps17
    go_wp2_with (first | (go_at_call 57; refine (newTick_ok I tick _ (h.ext (by with_reducible (repeat first | assumption | exact Ext.refl _ | refine Ext.set ?_ (by omega) _ | refine Ext.alloc ?_ _ | refine Ext.drew ?_ | refine Ext.drewN ?_ _ | refine Ext.trans ?_ (by assumption)))) h12 hc.out).mono ?_; rintro e1 w1 ⟨⟨p, r, rfl, hP⟩, hb1⟩; replace hP := Lib.hid hP) | (go_at_call 58; refine (havens_58 I.P p r tick false _ (hP.out.ext (by with_reducible (repeat first | assumption | exact Ext.refl _ | refine Ext.set ?_ (by omega) _ | refine Ext.alloc ?_ _ | refine Ext.drew ?_ | refine Ext.drewN ?_ _ | refine Ext.trans ?_ (by assumption)))) t0 t1 h12.fcs h12.sights).mono ?_; rintro e1 w2 ⟨v, rfl, hO, hb2⟩; replace hO := Lib.hid hO))
    go_ret2
    obtain ⟨-, -, ⟨n1, n2, n3, n4⟩, -, -⟩ := Net.good_parts hP.out.ngood
    obtain ⟨A, k, rfl, hR⟩ := hO.out.rows (fun _ => rfl) (by have := I.P.all_length tick false; omega)
    exact ⟨fun _ => ⟨A, k, rfl, hR⟩, fun hn => absurd hc.out hn, (by with_reducible (repeat first | assumption | exact Ext.refl _ | refine Ext.set ?_ (by omega) _ | refine Ext.alloc ?_ _ | refine Ext.drew ?_ | refine Ext.drewN ?_ _ | refine Ext.trans ?_ (by assumption)))⟩
  · have hbb : (I.code tick == (0 : Int)) = false := beq_eq_false_iff_ne.2 hc
    have hbn : (I.code tick != (0 : Int)) = true := by rw [bne_iff_ne]; exact hc
    replace hc := Lib.hid hc
    go_enter Tryz.func17, Tryz.ntmps17
    go_wp2_with (go_at_call 57; refine (newTick_bad I tick _ (h.ext (by with_reducible (repeat first | assumption | exact Ext.refl _ | refine Ext.set ?_ (by omega) _ | refine Ext.alloc ?_ _ | refine Ext.drew ?_ | refine Ext.drewN ?_ _ | refine Ext.trans ?_ (by assumption)))) h12 hc.out).mono ?_; rintro e1 w1 ⟨rfl, hb1⟩)
    go_ret2
    exact ⟨fun h0 => absurd h0 hc.out, fun _ => rfl, (by with_reducible (repeat first | assumption | exact Ext.refl _ | refine Ext.set ?_ (by omega) _ | refine Ext.alloc ?_ _ | refine Ext.drew ?_ | refine Ext.drewN ?_ _ | refine Ext.trans ?_ (by assumption)))⟩
def Inp.bestR (I : Inp) (tick : Int) : Haven × Int := if I.code tick = 0 then (if hasBest (I.P.all tick false) = true then (bestOf (I.P.all tick false), 0) else (z_hv, 3)) else (z_hv, I.code tick)
set_option maxRecDepth 100000 in
set_option maxHeartbeats 2000000 in
theorem Best_20 (I : Inp) (tick : Int) (w : World) (h : I.In w) (h12 : I.Short) :
    Calls Tryz.prog 20 #[I.vm, I.l.val, I.vn, I.vf, .int .i64 tick] w fun e w' => e = .returned (.tuple #[(I.bestR tick).1.val, .int .i64 (I.bestR tick).2]) ∧ Ext w w' := by
  simp only [Inp.vm, Inp.vn, Inp.vf, Met.val, Flight.val, Minima.val]
  by_cases hc : I.code tick = 0
  · obtain ⟨-, t0, t1⟩ := Inp.code_zero hc
    rcases Bool.eq_false_or_eq_true (hasBest (I.P.all tick false)) with hh | hh
    · have hR := Lib.hid (show I.bestR tick = (bestOf (I.P.all tick false), 0) by unfold Inp.bestR; rw [if_pos hc, if_pos hh])
      have hc := Lib.hid hc
      go_enter Tryz.func20, Tryz.ntmps20
      go_wp2_with fail
      refine (newTick_ok I tick _ (h.ext (by with_reducible (repeat first | assumption | exact Ext.refl _ | refine Ext.set ?_ (by omega) _ | refine Ext.alloc ?_ _ | refine Ext.drew ?_ | refine Ext.drewN ?_ _ | refine Ext.trans ?_ (by assumption)))) h12 hc.out).mono ?_
      rintro e1 w1 ⟨⟨p, r, rfl, hP⟩, hb1⟩
      obtain ⟨hc1, hf1, hz1⟩ := hb1.cells
      have hs1 := hb1.size
      simp at hs1
      have hnn := (Net.good_parts hP.ngood).2.2.1.2.2.2
      have hal := I.P.all_length tick false
      replace hP := Lib.hid hP
      have r0 : w1.cell? ⟨w.heap.size + 1 + 1 + 1, 0, none⟩ = some (.int .i64 0) := by go_simp
      have r1 : w1.cell? ⟨w.heap.size + 1 + 1 + 1, 1, none⟩ = some (.int .i64 0) := by go_simp
      have r2 : w1.cell? ⟨w.heap.size + 1 + 1 + 1, 2, none⟩ = some (.bool false) := by go_simp
      have rf0 : w1.frozen? ⟨w.heap.size + 1 + 1 + 1, 0, none⟩ = false := by go_simp
      have rf1 : w1.frozen? ⟨w.heap.size + 1 + 1 + 1, 1, none⟩ = false := by go_simp
      have rf2 : w1.frozen? ⟨w.heap.size + 1 + 1 + 1, 2, none⟩ = false := by go_simp
      have rl : w.heap.size + 1 + 1 + 1 < w1.heap.size := by omega
      clear hc1 hf1
      have hb1 := Lib.hid ((by with_reducible (repeat first | assumption | exact Ext.refl _ | refine Ext.set ?_ (by omega) _ | refine Ext.alloc ?_ _ | refine Ext.drew ?_ | refine Ext.drewN ?_ _ | refine Ext.trans ?_ (by assumption))) : Ext w w1)
      go_wp2_with (first | (go_at_call 58; refine (havens_58 I.P p r tick false _ (hP.out.ext (by with_reducible (repeat first | assumption | exact Ext.refl _ | refine Ext.set ?_ (by omega) _ | refine Ext.alloc ?_ _ | refine Ext.drew ?_ | refine Ext.drewN ?_ _ | refine Ext.trans ?_ (by assumption)))) t0 t1 h12.fcs h12.sights).mono ?_; rintro e1 w2 ⟨v, rfl, hO, hb2⟩; obtain ⟨A, c, rfl, hRr⟩ := hO.rows (fun _ => rfl) (by omega); have hs2 := hb2.size; replace hO := Lib.hid hO) | (go_at_call 61; refine (best_61 _ A _ c _ (hRr.ext (by with_reducible (repeat first | assumption | exact Ext.refl _ | refine Ext.set ?_ (by omega) _ | refine Ext.alloc ?_ _ | refine Ext.drew ?_ | refine Ext.drewN ?_ _ | refine Ext.trans ?_ (by assumption)))) (by omega)).mono ?_; rintro e1 w3 ⟨rfl, hb3⟩; have hx3 : Ext w1 w3 := (by with_reducible (repeat first | assumption | exact Ext.refl _ | refine Ext.set ?_ (by omega) _ | refine Ext.alloc ?_ _ | refine Ext.drew ?_ | refine Ext.drewN ?_ _ | refine Ext.trans ?_ (by assumption))); obtain ⟨hc3, hf3, hz3⟩ := hx3.cells; have hs3 := hx3.size))
      have hb1 := hb1.out
      generalize bestOf (I.P.all tick false) = x at *
      refine bodyPost_ret (v := .tuple #[x.val, .int .i64 0]) ?_ rfl ⟨by rw [hR.out], (by with_reducible (repeat first | assumption | exact Ext.refl _ | refine Ext.set ?_ (by omega) _ | refine Ext.alloc ?_ _ | refine Ext.drew ?_ | refine Ext.drewN ?_ _ | refine Ext.trans ?_ (by assumption)))⟩
      simp [results, go_sem, *]
    · have hR := Lib.hid (show I.bestR tick = (z_hv, 3) by unfold Inp.bestR; rw [if_pos hc, if_neg (by simp [hh])])
      have hc := Lib.hid hc
      go_enter Tryz.func20, Tryz.ntmps20
      go_wp2_with fail
      refine (newTick_ok I tick _ (h.ext (by with_reducible (repeat first | assumption | exact Ext.refl _ | refine Ext.set ?_ (by omega) _ | refine Ext.alloc ?_ _ | refine Ext.drew ?_ | refine Ext.drewN ?_ _ | refine Ext.trans ?_ (by assumption)))) h12 hc.out).mono ?_
      rintro e1 w1 ⟨⟨p, r, rfl, hP⟩, hb1⟩
      obtain ⟨hc1, hf1, hz1⟩ := hb1.cells
      have hs1 := hb1.size
      simp at hs1
      have hnn := (Net.good_parts hP.ngood).2.2.1.2.2.2
      have hal := I.P.all_length tick false
      replace hP := Lib.hid hP
      have r0 : w1.cell? ⟨w.heap.size + 1 + 1 + 1, 0, none⟩ = some (.int .i64 0) := by go_simp
      have r1 : w1.cell? ⟨w.heap.size + 1 + 1 + 1, 1, none⟩ = some (.int .i64 0) := by go_simp
      have r2 : w1.cell? ⟨w.heap.size + 1 + 1 + 1, 2, none⟩ = some (.bool false) := by go_simp
      have rf0 : w1.frozen? ⟨w.heap.size + 1 + 1 + 1, 0, none⟩ = false := by go_simp
      have rf1 : w1.frozen? ⟨w.heap.size + 1 + 1 + 1, 1, none⟩ = false := by go_simp
      have rf2 : w1.frozen? ⟨w.heap.size + 1 + 1 + 1, 2, none⟩ = false := by go_simp
      have rl : w.heap.size + 1 + 1 + 1 < w1.heap.size := by omega
      clear hc1 hf1
      have hb1 := Lib.hid ((by with_reducible (repeat first | assumption | exact Ext.refl _ | refine Ext.set ?_ (by omega) _ | refine Ext.alloc ?_ _ | refine Ext.drew ?_ | refine Ext.drewN ?_ _ | refine Ext.trans ?_ (by assumption))) : Ext w w1)
      go_wp2_with (first | (go_at_call 58; refine (havens_58 I.P p r tick false _ (hP.out.ext (by with_reducible (repeat first | assumption | exact Ext.refl _ | refine Ext.set ?_ (by omega) _ | refine Ext.alloc ?_ _ | refine Ext.drew ?_ | refine Ext.drewN ?_ _ | refine Ext.trans ?_ (by assumption)))) t0 t1 h12.fcs h12.sights).mono ?_; rintro e1 w2 ⟨v, rfl, hO, hb2⟩; obtain ⟨A, c, rfl, hRr⟩ := hO.rows (fun _ => rfl) (by omega); have hs2 := hb2.size; replace hO := Lib.hid hO) | (go_at_call 61; refine (best_61 _ A _ c _ (hRr.ext (by with_reducible (repeat first | assumption | exact Ext.refl _ | refine Ext.set ?_ (by omega) _ | refine Ext.alloc ?_ _ | refine Ext.drew ?_ | refine Ext.drewN ?_ _ | refine Ext.trans ?_ (by assumption)))) (by omega)).mono ?_; rintro e1 w3 ⟨rfl, hb3⟩; have hx3 : Ext w1 w3 := (by with_reducible (repeat first | assumption | exact Ext.refl _ | refine Ext.set ?_ (by omega) _ | refine Ext.alloc ?_ _ | refine Ext.drew ?_ | refine Ext.drewN ?_ _ | refine Ext.trans ?_ (by assumption))); obtain ⟨hc3, hf3, hz3⟩ := hx3.cells; have hs3 := hx3.size))
      have hb1 := hb1.out
      refine bodyPost_ret (v := .tuple #[z_hv.val, .int .i64 3]) ?_ rfl ⟨by rw [hR.out], (by with_reducible (repeat first | assumption | exact Ext.refl _ | refine Ext.set ?_ (by omega) _ | refine Ext.alloc ?_ _ | refine Ext.drew ?_ | refine Ext.drewN ?_ _ | refine Ext.trans ?_ (by assumption)))⟩
      simp [results, go_sem, z_hv, *]
  · have hR := Lib.hid (show I.bestR tick = (z_hv, I.code tick) by unfold Inp.bestR; rw [if_neg hc])
    have hbb : (I.code tick == (0 : Int)) = false := beq_eq_false_iff_ne.2 hc
    have hbn : (I.code tick != (0 : Int)) = true := by rw [bne_iff_ne]; exact hc
    replace hc := Lib.hid hc
    go_enter Tryz.func20, Tryz.ntmps20
    go_wp2_with fail
    refine (newTick_bad I tick _ (h.ext (by with_reducible (repeat first | assumption | exact Ext.refl _ | refine Ext.set ?_ (by omega) _ | refine Ext.alloc ?_ _ | refine Ext.drew ?_ | refine Ext.drewN ?_ _ | refine Ext.trans ?_ (by assumption)))) h12 hc.out).mono ?_
    rintro e1 w1 ⟨rfl, hb1⟩
    obtain ⟨hc1, hf1, hz1⟩ := hb1.cells
    have hs1 := hb1.size
    simp at hs1
    have r0 : w1.cell? ⟨w.heap.size + 1 + 1 + 1, 0, none⟩ = some (.int .i64 0) := by go_simp
    have r1 : w1.cell? ⟨w.heap.size + 1 + 1 + 1, 1, none⟩ = some (.int .i64 0) := by go_simp
    have r2 : w1.cell? ⟨w.heap.size + 1 + 1 + 1, 2, none⟩ = some (.bool false) := by go_simp
    have rf0 : w1.frozen? ⟨w.heap.size + 1 + 1 + 1, 0, none⟩ = false := by go_simp
    have rf1 : w1.frozen? ⟨w.heap.size + 1 + 1 + 1, 1, none⟩ = false := by go_simp
    have rf2 : w1.frozen? ⟨w.heap.size + 1 + 1 + 1, 2, none⟩ = false := by go_simp
    have rl : w.heap.size + 1 + 1 + 1 < w1.heap.size := by omega
    clear hc1 hf1
    go_wp2
    refine bodyPost_ret (v := .tuple #[z_hv.val, .int .i64 (I.code tick)]) ?_ rfl ⟨by rw [hR.out], (by with_reducible (repeat first | assumption | exact Ext.refl _ | refine Ext.set ?_ (by omega) _ | refine Ext.alloc ?_ _ | refine Ext.drew ?_ | refine Ext.drewN ?_ _ | refine Ext.trans ?_ (by assumption)))⟩
    simp [results, go_sem, z_hv, *]
end Go.Proofs.YtmmimbcfgobnaaaGreat
