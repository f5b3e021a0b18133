/- The law RouteReturns: its walk; how long a flight a statement follows. -/
import Derived.Test.YtmmimbcfgobnaaaGreatT0
import Derived.Test.YtmmimbcfgobnaaaGreatQ12
import Derived.Deep.MidRow
set_option linter.unusedVariables false
set_option linter.unusedSimpArgs false
namespace Go.Proofs.YtmmimbcfgobnaaaGreat
open Go.RowKit
attribute [local go_sem] stored_match isSome_setCell

/-- The cells of a plan. -/
abbrev Inp.cellsP (I : Inp) : List Value := [.int .i64 I.m.places, .int .i64 I.m.any.w.lo, .int .i64 I.m.any.w.hi, .int .i64 I.m.any.s.lo, .int .i64 I.m.any.s.hi, .int .i64 I.m.any.c.lo, .int .i64 I.m.any.c.hi, .bool I.m.any.ice, .bool I.m.any.storm, .int .i64 I.m.wind, .int .i64 I.m.see, .int .i64 I.m.ceil, .slice I.AF I.nF I.cF, .slice I.AS I.nS I.cS, .int .i64 I.l.wind, .int .i64 I.l.see, .int .i64 I.l.ceil, .bool I.l.ice, .bool I.l.storm, .slice I.AX I.nX I.cX]
theorem Boxed.range {I : Inp} {b : Nat} {w : World} (h : Boxed I b w) : w.rangeAt b 0 I.cellsP := by
  intro j v hv
  have hj : j < 20 := (List.getElem?_eq_some_iff.1 hv).1
  rw [Nat.zero_add]
  rcases (show j = 0 ∨ j = 1 ∨ j = 2 ∨ j = 3 ∨ j = 4 ∨ j = 5 ∨ j = 6 ∨ j = 7 ∨ j = 8 ∨ j = 9 ∨ j = 10 ∨ j = 11 ∨ j = 12 ∨ j = 13 ∨ j = 14 ∨ j = 15 ∨ j = 16 ∨ j = 17 ∨ j = 18 ∨ j = 19 by omega) with rfl | rfl | rfl | rfl | rfl | rfl | rfl | rfl | rfl | rfl | rfl | rfl | rfl | rfl | rfl | rfl | rfl | rfl | rfl | rfl
  · exact h.p0.trans hv
  · exact h.p1.trans hv
  · exact h.p2.trans hv
  · exact h.p3.trans hv
  · exact h.p4.trans hv
  · exact h.p5.trans hv
  · exact h.p6.trans hv
  · exact h.p7.trans hv
  · exact h.p8.trans hv
  · exact h.p9.trans hv
  · exact h.p10.trans hv
  · exact h.p11.trans hv
  · exact h.p12.trans hv
  · exact h.p13.trans hv
  · exact h.p14.trans hv
  · exact h.p15.trans hv
  · exact h.p16.trans hv
  · exact h.p17.trans hv
  · exact h.p18.trans hv
  · exact h.p19.trans hv
/-- Cells that lie in a world's old blocks. -/
structure InRange (b : Nat) (cs : List Value) (w : World) : Prop where
  mk' ::
  range : w.rangeAt b 0 cs
  lt : b < w.heap.size
theorem InRange.mk {b : Nat} {cs : List Value} {w : World} (h : w.rangeAt b 0 cs) (l : b + 1 < w.heap.size) : InRange b cs w := ⟨h, by omega⟩
theorem InRange.ext {b : Nat} {cs : List Value} {w w' : World} (h : InRange b cs w) (e : Ext w w') : w'.rangeAt b 0 cs := fun j v hv => (e.cells.1 _ _ h.lt).trans (h.range j v hv)
theorem desc34 : ∃ d, Tryz.prog.underlying 34 = some d ∧ d.isRow = true ∧ (Tryz.prog.info? 34).map (·.size) = some 20 := by
  have u34 : (Tryz.prog.underlying 34).map TypeDesc.isRow = some true := by kernel_rfl
  obtain ⟨d34, u34, dr⟩ := Option.map_eq_some_iff.1 u34
  exact ⟨d34, u34, dr, by kernel_rfl⟩
/-- Whether a statement follows a flight no more. -/
def Inp.long (I : Inp) : Bool := (decide (12 < I.m.fcs.length + I.m.sights.length) && decide (I.m.fcs.length ≤ 40) && decide (I.m.sights.length ≤ 20)) || (decide (I.err0 = 0) && decide (I.f.depart + 80 < I.f.arrival I.N.L))
theorem Met.good_few {m : Met} (h : m.good = true) : m.fcs.length ≤ 40 ∧ m.sights.length ≤ 20 := by
  unfold Met.good at h
  simp only [Bool.and_eq_true, decide_eq_true_eq] at h
  exact ⟨h.1.1.1.2, h.1.2⟩
theorem Inp.long_false {I : Inp} (h : I.long = false) : I.Short ∧ (I.err0 = 0 → I.f.arrival I.N.L ≤ I.f.depart + 80) := by
  unfold Inp.long at h
  simp only [Bool.or_eq_false_iff, Bool.and_eq_false_iff, decide_eq_false_iff_not] at h
  refine ⟨⟨fun hg => ?_, fun hg => ?_⟩, fun he => ?_⟩
  · have := Met.good_few hg; omega
  · have := Met.good_few hg; omega
  · omega
set_option maxRecDepth 100000 in
set_option maxHeartbeats 2000000 in
theorem Long_15 (I : Inp) (w : World) (h : I.In w) : Calls Tryz.prog 15 #[I.vp, I.vf] w fun e w' => e = .returned (.bool I.long) ∧ Ext w w' := by
  have l1 := h.met.fcs.len
  have l2 := h.met.sights.len
  have s1 := h.met.fcs.small
  have s2 := h.met.sights.small
  simp only [Inp.vp, Inp.vf, Flight.val]
  by_cases hA : (12 : Int) < (I.nF : Int) + (I.nS : Int) ∧ (I.nF : Int) ≤ 40 ∧ (I.nS : Int) ≤ 20
  · have hR := Lib.hid (show I.long = true by unfold Inp.long; rw [decide_eq_true (by omega), decide_eq_true (by omega), decide_eq_true (by omega)]; rfl)
    obtain ⟨a1, a2, a3⟩ := hA
    replace l1 := Lib.hid l1
    replace l2 := Lib.hid l2
    obtain ⟨d34, u34, dr, i34⟩ := desc34
    replace u34 := Lib.hid u34
    replace dr := Lib.hid dr
    replace i34 := Lib.hid i34
    go_enter Tryz.func15, Tryz.ntmps15
    go_upto_region 1 with (fail)
    refine name_world_as (P := fun W => Boxed I w.heap.size W ∧ Ext w W) (R := fun W => Code.wp _ _ _ _ W) ⟨Boxed.new I w, (by with_reducible (repeat first | assumption | exact Ext.refl _ | refine Ext.set ?_ (by omega) _ | refine Ext.alloc ?_ _ | refine Ext.drew ?_ | refine Ext.drewN ?_ _ | refine Ext.trans ?_ (by assumption)))⟩ fun W1 ⟨hB, hxw⟩ => ?_
    have hI := Lib.hid (h.ext hxw)
    have hBx := Lib.hid hB
    have hrg := Lib.hid (InRange.mk hB.range hB.lt)
    obtain ⟨p0, p1, p2, p3, p4, p5, p6, p7, p8, p9, p10, p11, p12, p13, p14, p15, p16, p17, p18, p19, f0, f1, f2, f3, f4, lb⟩ := hB
    have lb0 : w.heap.size < W1.heap.size := by omega
    go_wp2_with fail
    go_ret
    exact ⟨by rw [hR.out]; rfl, (by with_reducible (repeat first | assumption | exact Ext.refl _ | refine Ext.set ?_ (by omega) _ | refine Ext.alloc ?_ _ | refine Ext.drew ?_ | refine Ext.drewN ?_ _ | refine Ext.trans ?_ (by assumption)))⟩
  · have hR : I.long = (decide (I.err0 = 0) && decide (I.f.depart + 80 < I.f.arrival I.N.L)) := by
      unfold Inp.long
      have e : (decide (12 < I.m.fcs.length + I.m.sights.length) && decide (I.m.fcs.length ≤ 40) && decide (I.m.sights.length ≤ 20)) = false := by
        simp only [Bool.and_eq_false_iff, decide_eq_false_iff_not]; omega
      rw [e, Bool.false_or]
    have hcase : ((I.nF : Int) + (I.nS : Int) ≤ 12) ∨ ((12 : Int) < (I.nF : Int) + (I.nS : Int) ∧ (40 : Int) < (I.nF : Int)) ∨ ((12 : Int) < (I.nF : Int) + (I.nS : Int) ∧ (I.nF : Int) ≤ 40 ∧ (20 : Int) < (I.nS : Int)) := by omega
    clear hA
    replace l1 := Lib.hid l1
    replace l2 := Lib.hid l2
    by_cases hc : I.err0 = 0
    · obtain ⟨hn, hf⟩ := Inp.err0_good hc
      obtain ⟨hp, -, -, ha⟩ := Flight.good_parts hf
      obtain ⟨⟨r1, r2⟩, ⟨d1, d2⟩, -⟩ := Flight.plain_parts hp
      have hlast : I.f.last + 1 = I.f.route.length := by unfold Flight.last; omega
      have hv4 : (I.A.length : Int) - 1 = (I.f.last : Int) := by rw [Flight.atList_length]; omega
      have hv8 : IntKind.i64.wrap (I.f.last : Int) = (I.f.last : Int) := IntWalk.i64_in _ (by omega)
      have hv7 : (0 : Int) ≤ (I.f.last : Int) := by omega
      have hv9 : ((I.f.last : Int)).toNat = I.f.last := by omega
      have hv5 : IntKind.i64.wrap ((I.A.length : Int) - 1) = (I.f.last : Int) := by rw [hv4]; exact IntWalk.i64_in _ (by omega)
      have har : I.f.arrival I.N.L = I.f.at I.N.L I.f.last := rfl
      have hR2 := Lib.hid (show I.long = decide (I.f.depart + 80 < I.f.at I.N.L I.f.last) by rw [hR, decide_eq_true hc, Bool.true_and, har])
      have hst := (Flight.at_step (Net.good_parts hn).2.2.2.1 hf I.f.last (by omega)).1
      rw [har] at ha
      have hAl : I.f.last < I.A.length := by rw [Flight.atList_length]; omega
      have hAt := Lib.hid (show I.A[I.f.last]? = some (I.f.at I.N.L I.f.last) from Flight.atList_at _ _ (by omega))
      clear hR hn hf hp har hlast
      replace hc := Lib.hid hc
      generalize I.f.at I.N.L I.f.last = y at *
      have hv6 : (I.f.last : Int) < (I.A.length : Int) := by omega
      have hw80 : IntKind.i64.wrap (I.f.depart + 80) = I.f.depart + 80 := IntWalk.i64_in _ (by omega)
      rcases hcase with a1 | ⟨a1, a2⟩ | ⟨a1, a2, a3⟩
      all_goals
        obtain ⟨d34, u34, dr, i34⟩ := desc34
        replace u34 := Lib.hid u34
        replace dr := Lib.hid dr
        replace i34 := Lib.hid i34
        go_enter Tryz.func15, Tryz.ntmps15
        go_upto_region 1 with (fail)
        refine name_world_as (P := fun W => Boxed I w.heap.size W ∧ Ext w W) (R := fun W => Code.wp _ _ _ _ W) ⟨Boxed.new I w, (by with_reducible (repeat first | assumption | exact Ext.refl _ | refine Ext.set ?_ (by omega) _ | refine Ext.alloc ?_ _ | refine Ext.drew ?_ | refine Ext.drewN ?_ _ | refine Ext.trans ?_ (by assumption)))⟩ fun W1 ⟨hB, hxw⟩ => ?_
        have hI := Lib.hid (h.ext hxw)
        have hBx := Lib.hid hB
        have hrg := Lib.hid (InRange.mk hB.range hB.lt)
        obtain ⟨p0, p1, p2, p3, p4, p5, p6, p7, p8, p9, p10, p11, p12, p13, p14, p15, p16, p17, p18, p19, f0, f1, f2, f3, f4, lb⟩ := hB
        have lb0 : w.heap.size < W1.heap.size := by omega
        go_wp2_with (go_at_call 29; refine (arrive29_ok I _ (hI.out.ext (by with_reducible (repeat first | assumption | exact Ext.refl _ | refine Ext.set ?_ (by omega) _ | refine Ext.alloc ?_ _ | refine Ext.drew ?_ | refine Ext.drewN ?_ _ | refine Ext.trans ?_ (by assumption)))) hc.out).mono ?_; rintro e1 w6 ⟨A6, k6, rfl, hR6, hb6⟩; obtain ⟨b6, off6, rfl, hb6', k6'⟩ := hR6.intx (j := I.f.last) hAl hAt.out; replace hR6 := Lib.hid hR6; obtain ⟨hc6, hf6, hz6⟩ := hb6.cells)
        go_quiet (fail)
        go_wp2_with fail
        go_ret
        exact ⟨by rw [hR2.out]; rfl, (by with_reducible (repeat first | assumption | exact Ext.refl _ | refine Ext.set ?_ (by omega) _ | refine Ext.alloc ?_ _ | refine Ext.drew ?_ | refine Ext.drewN ?_ _ | refine Ext.trans ?_ (by assumption)))⟩
    · have hR2 := Lib.hid (show I.long = false by rw [hR, decide_eq_false hc, Bool.false_and])
      have heb : (I.err0 == (0 : Int)) = false := beq_eq_false_iff_ne.2 hc
      replace hc := Lib.hid hc
      rcases hcase with a1 | ⟨a1, a2⟩ | ⟨a1, a2, a3⟩
      all_goals
        obtain ⟨d34, u34, dr, i34⟩ := desc34
        replace u34 := Lib.hid u34
        replace dr := Lib.hid dr
        replace i34 := Lib.hid i34
        go_enter Tryz.func15, Tryz.ntmps15
        go_upto_region 1 with (fail)
        refine name_world_as (P := fun W => Boxed I w.heap.size W ∧ Ext w W) (R := fun W => Code.wp _ _ _ _ W) ⟨Boxed.new I w, (by with_reducible (repeat first | assumption | exact Ext.refl _ | refine Ext.set ?_ (by omega) _ | refine Ext.alloc ?_ _ | refine Ext.drew ?_ | refine Ext.drewN ?_ _ | refine Ext.trans ?_ (by assumption)))⟩ fun W1 ⟨hB, hxw⟩ => ?_
        have hI := Lib.hid (h.ext hxw)
        have hBx := Lib.hid hB
        have hrg := Lib.hid (InRange.mk hB.range hB.lt)
        obtain ⟨p0, p1, p2, p3, p4, p5, p6, p7, p8, p9, p10, p11, p12, p13, p14, p15, p16, p17, p18, p19, f0, f1, f2, f3, f4, lb⟩ := hB
        have lb0 : w.heap.size < W1.heap.size := by omega
        go_wp2_with (go_at_call 29; refine (arrive29_bad I _ (hI.out.ext (by with_reducible (repeat first | assumption | exact Ext.refl _ | refine Ext.set ?_ (by omega) _ | refine Ext.alloc ?_ _ | refine Ext.drew ?_ | refine Ext.drewN ?_ _ | refine Ext.trans ?_ (by assumption)))) hc.out).mono ?_; rintro e1 w6 ⟨rfl, hb6⟩; obtain ⟨hc6, hf6, hz6⟩ := hb6.cells)
        go_quiet (fail)
        go_wp2_with fail
        go_ret
        exact ⟨by rw [hR2.out]; rfl, (by with_reducible (repeat first | assumption | exact Ext.refl _ | refine Ext.set ?_ (by omega) _ | refine Ext.alloc ?_ _ | refine Ext.drew ?_ | refine Ext.drewN ?_ _ | refine Ext.trans ?_ (by assumption)))⟩
set_option maxRecDepth 100000 in
set_option maxHeartbeats 2000000 in
theorem law_9 (I : Inp) (w : World) (h : I.In w) : Calls Tryz.prog 9 #[I.vp, I.vf] w fun e w' => e = .returned (.bool true) ∧ Ext w w' := by
  simp only [Inp.vp, Inp.vf, Flight.val]
  rcases Bool.eq_false_or_eq_true I.long with hl | hl
  · replace hl := Lib.hid hl
    obtain ⟨d34, u34, dr, i34⟩ := desc34
    replace u34 := Lib.hid u34
    replace dr := Lib.hid dr
    replace i34 := Lib.hid i34
    go_enter Tryz.func9, Tryz.ntmps9
    go_upto_region 1 with (fail)
    refine name_world_as (P := fun W => Boxed I w.heap.size W ∧ Ext w W) (R := fun W => Code.wp _ _ _ _ W) ⟨Boxed.new I w, (by with_reducible (repeat first | assumption | exact Ext.refl _ | refine Ext.set ?_ (by omega) _ | refine Ext.alloc ?_ _ | refine Ext.drew ?_ | refine Ext.drewN ?_ _ | refine Ext.trans ?_ (by assumption)))⟩ fun W1 ⟨hB, hxw⟩ => ?_
    have hI := Lib.hid (h.ext hxw)
    have hBx := Lib.hid hB
    have hrg := Lib.hid (InRange.mk hB.range hB.lt)
    obtain ⟨p0, p1, p2, p3, p4, p5, p6, p7, p8, p9, p10, p11, p12, p13, p14, p15, p16, p17, p18, p19, f0, f1, f2, f3, f4, lb⟩ := hB
    have lb0 : w.heap.size < W1.heap.size := by omega
    go_wp2_with (first | ((with_reducible refine at_list ?_); refine wpList_load_mid rfl 34 (.tmp 2) (by rfl) w.heap.size 0 (by rfl) [.int .i64 I.m.places, .int .i64 I.m.any.w.lo, .int .i64 I.m.any.w.hi, .int .i64 I.m.any.s.lo, .int .i64 I.m.any.s.hi, .int .i64 I.m.any.c.lo, .int .i64 I.m.any.c.hi, .bool I.m.any.ice, .bool I.m.any.storm, .int .i64 I.m.wind, .int .i64 I.m.see, .int .i64 I.m.ceil, .slice I.AF I.nF I.cF, .slice I.AS I.nS I.cS, .int .i64 I.l.wind, .int .i64 I.l.see, .int .i64 I.l.ceil, .bool I.l.ice, .bool I.l.storm, .slice I.AX I.nX I.cX] d34 (hrg.out.ext (by with_reducible (repeat first | assumption | exact Ext.refl _ | refine Ext.set ?_ (by omega) _ | refine Ext.alloc ?_ _ | refine Ext.drew ?_ | refine Ext.drewN ?_ _ | refine Ext.trans ?_ (by assumption)))) u34.out dr.out i34.out ?_) | (go_at_call 15; refine (Long_15 I _ (hI.out.ext (by with_reducible (repeat first | assumption | exact Ext.refl _ | refine Ext.set ?_ (by omega) _ | refine Ext.alloc ?_ _ | refine Ext.drew ?_ | refine Ext.drewN ?_ _ | refine Ext.trans ?_ (by assumption))))).mono ?_; rw [hl.out]; rintro e1 w2 ⟨rfl, hb2⟩; have hx2 : Ext W1 w2 := (by with_reducible (repeat first | assumption | exact Ext.refl _ | refine Ext.set ?_ (by omega) _ | refine Ext.alloc ?_ _ | refine Ext.drew ?_ | refine Ext.drewN ?_ _ | refine Ext.trans ?_ (by assumption))); obtain ⟨hc2, hf2, hz2⟩ := hx2.cells; have hs2 := hb2.size) | (go_at_call 16; refine (works_16 _).mono ?_; rintro e1 w9 ⟨rfl, hb9⟩))
    go_ret
    exact ⟨rfl, (by with_reducible (repeat first | assumption | exact Ext.refl _ | refine Ext.set ?_ (by omega) _ | refine Ext.alloc ?_ _ | refine Ext.drew ?_ | refine Ext.drewN ?_ _ | refine Ext.trans ?_ (by assumption)))⟩
  · replace hl := Lib.hid hl
    obtain ⟨d34, u34, dr, i34⟩ := desc34
    replace u34 := Lib.hid u34
    replace dr := Lib.hid dr
    replace i34 := Lib.hid i34
    go_enter Tryz.func9, Tryz.ntmps9
    go_upto_region 1 with (fail)
    refine name_world_as (P := fun W => Boxed I w.heap.size W ∧ Ext w W) (R := fun W => Code.wp _ _ _ _ W) ⟨Boxed.new I w, (by with_reducible (repeat first | assumption | exact Ext.refl _ | refine Ext.set ?_ (by omega) _ | refine Ext.alloc ?_ _ | refine Ext.drew ?_ | refine Ext.drewN ?_ _ | refine Ext.trans ?_ (by assumption)))⟩ fun W1 ⟨hB, hxw⟩ => ?_
    have hI := Lib.hid (h.ext hxw)
    have hBx := Lib.hid hB
    have hrg := Lib.hid (InRange.mk hB.range hB.lt)
    obtain ⟨p0, p1, p2, p3, p4, p5, p6, p7, p8, p9, p10, p11, p12, p13, p14, p15, p16, p17, p18, p19, f0, f1, f2, f3, f4, lb⟩ := hB
    have lb0 : w.heap.size < W1.heap.size := by omega
    go_wp2_with (first | ((with_reducible refine at_list ?_); refine wpList_load_mid rfl 34 (.tmp 2) (by rfl) w.heap.size 0 (by rfl) [.int .i64 I.m.places, .int .i64 I.m.any.w.lo, .int .i64 I.m.any.w.hi, .int .i64 I.m.any.s.lo, .int .i64 I.m.any.s.hi, .int .i64 I.m.any.c.lo, .int .i64 I.m.any.c.hi, .bool I.m.any.ice, .bool I.m.any.storm, .int .i64 I.m.wind, .int .i64 I.m.see, .int .i64 I.m.ceil, .slice I.AF I.nF I.cF, .slice I.AS I.nS I.cS, .int .i64 I.l.wind, .int .i64 I.l.see, .int .i64 I.l.ceil, .bool I.l.ice, .bool I.l.storm, .slice I.AX I.nX I.cX] d34 (hrg.out.ext (by with_reducible (repeat first | assumption | exact Ext.refl _ | refine Ext.set ?_ (by omega) _ | refine Ext.alloc ?_ _ | refine Ext.drew ?_ | refine Ext.drewN ?_ _ | refine Ext.trans ?_ (by assumption)))) u34.out dr.out i34.out ?_) | (go_at_call 15; refine (Long_15 I _ (hI.out.ext (by with_reducible (repeat first | assumption | exact Ext.refl _ | refine Ext.set ?_ (by omega) _ | refine Ext.alloc ?_ _ | refine Ext.drew ?_ | refine Ext.drewN ?_ _ | refine Ext.trans ?_ (by assumption))))).mono ?_; rw [hl.out]; rintro e1 w2 ⟨rfl, hb2⟩; have hx2 : Ext W1 w2 := (by with_reducible (repeat first | assumption | exact Ext.refl _ | refine Ext.set ?_ (by omega) _ | refine Ext.alloc ?_ _ | refine Ext.drew ?_ | refine Ext.drewN ?_ _ | refine Ext.trans ?_ (by assumption))); obtain ⟨hc2, hf2, hz2⟩ := hx2.cells; have hs2 := hb2.size) | (go_at_call 37; refine (NoReturn_37 I _ (hI.out.ext (by with_reducible (repeat first | assumption | exact Ext.refl _ | refine Ext.set ?_ (by omega) _ | refine Ext.alloc ?_ _ | refine Ext.drew ?_ | refine Ext.drewN ?_ _ | refine Ext.trans ?_ (by assumption))))).mono ?_; rintro e1 w3 ⟨rfl, hb3⟩; have hx3 : Ext W1 w3 := (by with_reducible (repeat first | assumption | exact Ext.refl _ | refine Ext.set ?_ (by omega) _ | refine Ext.alloc ?_ _ | refine Ext.drew ?_ | refine Ext.drewN ?_ _ | refine Ext.trans ?_ (by assumption))); obtain ⟨hc3, hf3, hz3⟩ := hx3.cells; have hs3 := hb3.size) | (go_at_call 38; refine (NoReturn_38 I _ (hI.out.ext (by with_reducible (repeat first | assumption | exact Ext.refl _ | refine Ext.set ?_ (by omega) _ | refine Ext.alloc ?_ _ | refine Ext.drew ?_ | refine Ext.drewN ?_ _ | refine Ext.trans ?_ (by assumption))))).mono ?_; rintro e1 w4 ⟨rfl, hb4⟩; have hx4 : Ext W1 w4 := (by with_reducible (repeat first | assumption | exact Ext.refl _ | refine Ext.set ?_ (by omega) _ | refine Ext.alloc ?_ _ | refine Ext.drew ?_ | refine Ext.drewN ?_ _ | refine Ext.trans ?_ (by assumption))); obtain ⟨hc4, hf4, hz4⟩ := hx4.cells; have hs4 := hb4.size) | (go_at_call 39; refine (Middle_39 I _ (hI.out.ext (by with_reducible (repeat first | assumption | exact Ext.refl _ | refine Ext.set ?_ (by omega) _ | refine Ext.alloc ?_ _ | refine Ext.drew ?_ | refine Ext.drewN ?_ _ | refine Ext.trans ?_ (by assumption))))).mono ?_; rintro e1 w5 ⟨rfl, hb5⟩; have hx5 : Ext W1 w5 := (by with_reducible (repeat first | assumption | exact Ext.refl _ | refine Ext.set ?_ (by omega) _ | refine Ext.alloc ?_ _ | refine Ext.drew ?_ | refine Ext.drewN ?_ _ | refine Ext.trans ?_ (by assumption))); obtain ⟨hc5, hf5, hz5⟩ := hx5.cells; have hs5 := hb5.size) | (go_at_call 40; refine (Middle_40 I _ (hI.out.ext (by with_reducible (repeat first | assumption | exact Ext.refl _ | refine Ext.set ?_ (by omega) _ | refine Ext.alloc ?_ _ | refine Ext.drew ?_ | refine Ext.drewN ?_ _ | refine Ext.trans ?_ (by assumption))))).mono ?_; rintro e1 w6 ⟨rfl, hb6⟩; have hx6 : Ext W1 w6 := (by with_reducible (repeat first | assumption | exact Ext.refl _ | refine Ext.set ?_ (by omega) _ | refine Ext.alloc ?_ _ | refine Ext.drew ?_ | refine Ext.drewN ?_ _ | refine Ext.trans ?_ (by assumption))); obtain ⟨hc6, hf6, hz6⟩ := hx6.cells; have hs6 := hb6.size) | (go_at_call 16; refine (works_16 _).mono ?_; rintro e1 w9 ⟨rfl, hb9⟩))
    go_ret
    exact ⟨rfl, (by with_reducible (repeat first | assumption | exact Ext.refl _ | refine Ext.set ?_ (by omega) _ | refine Ext.alloc ?_ _ | refine Ext.drew ?_ | refine Ext.drewN ?_ _ | refine Ext.trans ?_ (by assumption)))⟩
end Go.Proofs.YtmmimbcfgobnaaaGreat
