/- The reference's weather: Open. -/
import Derived.Test.YtmmimbcfgobnaaaGreatV3
import Derived.Test.YtmmimbcfgobnaaaGreatQ4
import Derived.Test.YtmmimbcfgobnaaaGreatW8
set_option linter.unusedVariables false
set_option linter.unusedSimpArgs false
namespace Go.Proofs.YtmmimbcfgobnaaaGreat
open Go.RowKit
attribute [local go_sem] stored_match isSome_setCell

set_option maxRecDepth 100000 in
set_option maxHeartbeats 2000000 in
theorem open_118 (m : Met) (l : Minima) (place tick : Int) (AF AS : Option Addr) (nF cF nS cS : Nat) (w : World) (hm : MetIn w m AF nF AS nS) (hg : m.good = true) (ht : 0 ≤ tick ∧ tick ≤ 2000) :
    Calls Tryz.prog 118 #[m.val (.slice AF nF cF) (.slice AS nS cS), l.val, .int .i64 place, .int .i64 tick] w fun e w' => e = .returned (.bool (m.isOpen l place tick)) ∧ Ext w w' := by
  simp only [Met.val, Minima.val]
  have hR := Lib.hid (show m.isOpen l place tick = flyable (m.sky place tick).worst l from rfl)
  go_enter Tryz.func118, Tryz.ntmps118
  go_wp2_with fail
  refine (may_141 m place tick AF AS nF cF nS cS _ (hm.ext (by with_reducible (repeat first | assumption | exact Ext.refl _ | refine Ext.set ?_ (by omega) _ | refine Ext.alloc ?_ _ | refine Ext.drew ?_ | refine Ext.drewN ?_ _ | refine Ext.trans ?_ (by assumption)))) hg ht).mono ?_
  rintro e1 w1 ⟨A1, c1, rfl, hb1, -⟩
  have hs1 := hb1.size
  simp at hs1
  go_upto_region 2 with (fail)
  have hb1' : Ext w w1 := (by with_reducible (repeat first | assumption | exact Ext.refl _ | refine Ext.set ?_ (by omega) _ | refine Ext.alloc ?_ _ | refine Ext.drew ?_ | refine Ext.drewN ?_ _ | refine Ext.trans ?_ (by assumption)))
  refine name_as (P := fun W => SkyAt W w1.heap.size (m.sky place tick) ∧ MinAt W (w.heap.size + 1) l ∧ Ext w W) (R := fun W => Code.wp _ _ _ _ W) ⟨SkyAt.new w1 (m.sky place tick), ((MinAt.box (w.alloc _) l (by simp)).ext hb1).ext ((Ext.refl _).alloc _), (by with_reducible (repeat first | assumption | exact Ext.refl _ | refine Ext.set ?_ (by omega) _ | refine Ext.alloc ?_ _ | refine Ext.drew ?_ | refine Ext.drewN ?_ _ | refine Ext.trans ?_ (by assumption)))⟩ fun W0 ⟨hS, hM, hx0⟩ => ?_
  obtain ⟨e1, p1, p2, p3, p4, p5, p6, p7, p8, -⟩ := hS
  obtain ⟨e2, q0, q1, q2, q3, q4⟩ := hM
  clear hb1
  go_region_held3 (fun w' => HoldsAll W0 w') ((with_reducible ((repeat refine HoldsAll.drew ?_); first | (first | assumption | exact HoldsAll.refl _ | exact HoldsAll.of_drew (by assumption)) | (refine HoldsAll.ext ?_ (by assumption); first | assumption | exact HoldsAll.refl _ | exact HoldsAll.of_drew (by assumption)) | (refine HoldsAll.alloc ?_ _; first | assumption | exact HoldsAll.refl _ | exact HoldsAll.of_drew (by assumption)) | exact HoldsAll.realloc (by first | assumption | exact HoldsAll.refl _ | exact HoldsAll.of_drew (by assumption)) (by omega) | ((repeat first | refine HoldsAll.fresh ?_ (by omega) _); first | assumption | exact HoldsAll.refl _ | exact HoldsAll.of_drew (by assumption))))) (first | (go_at_call 50; refine (worst_50 (m.sky place tick) _).mono ?_; rintro e1 w1 ⟨rfl, hb1⟩; obtain ⟨hc1, hf1, hz1⟩ := hb1.cells; have hs1 := hb1.size; (try simp at hs1)) | (go_at_call 49; refine (flyable_49 (m.sky place tick).worst l _).mono ?_; rintro e1 w1 ⟨rfl, hb1⟩; obtain ⟨hc1, hf1, hz1⟩ := hb1.cells; have hs1 := hb1.size; (try simp at hs1)))
  go_wp2_with fail
  go_ret
  exact ⟨by rw [hR.out]; rfl, (by with_reducible (repeat first | assumption | exact Ext.refl _ | refine Ext.set ?_ (by omega) _ | refine Ext.alloc ?_ _ | refine Ext.drew ?_ | refine Ext.drewN ?_ _ | refine Ext.trans ?_ (by assumption)))⟩
set_option maxRecDepth 100000 in
set_option maxHeartbeats 2000000 in
theorem checkTick_140 (m : Met) (place tick : Int) (AF AS : Option Addr) (nF cF nS cS : Nat) (w : World) (hm : MetIn w m AF nF AS nS) :
    Calls Tryz.prog 140 #[m.val (.slice AF nF cF) (.slice AS nS cS), .int .i64 place, .int .i64 tick] w fun e w' => e = .returned (.int .i64 (checkAt m place tick)) ∧ Ext w w' := by
  simp only [Met.val]
  rcases Bool.eq_false_or_eq_true m.good with hg | hg
  · have hck : m.check = 0 := check_good.2 hg
    have hp := (Met.good_parts hg).1
    have hR := Lib.hid (show checkAt m place tick = if (within place 0 (m.places - 1) && within tick 0 2000) = true then 0 else 1 by unfold checkAt; rw [if_pos hg])
    replace hg := Lib.hid hg
    obtain ⟨hp1, hp2⟩ := hp
    rcases Bool.eq_false_or_eq_true (within place 0 (m.places - 1)) with h1 | h1 <;> rcases Bool.eq_false_or_eq_true (within tick 0 2000) with h2 | h2
    all_goals
      go_enter Tryz.func140, Tryz.ntmps140
      go_wp2_with (first | (go_at_call 33; refine (check_33 m AF AS nF cF nS cS _ (hm.ext (by with_reducible (repeat first | assumption | exact Ext.refl _ | refine Ext.set ?_ (by omega) _ | refine Ext.alloc ?_ _ | refine Ext.drew ?_ | refine Ext.drewN ?_ _ | refine Ext.trans ?_ (by assumption))))).mono ?_; rintro e1 w1 ⟨rfl, hb1⟩; obtain ⟨hc1, hf1, hz1⟩ := hb1.cells; have hs1 := hb1.size; (try simp at hs1)) | (go_at_call 71; refine (from_71 _ _ _ _).mono ?_; rintro e1 w1 ⟨rfl, rfl⟩))
      go_ret
      exact ⟨by rw [hR.out, h1, h2]; rfl, (by with_reducible (repeat first | assumption | exact Ext.refl _ | refine Ext.set ?_ (by omega) _ | refine Ext.alloc ?_ _ | refine Ext.drew ?_ | refine Ext.drewN ?_ _ | refine Ext.trans ?_ (by assumption)))⟩
  · have hck : m.check = 40 := by unfold Met.check; simp [hg]
    have hR := Lib.hid (show checkAt m place tick = 40 by unfold checkAt; rw [if_neg (by simp [hg])])
    replace hg := Lib.hid hg
    go_enter Tryz.func140, Tryz.ntmps140
    go_wp2_with (go_at_call 33; refine (check_33 m AF AS nF cF nS cS _ (hm.ext (by with_reducible (repeat first | assumption | exact Ext.refl _ | refine Ext.set ?_ (by omega) _ | refine Ext.alloc ?_ _ | refine Ext.drew ?_ | refine Ext.drewN ?_ _ | refine Ext.trans ?_ (by assumption))))).mono ?_; rintro e1 w1 ⟨rfl, hb1⟩; obtain ⟨hc1, hf1, hz1⟩ := hb1.cells; have hs1 := hb1.size; (try simp at hs1))
    go_ret
    exact ⟨by rw [hR.out]; rfl, (by with_reducible (repeat first | assumption | exact Ext.refl _ | refine Ext.set ?_ (by omega) _ | refine Ext.alloc ?_ _ | refine Ext.drew ?_ | refine Ext.drewN ?_ _ | refine Ext.trans ?_ (by assumption)))⟩
set_option maxRecDepth 100000 in
set_option maxHeartbeats 2000000 in
theorem checkOpen_117 (m : Met) (l : Minima) (place tick : Int) (AF AS : Option Addr) (nF cF nS cS : Nat) (w : World) (hm : MetIn w m AF nF AS nS) :
    Calls Tryz.prog 117 #[m.val (.slice AF nF cF) (.slice AS nS cS), l.val, .int .i64 place, .int .i64 tick] w fun e w' => e = .returned (.int .i64 (checkOpen m l place tick)) ∧ Ext w w' := by
  simp only [Met.val, Minima.val]
  by_cases hc : checkMinima m l = 0
  · have hR := Lib.hid (show checkOpen m l place tick = checkAt m place tick by unfold checkOpen; rw [if_pos hc])
    go_enter Tryz.func117, Tryz.ntmps117
    go_wp2_with (first | (go_at_call 68; refine (checkMinima_68 m l AF AS nF cF nS cS _ (hm.ext (by with_reducible (repeat first | assumption | exact Ext.refl _ | refine Ext.set ?_ (by omega) _ | refine Ext.alloc ?_ _ | refine Ext.drew ?_ | refine Ext.drewN ?_ _ | refine Ext.trans ?_ (by assumption))))).mono ?_; rintro e1 w1 ⟨rfl, hb1⟩; obtain ⟨hc1, hf1, hz1⟩ := hb1.cells; have hs1 := hb1.size; (try simp at hs1)) | (go_at_call 140; refine (checkTick_140 m place tick AF AS nF cF nS cS _ (hm.ext (by with_reducible (repeat first | assumption | exact Ext.refl _ | refine Ext.set ?_ (by omega) _ | refine Ext.alloc ?_ _ | refine Ext.drew ?_ | refine Ext.drewN ?_ _ | refine Ext.trans ?_ (by assumption))))).mono ?_; rintro e1 w2 ⟨rfl, hb2⟩))
    go_ret
    exact ⟨by rw [hR.out]; rfl, (by with_reducible (repeat first | assumption | exact Ext.refl _ | refine Ext.set ?_ (by omega) _ | refine Ext.alloc ?_ _ | refine Ext.drew ?_ | refine Ext.drewN ?_ _ | refine Ext.trans ?_ (by assumption)))⟩
  · have hR := Lib.hid (show checkOpen m l place tick = checkMinima m l by unfold checkOpen; rw [if_neg hc])
    have hbb : (checkMinima m l == (0 : Int)) = false := beq_eq_false_iff_ne.2 hc
    have hbn : (checkMinima m l != (0 : Int)) = true := by rw [bne_iff_ne]; exact hc
    replace hc := Lib.hid hc
    go_enter Tryz.func117, Tryz.ntmps117
    go_wp2_with (go_at_call 68; refine (checkMinima_68 m l AF AS nF cF nS cS _ (hm.ext (by with_reducible (repeat first | assumption | exact Ext.refl _ | refine Ext.set ?_ (by omega) _ | refine Ext.alloc ?_ _ | refine Ext.drew ?_ | refine Ext.drewN ?_ _ | refine Ext.trans ?_ (by assumption))))).mono ?_; rintro e1 w1 ⟨rfl, hb1⟩; obtain ⟨hc1, hf1, hz1⟩ := hb1.cells; have hs1 := hb1.size; (try simp at hs1))
    go_ret
    exact ⟨by rw [hR.out]; rfl, (by with_reducible (repeat first | assumption | exact Ext.refl _ | refine Ext.set ?_ (by omega) _ | refine Ext.alloc ?_ _ | refine Ext.drew ?_ | refine Ext.drewN ?_ _ | refine Ext.trans ?_ (by assumption)))⟩
set_option maxRecDepth 100000 in
set_option maxHeartbeats 2000000 in
theorem Open_91 (m : Met) (l : Minima) (place tick : Int) (AF AS : Option Addr) (nF cF nS cS : Nat) (w : World) (hm : MetIn w m AF nF AS nS) :
    Calls Tryz.prog 91 #[m.val (.slice AF nF cF) (.slice AS nS cS), l.val, .int .i64 place, .int .i64 tick] w fun e w' => e = .returned (.tuple #[.bool (m.opened l place tick).1, .int .i64 (m.opened l place tick).2]) ∧ Ext w w' := by
  simp only [Met.val, Minima.val]
  by_cases hc : checkOpen m l place tick = 0
  · have hcs := hc
    unfold checkOpen at hcs
    have hck : checkMinima m l = 0 := by
      by_cases h : checkMinima m l = 0
      · exact h
      · rw [if_neg h] at hcs; exact hcs
    rw [if_pos hck] at hcs
    obtain ⟨hg, -, ht⟩ := checkAt_zero hcs
    have ho := Lib.hid (show m.opened l place tick = (m.isOpen l place tick, 0) by unfold Met.opened; rw [if_pos hc])
    replace hg := Lib.hid hg
    clear hcs hck
    go_enter Tryz.func91, Tryz.ntmps91
    go_wp2_with (first | (go_at_call 117; refine (checkOpen_117 m l place tick AF AS nF cF nS cS _ (hm.ext (by with_reducible (repeat first | assumption | exact Ext.refl _ | refine Ext.set ?_ (by omega) _ | refine Ext.alloc ?_ _ | refine Ext.drew ?_ | refine Ext.drewN ?_ _ | refine Ext.trans ?_ (by assumption))))).mono ?_; rintro e1 w1 ⟨rfl, hb1⟩; obtain ⟨hc1, hf1, hz1⟩ := hb1.cells; have hs1 := hb1.size; (try simp at hs1)) | (go_at_call 118; refine (open_118 m l place tick AF AS nF cF nS cS _ (hm.ext (by with_reducible (repeat first | assumption | exact Ext.refl _ | refine Ext.set ?_ (by omega) _ | refine Ext.alloc ?_ _ | refine Ext.drew ?_ | refine Ext.drewN ?_ _ | refine Ext.trans ?_ (by assumption)))) hg.out ht).mono ?_; rintro e1 w2 ⟨rfl, hb2⟩))
    go_ret2
    rw [ho.out]
    exact ⟨rfl, (by with_reducible (repeat first | assumption | exact Ext.refl _ | refine Ext.set ?_ (by omega) _ | refine Ext.alloc ?_ _ | refine Ext.drew ?_ | refine Ext.drewN ?_ _ | refine Ext.trans ?_ (by assumption)))⟩
  · have ho := Lib.hid (show m.opened l place tick = (false, checkOpen m l place tick) by unfold Met.opened; rw [if_neg hc])
    have hbn : (checkOpen m l place tick != (0 : Int)) = true := by rw [bne_iff_ne]; exact hc
    replace hc := Lib.hid hc
    go_enter Tryz.func91, Tryz.ntmps91
    go_wp2_with (go_at_call 117; refine (checkOpen_117 m l place tick AF AS nF cF nS cS _ (hm.ext (by with_reducible (repeat first | assumption | exact Ext.refl _ | refine Ext.set ?_ (by omega) _ | refine Ext.alloc ?_ _ | refine Ext.drew ?_ | refine Ext.drewN ?_ _ | refine Ext.trans ?_ (by assumption))))).mono ?_; rintro e1 w1 ⟨rfl, hb1⟩; obtain ⟨hc1, hf1, hz1⟩ := hb1.cells; have hs1 := hb1.size; (try simp at hs1))
    go_ret2
    rw [ho.out]
    exact ⟨rfl, (by with_reducible (repeat first | assumption | exact Ext.refl _ | refine Ext.set ?_ (by omega) _ | refine Ext.alloc ?_ _ | refine Ext.drew ?_ | refine Ext.drewN ?_ _ | refine Ext.trans ?_ (by assumption)))⟩
end Go.Proofs.YtmmimbcfgobnaaaGreat
