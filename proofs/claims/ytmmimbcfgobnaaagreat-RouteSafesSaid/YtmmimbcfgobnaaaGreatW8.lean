/- weather.Open, May, Strange. -/
import Derived.Test.YtmmimbcfgobnaaaGreatW7
set_option linter.unusedVariables false
set_option linter.unusedSimpArgs false
namespace Go.Proofs.YtmmimbcfgobnaaaGreat
open Go.RowKit
set_option linter.unusedVariables false
set_option linter.unusedSimpArgs false
attribute [local go_sem] stored_match isSome_setCell

set_option maxRecDepth 100000 in
set_option maxHeartbeats 2000000 in
theorem open_131 (m : Met) (l : Minima) (place tick : Int) (AF AS : Option Addr) (nF cF nS cS : Nat) (w : World) (hm : MetIn w m AF nF AS nS) (hg : m.good = true) (ht : 0 ≤ tick ∧ tick ≤ 2000) (hl : m.fcs.length ≤ 12) (hl2 : m.sights.length ≤ 12) :
    Calls Tryz.prog 131 #[m.val (.slice AF nF cF) (.slice AS nS cS), l.val, .int .i64 place, .int .i64 tick] w fun e w' => e = .returned (.bool (m.isOpen l place tick)) ∧ Ext w w' := by
  simp only [Met.val, Minima.val]
  go_enter Tryz.func131, Tryz.ntmps131
  go_wp2_with (go_at_call 76; refine (may_76 m place tick AF AS nF cF nS cS _ (hm.ext (by with_reducible (repeat first | assumption | exact Ext.refl _ | refine Ext.set ?_ (by omega) _ | refine Ext.alloc ?_ _ | refine Ext.drew ?_ | refine Ext.drewN ?_ _ | refine Ext.trans ?_ (by assumption)))) hg ht hl hl2).mono ?_; rintro e1 w1 ⟨A1, c1, rfl, hb1, hR⟩; obtain ⟨hc1, hf1, hz1⟩ := hb1.cells)
  have hs1 := hb1.size
  simp at hs1
  refine name_world (R := fun W => Code.wp _ _ _ _ W) fun W0 hx0 hc0 hf0 hz0 => ?_
  have hn1 : w.heap.size + 1 < w1.heap.size := by omega
  have q0 : W0.cell? ⟨w.heap.size + 1, 0, none⟩ = some (.int .i64 l.wind) := by rw [hc0 (w.heap.size + 1) 0]; rw [World.cell?_alloc_past _ _ _ hn1, hc1 _ _ (by simp)]; simp
  have q1 : W0.cell? ⟨w.heap.size + 1, 1, none⟩ = some (.int .i64 l.see) := by rw [hc0 (w.heap.size + 1) 1]; rw [World.cell?_alloc_past _ _ _ hn1, hc1 _ _ (by simp)]; simp
  have q2 : W0.cell? ⟨w.heap.size + 1, 2, none⟩ = some (.int .i64 l.ceil) := by rw [hc0 (w.heap.size + 1) 2]; rw [World.cell?_alloc_past _ _ _ hn1, hc1 _ _ (by simp)]; simp
  have q3 : W0.cell? ⟨w.heap.size + 1, 3, none⟩ = some (.bool l.ice) := by rw [hc0 (w.heap.size + 1) 3]; rw [World.cell?_alloc_past _ _ _ hn1, hc1 _ _ (by simp)]; simp
  have q4 : W0.cell? ⟨w.heap.size + 1, 4, none⟩ = some (.bool l.storm) := by rw [hc0 (w.heap.size + 1) 4]; rw [World.cell?_alloc_past _ _ _ hn1, hc1 _ _ (by simp)]; simp
  have p0 : W0.cell? ⟨w1.heap.size, 0, none⟩ = some (.int .i64 (m.sky place tick).w.lo) := by rw [hc0 w1.heap.size 0]; simp
  have p1 : W0.cell? ⟨w1.heap.size, 1, none⟩ = some (.int .i64 (m.sky place tick).w.hi) := by rw [hc0 w1.heap.size 1]; simp
  have p2 : W0.cell? ⟨w1.heap.size, 2, none⟩ = some (.int .i64 (m.sky place tick).s.lo) := by rw [hc0 w1.heap.size 2]; simp
  have p3 : W0.cell? ⟨w1.heap.size, 3, none⟩ = some (.int .i64 (m.sky place tick).s.hi) := by rw [hc0 w1.heap.size 3]; simp
  have p4 : W0.cell? ⟨w1.heap.size, 4, none⟩ = some (.int .i64 (m.sky place tick).c.lo) := by rw [hc0 w1.heap.size 4]; simp
  have p5 : W0.cell? ⟨w1.heap.size, 5, none⟩ = some (.int .i64 (m.sky place tick).c.hi) := by rw [hc0 w1.heap.size 5]; simp
  have p6 : W0.cell? ⟨w1.heap.size, 6, none⟩ = some (.bool (m.sky place tick).ice) := by rw [hc0 w1.heap.size 6]; simp
  have p7 : W0.cell? ⟨w1.heap.size, 7, none⟩ = some (.bool (m.sky place tick).storm) := by rw [hc0 w1.heap.size 7]; simp
  have e1 : w1.heap.size < W0.heap.size := by have := hx0.size; simp at this; omega
  have e2 : w.heap.size + 1 < W0.heap.size := by omega
  simp at hz0
  clear hz0 hc1 hf1 hz1 hc0 hf0
  go_region_held3 (fun w' => HoldsAll W0 w') ((with_reducible ((repeat refine HoldsAll.drew ?_); first | (first | assumption | exact HoldsAll.refl _ | exact HoldsAll.of_drew (by assumption)) | (refine HoldsAll.ext ?_ (by assumption); first | assumption | exact HoldsAll.refl _ | exact HoldsAll.of_drew (by assumption)) | (refine HoldsAll.alloc ?_ _; first | assumption | exact HoldsAll.refl _ | exact HoldsAll.of_drew (by assumption)) | exact HoldsAll.realloc (by first | assumption | exact HoldsAll.refl _ | exact HoldsAll.of_drew (by assumption)) (by omega) | ((repeat first | refine HoldsAll.fresh ?_ (by omega) _); first | assumption | exact HoldsAll.refl _ | exact HoldsAll.of_drew (by assumption))))) (first | (go_at_call 149; refine (worst_149 (m.sky place tick) _).mono ?_; rintro e1 w1 ⟨rfl, hb1⟩; obtain ⟨hc1, hf1, hz1⟩ := hb1.cells; have hs1 := hb1.size; (try simp at hs1)) | (go_at_call 148; refine (flyable_148 (m.sky place tick).worst l _).mono ?_; rintro e1 w1 ⟨rfl, hb1⟩; obtain ⟨hc1, hf1, hz1⟩ := hb1.cells; have hs1 := hb1.size; (try simp at hs1)))
  go_wp2
  go_ret
  exact ⟨ret_bool rfl, (by with_reducible (repeat first | assumption | exact Ext.refl _ | refine Ext.set ?_ (by omega) _ | refine Ext.alloc ?_ _ | refine Ext.drew ?_ | refine Ext.drewN ?_ _ | refine Ext.trans ?_ (by assumption)))⟩
set_option maxRecDepth 100000 in
set_option maxHeartbeats 2000000 in
theorem Open_96 (m : Met) (l : Minima) (place tick : Int) (AF AS : Option Addr) (nF cF nS cS : Nat) (w : World) (hm : MetIn w m AF nF AS nS) (hl : m.fc12) (hl2 : m.si12) :
    Calls Tryz.prog 96 #[m.val (.slice AF nF cF) (.slice AS nS cS), l.val, .int .i64 place, .int .i64 tick] w fun e w' => e = .returned (.tuple #[.bool (m.opened l place tick).1, .int .i64 (m.opened l place tick).2]) ∧ Ext w w' := by
  simp only [Met.val, Minima.val]
  by_cases hc : checkOpen m l place tick = 0
  · have hcs := hc
    unfold checkOpen at hcs
    have hck : checkMinima m l = 0 := by
      by_cases h : checkMinima m l = 0
      · exact h
      · rw [if_neg h] at hcs; exact hcs
    rw [if_pos hck] at hcs
    obtain ⟨hg, _⟩ := (checkMinima_of m l).1 hck
    unfold checkAt at hcs
    rw [if_pos hg] at hcs
    have ht : within place 0 (m.places - 1) = true ∧ within tick 0 2000 = true := by
      by_cases h : (within place 0 (m.places - 1) && within tick 0 2000) = true
      · simpa using h
      · rw [if_neg h] at hcs; exact absurd hcs (by decide)
    have ht := within_true.1 ht.2
    have ho := Lib.hid (show m.opened l place tick = (m.isOpen l place tick, 0) by unfold Met.opened; rw [if_pos hc])
    clear hcs hck
    go_enter Tryz.func96, Tryz.ntmps96
    go_wp2_with (first | (go_at_call 130; refine (checkOpen_130 m l place tick AF AS nF cF nS cS _ (hm.ext (by with_reducible (repeat first | assumption | exact Ext.refl _ | refine Ext.set ?_ (by omega) _ | refine Ext.alloc ?_ _ | refine Ext.drew ?_ | refine Ext.drewN ?_ _ | refine Ext.trans ?_ (by assumption))))).mono ?_; rintro e1 w1 ⟨rfl, hb1⟩; obtain ⟨hc1, hf1, hz1⟩ := hb1.cells; have hs1 := hb1.size; (try simp at hs1)) | (go_at_call 131; refine (open_131 m l place tick AF AS nF cF nS cS _ (hm.ext (by with_reducible (repeat first | assumption | exact Ext.refl _ | refine Ext.set ?_ (by omega) _ | refine Ext.alloc ?_ _ | refine Ext.drew ?_ | refine Ext.drewN ?_ _ | refine Ext.trans ?_ (by assumption)))) hg ht (hl hg) (hl2 hg)).mono ?_; rintro e1 w1 ⟨rfl, hb1⟩; obtain ⟨hc1, hf1, hz1⟩ := hb1.cells; have hs1 := hb1.size; (try simp at hs1)))
    go_ret2
    rw [ho.out]
    exact ⟨rfl, (by with_reducible (repeat first | assumption | exact Ext.refl _ | refine Ext.set ?_ (by omega) _ | refine Ext.alloc ?_ _ | refine Ext.drew ?_ | refine Ext.drewN ?_ _ | refine Ext.trans ?_ (by assumption)))⟩
  · have ho := Lib.hid (show m.opened l place tick = (false, checkOpen m l place tick) by unfold Met.opened; rw [if_neg hc])
    go_enter Tryz.func96, Tryz.ntmps96
    go_wp2_with (go_at_call 130; refine (checkOpen_130 m l place tick AF AS nF cF nS cS _ (hm.ext (by with_reducible (repeat first | assumption | exact Ext.refl _ | refine Ext.set ?_ (by omega) _ | refine Ext.alloc ?_ _ | refine Ext.drew ?_ | refine Ext.drewN ?_ _ | refine Ext.trans ?_ (by assumption))))).mono ?_; rintro e1 w1 ⟨rfl, hb1⟩; obtain ⟨hc1, hf1, hz1⟩ := hb1.cells; have hs1 := hb1.size; (try simp at hs1))
    go_ret2
    rw [ho.out]
    exact ⟨rfl, (by with_reducible (repeat first | assumption | exact Ext.refl _ | refine Ext.set ?_ (by omega) _ | refine Ext.alloc ?_ _ | refine Ext.drew ?_ | refine Ext.drewN ?_ _ | refine Ext.trans ?_ (by assumption)))⟩
def MayBe (m : Met) (place tick : Int) (w : World) (e : Ending) (w' : World) : Prop :=
  (checkAt m place tick = 0 → e = .returned (.tuple #[(m.sky place tick).val, .int .i64 0])) ∧ (checkAt m place tick ≠ 0 → e = .returned (.tuple #[(Sky.val ⟨⟨0, 0⟩, ⟨0, 0⟩, ⟨0, 0⟩, false, false⟩), .int .i64 (checkAt m place tick)])) ∧ Ext w w'
theorem checkAt_zero {m : Met} {place tick : Int} (h : checkAt m place tick = 0) : m.good = true ∧ (0 ≤ place ∧ place ≤ m.places - 1) ∧ (0 ≤ tick ∧ tick ≤ 2000) := by
  unfold checkAt at h
  by_cases hg : m.good = true
  · rw [if_pos hg] at h
    by_cases h2 : (within place 0 (m.places - 1) && within tick 0 2000) = true
    · have : within place 0 (m.places - 1) = true ∧ within tick 0 2000 = true := by simpa using h2
      exact ⟨hg, within_true.1 this.1, within_true.1 this.2⟩
    · rw [if_neg h2] at h; exact absurd h (by decide)
  · rw [if_neg hg] at h; exact absurd h (by decide)
end Go.Proofs.YtmmimbcfgobnaaaGreat
