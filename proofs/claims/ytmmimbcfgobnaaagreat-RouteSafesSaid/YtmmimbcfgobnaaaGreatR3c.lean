/- route.newNet: its errors. -/
import Derived.Test.YtmmimbcfgobnaaaGreatR3
set_option linter.unusedVariables false
set_option linter.unusedSimpArgs false
namespace Go.Proofs.YtmmimbcfgobnaaaGreat
open Go.RowKit
set_option linter.unusedVariables false
set_option linter.unusedSimpArgs false
attribute [local go_sem] stored_match isSome_setCell

theorem Net.check_met {m : Met} {xs : List Leg} (h : m.good = false) : (Net.mk m xs).check = 40 := by
  unfold Net.check; rw [if_neg (by simp [h])]
theorem Net.check_ok {m : Met} {xs : List Leg} (h : m.good = true) (h1 : xs.length ≤ 20) (h2 : xs.any (legBad m.places) = false) : (Net.mk m xs).check = 0 := by
  unfold Net.check
  rw [any_legBad] at h2
  rw [if_pos h, if_pos]
  simp only [Bool.and_eq_true, decide_eq_true_eq]
  exact ⟨h1, by simpa using h2⟩
theorem Net.check_many {m : Met} {xs : List Leg} (h : m.good = true) (h1 : 20 < xs.length) : (Net.mk m xs).check = 50 := by
  unfold Net.check
  rw [if_pos h, if_neg]
  simp only [Bool.and_eq_true, decide_eq_true_eq]
  omega
theorem Net.check_leg {m : Met} {xs : List Leg} (h : m.good = true) (h2 : xs.any (legBad m.places) = true) : (Net.mk m xs).check = 50 := by
  unfold Net.check
  rw [any_legBad] at h2
  rw [if_pos h, if_neg]
  simp only [Bool.and_eq_true, decide_eq_true_eq]
  rintro ⟨_, h3⟩
  simp [h3] at h2
set_option maxRecDepth 100000 in
set_option maxHeartbeats 2000000 in
theorem newNet_nil_bad (m : Met) (xs : List Leg) (AF AS : Option Addr) (nF cF nS cS : Nat) (A : Option Addr) (nx c : Nat) (w : World) (hm : MetIn w m AF nF AS nS) (hx : Rows 3 Leg.enc w A nx xs) (hb : (Net.mk m xs).check ≠ 0) :
    Calls Tryz.prog 63 #[m.val (.slice AF nF cF) (.slice AS nS cS), .pointer none, .slice A nx c] w fun e w' => e = .returned (.tuple #[.pointer none, .int .i64 (Net.mk m xs).check]) ∧ Ext w w' := by
  obtain rfl := hx.len
  simp only [Met.val]
  rcases Bool.eq_false_or_eq_true m.good with hg | hg
  · have hck : m.check = 0 := check_good.2 hg
    obtain ⟨⟨p1, p8⟩, -⟩ := Met.good_parts hg
    by_cases hlen : xs.length ≤ 20
    · rcases Bool.eq_false_or_eq_true (xs.any (legBad m.places)) with hbad | hbad
      · have hR := Lib.hid (Net.check_leg hg hbad)
        go_enter Tryz.func63, Tryz.ntmps63
        go_wp2_with fail
        refine name_world (R := fun W => Calls _ _ _ W _) fun W0 hx0 hc0 hf0 hz0 => ?_
        simp at hz0
        go_wp2_with (first | (go_at_call 95; refine (check_95 m AF AS nF cF nS cS _ (hm.ext (by with_reducible (repeat first | assumption | exact Ext.refl _ | refine Ext.set ?_ (by omega) _ | refine Ext.alloc ?_ _ | refine Ext.drew ?_ | refine Ext.drewN ?_ _ | refine Ext.trans ?_ (by assumption))))).mono ?_; rintro e1 w1 ⟨rfl, hb1⟩; have hx1 : Ext W0 w1 := (by with_reducible (repeat first | assumption | exact Ext.refl _ | refine Ext.set ?_ (by omega) _ | refine Ext.alloc ?_ _ | refine Ext.drew ?_ | refine Ext.drewN ?_ _ | refine Ext.trans ?_ (by assumption))); obtain ⟨hc1, hf1, hz1⟩ := hx1.cells) | (go_at_call 98; refine (contains_98 m.places w.heap.size _ p1 p8 xs A _ c _ (hx.ext (by with_reducible (repeat first | assumption | exact Ext.refl _ | refine Ext.set ?_ (by omega) _ | refine Ext.alloc ?_ _ | refine Ext.drew ?_ | refine Ext.drewN ?_ _ | refine Ext.trans ?_ (by assumption)))) (by go_simp) (by go_simp) (by go_simp) (by go_simp)).mono ?_; rintro e1 w1 ⟨rfl, hb1⟩; have hx1 : Ext W0 w1 := (by with_reducible (repeat first | assumption | exact Ext.refl _ | refine Ext.set ?_ (by omega) _ | refine Ext.alloc ?_ _ | refine Ext.drew ?_ | refine Ext.drewN ?_ _ | refine Ext.trans ?_ (by assumption))); obtain ⟨hc1, hf1, hz1⟩ := hx1.cells))
        go_ret2
        exact ⟨by rw [hR.out]; rfl, (by with_reducible (repeat first | assumption | exact Ext.refl _ | refine Ext.set ?_ (by omega) _ | refine Ext.alloc ?_ _ | refine Ext.drew ?_ | refine Ext.drewN ?_ _ | refine Ext.trans ?_ (by assumption)))⟩
      · exact absurd (Net.check_ok hg hlen hbad) hb
    · have hR := Lib.hid (Net.check_many (xs := xs) hg (by omega))
      have h20 : (20 : Int) < (xs.length : Int) := by omega
      clear hlen
      go_enter Tryz.func63, Tryz.ntmps63
      go_wp2_with fail
      refine name_world (R := fun W => Calls _ _ _ W _) fun W0 hx0 hc0 hf0 hz0 => ?_
      simp at hz0
      go_wp2_with (go_at_call 95; refine (check_95 m AF AS nF cF nS cS _ (hm.ext (by with_reducible (repeat first | assumption | exact Ext.refl _ | refine Ext.set ?_ (by omega) _ | refine Ext.alloc ?_ _ | refine Ext.drew ?_ | refine Ext.drewN ?_ _ | refine Ext.trans ?_ (by assumption))))).mono ?_; rintro e1 w1 ⟨rfl, hb1⟩; have hx1 : Ext W0 w1 := (by with_reducible (repeat first | assumption | exact Ext.refl _ | refine Ext.set ?_ (by omega) _ | refine Ext.alloc ?_ _ | refine Ext.drew ?_ | refine Ext.drewN ?_ _ | refine Ext.trans ?_ (by assumption))); obtain ⟨hc1, hf1, hz1⟩ := hx1.cells)
      go_ret2
      exact ⟨by rw [hR.out]; rfl, (by with_reducible (repeat first | assumption | exact Ext.refl _ | refine Ext.set ?_ (by omega) _ | refine Ext.alloc ?_ _ | refine Ext.drew ?_ | refine Ext.drewN ?_ _ | refine Ext.trans ?_ (by assumption)))⟩
  · have hck : m.check = 40 := by unfold Met.check; simp [hg]
    have hR := Lib.hid (Net.check_met (xs := xs) hg)
    go_enter Tryz.func63, Tryz.ntmps63
    go_wp2_with fail
    refine name_world (R := fun W => Calls _ _ _ W _) fun W0 hx0 hc0 hf0 hz0 => ?_
    simp at hz0
    go_wp2_with (go_at_call 95; refine (check_95 m AF AS nF cF nS cS _ (hm.ext (by with_reducible (repeat first | assumption | exact Ext.refl _ | refine Ext.set ?_ (by omega) _ | refine Ext.alloc ?_ _ | refine Ext.drew ?_ | refine Ext.drewN ?_ _ | refine Ext.trans ?_ (by assumption))))).mono ?_; rintro e1 w1 ⟨rfl, hb1⟩; have hx1 : Ext W0 w1 := (by with_reducible (repeat first | assumption | exact Ext.refl _ | refine Ext.set ?_ (by omega) _ | refine Ext.alloc ?_ _ | refine Ext.drew ?_ | refine Ext.drewN ?_ _ | refine Ext.trans ?_ (by assumption))); obtain ⟨hc1, hf1, hz1⟩ := hx1.cells)
    go_ret2
    exact ⟨by rw [hR.out]; rfl, (by with_reducible (repeat first | assumption | exact Ext.refl _ | refine Ext.set ?_ (by omega) _ | refine Ext.alloc ?_ _ | refine Ext.drew ?_ | refine Ext.drewN ?_ _ | refine Ext.trans ?_ (by assumption)))⟩
theorem Net.checkL_min {m : Met} {xs : List Leg} {l : Minima} (h : m.good = true) (hl : l.good = true) : (Net.mk m xs).checkL (some l) = (Net.mk m xs).check := by
  have h1 : checkMinima m l = 0 := (checkMinima_of m l).2 ⟨h, hl⟩
  simp only [Net.checkL]
  rw [if_pos h1]
theorem Net.checkL_bad {m : Met} {xs : List Leg} {l : Minima} (h : m.good = true) (hl : l.good = false) : (Net.mk m xs).checkL (some l) = 41 := by
  have h1 : checkMinima m l = 41 := by unfold checkMinima; rw [if_pos h, if_neg (by simp [hl])]
  simp only [Net.checkL]
  rw [if_neg (by omega), h1]
theorem Net.checkL_met {m : Met} {xs : List Leg} {l : Minima} (h : m.good = false) : (Net.mk m xs).checkL (some l) = 40 := by
  have h1 : checkMinima m l = 40 := by unfold checkMinima; rw [if_neg (by simp [h])]
  simp only [Net.checkL]
  rw [if_neg (by omega), h1]
set_option maxRecDepth 100000 in
set_option maxHeartbeats 2000000 in
theorem newNet_min_bad (m : Met) (xs : List Leg) (AF AS : Option Addr) (nF cF nS cS : Nat) (A : Option Addr) (nx c : Nat) (w : World) (hm : MetIn w m AF nF AS nS) (hx : Rows 3 Leg.enc w A nx xs) (l : Minima) (bl : Nat) (hl : MinAt w bl l) (hf12 : m.fc12) (hs12 : m.si12) (hb : (Net.mk m xs).checkL (some l) ≠ 0) :
    Calls Tryz.prog 63 #[m.val (.slice AF nF cF) (.slice AS nS cS), .pointer (some ⟨bl, 0, none⟩), .slice A nx c] w fun e w' => e = .returned (.tuple #[.pointer none, .int .i64 ((Net.mk m xs).checkL (some l))]) ∧ Ext w w' := by
  obtain rfl := hx.len
  obtain ⟨hl0, hl1, hl2, hl3, hl4, hl5⟩ := hl
  rcases Bool.eq_false_or_eq_true m.good with hg | hg
  · have hck : m.check = 0 := check_good.2 hg
    have hpp := (Met.good_parts hg).1
    obtain ⟨p1, p8⟩ := hpp
    rcases Bool.eq_false_or_eq_true l.good with hlg | hlg
    · have hb' := hb
      rw [Net.checkL_min hg hlg] at hb' ⊢
      have ho2 : (m.opened l 0 0).2 = 0 := opened_zero hg hlg
      by_cases hlen : xs.length ≤ 20
      · rcases Bool.eq_false_or_eq_true (xs.any (legBad m.places)) with hbad | hbad
        · have hR := Lib.hid (Net.check_leg hg hbad)
          simp only [Met.val]
          go_enter Tryz.func63, Tryz.ntmps63
          go_wp2_with fail
          refine name_world (R := fun W => Calls _ _ _ W _) fun W0 hx0 hc0 hf0 hz0 => ?_
          simp at hz0
          have p0_ : W0.cell? ⟨w.heap.size, 0, none⟩ = some (.int .i64 m.places) := by go_simp
          have p1_ : W0.cell? ⟨w.heap.size, 1, none⟩ = some (.int .i64 m.any.w.lo) := by go_simp
          have p2 : W0.cell? ⟨w.heap.size, 2, none⟩ = some (.int .i64 m.any.w.hi) := by go_simp
          have p3 : W0.cell? ⟨w.heap.size, 3, none⟩ = some (.int .i64 m.any.s.lo) := by go_simp
          have p4 : W0.cell? ⟨w.heap.size, 4, none⟩ = some (.int .i64 m.any.s.hi) := by go_simp
          have p5 : W0.cell? ⟨w.heap.size, 5, none⟩ = some (.int .i64 m.any.c.lo) := by go_simp
          have p6 : W0.cell? ⟨w.heap.size, 6, none⟩ = some (.int .i64 m.any.c.hi) := by go_simp
          have p7 : W0.cell? ⟨w.heap.size, 7, none⟩ = some (.bool m.any.ice) := by go_simp
          have p8_ : W0.cell? ⟨w.heap.size, 8, none⟩ = some (.bool m.any.storm) := by go_simp
          have p9 : W0.cell? ⟨w.heap.size, 9, none⟩ = some (.int .i64 m.wind) := by go_simp
          have p10 : W0.cell? ⟨w.heap.size, 10, none⟩ = some (.int .i64 m.see) := by go_simp
          have p11 : W0.cell? ⟨w.heap.size, 11, none⟩ = some (.int .i64 m.ceil) := by go_simp
          have p12 : W0.cell? ⟨w.heap.size, 12, none⟩ = some (.slice AF nF cF) := by go_simp
          have p13 : W0.cell? ⟨w.heap.size, 13, none⟩ = some (.slice AS nS cS) := by go_simp
          have e00 : w.heap.size < W0.heap.size := by omega
          have s0 : W0.cell? ⟨bl, 0, none⟩ = some (.int .i64 l.wind) := (hx0.cells.1 _ _ (by simp; omega)).trans (by go_simp)
          have s1 : W0.cell? ⟨bl, 1, none⟩ = some (.int .i64 l.see) := (hx0.cells.1 _ _ (by simp; omega)).trans (by go_simp)
          have s2 : W0.cell? ⟨bl, 2, none⟩ = some (.int .i64 l.ceil) := (hx0.cells.1 _ _ (by simp; omega)).trans (by go_simp)
          have s3 : W0.cell? ⟨bl, 3, none⟩ = some (.bool l.ice) := (hx0.cells.1 _ _ (by simp; omega)).trans (by go_simp)
          have s4 : W0.cell? ⟨bl, 4, none⟩ = some (.bool l.storm) := (hx0.cells.1 _ _ (by simp; omega)).trans (by go_simp)
          have e01 : bl < W0.heap.size := by omega
          clear hc0 hf0 hz0
          go_wp2_with (go_at_call 95; refine (check_95 m AF AS nF cF nS cS _ (hm.ext (by with_reducible (repeat first | assumption | exact Ext.refl _ | refine Ext.set ?_ (by omega) _ | refine Ext.alloc ?_ _ | refine Ext.drew ?_ | refine Ext.drewN ?_ _ | refine Ext.trans ?_ (by assumption))))).mono ?_; rintro e1 w1 ⟨rfl, hb1⟩; have hx1 : Ext W0 w1 := (by with_reducible (repeat first | assumption | exact Ext.refl _ | refine Ext.set ?_ (by omega) _ | refine Ext.alloc ?_ _ | refine Ext.drew ?_ | refine Ext.drewN ?_ _ | refine Ext.trans ?_ (by assumption))); obtain ⟨hc1, hf1, hz1⟩ := hx1.cells)
          clear hz1 hf1
          go_region_held3 (fun w' => HoldsAll W0 w') ((with_reducible ((repeat refine HoldsAll.drew ?_); first | (first | assumption | exact HoldsAll.refl _ | exact HoldsAll.of_drew (by assumption)) | (refine HoldsAll.ext ?_ (by assumption); first | assumption | exact HoldsAll.refl _ | exact HoldsAll.of_drew (by assumption)) | (refine HoldsAll.alloc ?_ _; first | assumption | exact HoldsAll.refl _ | exact HoldsAll.of_drew (by assumption)) | exact HoldsAll.realloc (by first | assumption | exact HoldsAll.refl _ | exact HoldsAll.of_drew (by assumption)) (by omega) | ((repeat first | refine HoldsAll.fresh ?_ (by omega) _); first | assumption | exact HoldsAll.refl _ | exact HoldsAll.of_drew (by assumption))))) (first | (go_at_call 96; refine (Open_96 m l 0 0 AF AS nF cF nS cS _ (hm.ext (by with_reducible (repeat first | assumption | exact Ext.refl _ | refine Ext.set ?_ (by omega) _ | refine Ext.alloc ?_ _ | refine Ext.drew ?_ | refine Ext.drewN ?_ _ | refine Ext.trans ?_ (by assumption)))) hf12 hs12).mono ?_; rintro e1 w1 ⟨rfl, hb1⟩; have hx1 : Ext W0 w1 := (by with_reducible (repeat first | assumption | exact Ext.refl _ | refine Ext.set ?_ (by omega) _ | refine Ext.alloc ?_ _ | refine Ext.drew ?_ | refine Ext.drewN ?_ _ | refine Ext.trans ?_ (by assumption))); obtain ⟨hc1, hf1, hz1⟩ := hx1.cells))
          go_wp2_with (go_at_call 98; refine (contains_98 m.places w.heap.size _ p1 p8 xs A _ c _ (hx.ext (by with_reducible (repeat first | assumption | exact Ext.refl _ | refine Ext.set ?_ (by omega) _ | refine Ext.alloc ?_ _ | refine Ext.drew ?_ | refine Ext.drewN ?_ _ | refine Ext.trans ?_ (by assumption)))) (by go_simp) (by go_simp) (by go_simp) (by go_simp)).mono ?_; rintro e1 w1 ⟨rfl, hb1⟩; have hx1 : Ext W0 w1 := (by with_reducible (repeat first | assumption | exact Ext.refl _ | refine Ext.set ?_ (by omega) _ | refine Ext.alloc ?_ _ | refine Ext.drew ?_ | refine Ext.drewN ?_ _ | refine Ext.trans ?_ (by assumption))); obtain ⟨hc1, hf1, hz1⟩ := hx1.cells)
          go_ret2
          exact ⟨by rw [hR.out]; rfl, (by with_reducible (repeat first | assumption | exact Ext.refl _ | refine Ext.set ?_ (by omega) _ | refine Ext.alloc ?_ _ | refine Ext.drew ?_ | refine Ext.drewN ?_ _ | refine Ext.trans ?_ (by assumption)))⟩
        · exact absurd (Net.check_ok hg hlen hbad) hb'
      · have hR := Lib.hid (Net.check_many (xs := xs) hg (by omega))
        have h20 : (20 : Int) < (xs.length : Int) := by omega
        clear hlen
        simp only [Met.val]
        go_enter Tryz.func63, Tryz.ntmps63
        go_wp2_with fail
        refine name_world (R := fun W => Calls _ _ _ W _) fun W0 hx0 hc0 hf0 hz0 => ?_
        simp at hz0
        have p0_ : W0.cell? ⟨w.heap.size, 0, none⟩ = some (.int .i64 m.places) := by go_simp
        have p1_ : W0.cell? ⟨w.heap.size, 1, none⟩ = some (.int .i64 m.any.w.lo) := by go_simp
        have p2 : W0.cell? ⟨w.heap.size, 2, none⟩ = some (.int .i64 m.any.w.hi) := by go_simp
        have p3 : W0.cell? ⟨w.heap.size, 3, none⟩ = some (.int .i64 m.any.s.lo) := by go_simp
        have p4 : W0.cell? ⟨w.heap.size, 4, none⟩ = some (.int .i64 m.any.s.hi) := by go_simp
        have p5 : W0.cell? ⟨w.heap.size, 5, none⟩ = some (.int .i64 m.any.c.lo) := by go_simp
        have p6 : W0.cell? ⟨w.heap.size, 6, none⟩ = some (.int .i64 m.any.c.hi) := by go_simp
        have p7 : W0.cell? ⟨w.heap.size, 7, none⟩ = some (.bool m.any.ice) := by go_simp
        have p8_ : W0.cell? ⟨w.heap.size, 8, none⟩ = some (.bool m.any.storm) := by go_simp
        have p9 : W0.cell? ⟨w.heap.size, 9, none⟩ = some (.int .i64 m.wind) := by go_simp
        have p10 : W0.cell? ⟨w.heap.size, 10, none⟩ = some (.int .i64 m.see) := by go_simp
        have p11 : W0.cell? ⟨w.heap.size, 11, none⟩ = some (.int .i64 m.ceil) := by go_simp
        have p12 : W0.cell? ⟨w.heap.size, 12, none⟩ = some (.slice AF nF cF) := by go_simp
        have p13 : W0.cell? ⟨w.heap.size, 13, none⟩ = some (.slice AS nS cS) := by go_simp
        have e00 : w.heap.size < W0.heap.size := by omega
        have s0 : W0.cell? ⟨bl, 0, none⟩ = some (.int .i64 l.wind) := (hx0.cells.1 _ _ (by simp; omega)).trans (by go_simp)
        have s1 : W0.cell? ⟨bl, 1, none⟩ = some (.int .i64 l.see) := (hx0.cells.1 _ _ (by simp; omega)).trans (by go_simp)
        have s2 : W0.cell? ⟨bl, 2, none⟩ = some (.int .i64 l.ceil) := (hx0.cells.1 _ _ (by simp; omega)).trans (by go_simp)
        have s3 : W0.cell? ⟨bl, 3, none⟩ = some (.bool l.ice) := (hx0.cells.1 _ _ (by simp; omega)).trans (by go_simp)
        have s4 : W0.cell? ⟨bl, 4, none⟩ = some (.bool l.storm) := (hx0.cells.1 _ _ (by simp; omega)).trans (by go_simp)
        have e01 : bl < W0.heap.size := by omega
        clear hc0 hf0 hz0
        go_wp2_with (go_at_call 95; refine (check_95 m AF AS nF cF nS cS _ (hm.ext (by with_reducible (repeat first | assumption | exact Ext.refl _ | refine Ext.set ?_ (by omega) _ | refine Ext.alloc ?_ _ | refine Ext.drew ?_ | refine Ext.drewN ?_ _ | refine Ext.trans ?_ (by assumption))))).mono ?_; rintro e1 w1 ⟨rfl, hb1⟩; have hx1 : Ext W0 w1 := (by with_reducible (repeat first | assumption | exact Ext.refl _ | refine Ext.set ?_ (by omega) _ | refine Ext.alloc ?_ _ | refine Ext.drew ?_ | refine Ext.drewN ?_ _ | refine Ext.trans ?_ (by assumption))); obtain ⟨hc1, hf1, hz1⟩ := hx1.cells)
        clear hz1 hf1
        go_region_held3 (fun w' => HoldsAll W0 w') ((with_reducible ((repeat refine HoldsAll.drew ?_); first | (first | assumption | exact HoldsAll.refl _ | exact HoldsAll.of_drew (by assumption)) | (refine HoldsAll.ext ?_ (by assumption); first | assumption | exact HoldsAll.refl _ | exact HoldsAll.of_drew (by assumption)) | (refine HoldsAll.alloc ?_ _; first | assumption | exact HoldsAll.refl _ | exact HoldsAll.of_drew (by assumption)) | exact HoldsAll.realloc (by first | assumption | exact HoldsAll.refl _ | exact HoldsAll.of_drew (by assumption)) (by omega) | ((repeat first | refine HoldsAll.fresh ?_ (by omega) _); first | assumption | exact HoldsAll.refl _ | exact HoldsAll.of_drew (by assumption))))) (first | (go_at_call 96; refine (Open_96 m l 0 0 AF AS nF cF nS cS _ (hm.ext (by with_reducible (repeat first | assumption | exact Ext.refl _ | refine Ext.set ?_ (by omega) _ | refine Ext.alloc ?_ _ | refine Ext.drew ?_ | refine Ext.drewN ?_ _ | refine Ext.trans ?_ (by assumption)))) hf12 hs12).mono ?_; rintro e1 w1 ⟨rfl, hb1⟩; have hx1 : Ext W0 w1 := (by with_reducible (repeat first | assumption | exact Ext.refl _ | refine Ext.set ?_ (by omega) _ | refine Ext.alloc ?_ _ | refine Ext.drew ?_ | refine Ext.drewN ?_ _ | refine Ext.trans ?_ (by assumption))); obtain ⟨hc1, hf1, hz1⟩ := hx1.cells))
        go_wp2
        go_ret2
        exact ⟨by rw [hR.out]; rfl, (by with_reducible (repeat first | assumption | exact Ext.refl _ | refine Ext.set ?_ (by omega) _ | refine Ext.alloc ?_ _ | refine Ext.drew ?_ | refine Ext.drewN ?_ _ | refine Ext.trans ?_ (by assumption)))⟩
    · have ho2 : (m.opened l 0 0).2 = 41 := opened_bad hg hlg
      have hR := Lib.hid (Net.checkL_bad (xs := xs) hg hlg)
      simp only [Met.val]
      go_enter Tryz.func63, Tryz.ntmps63
      go_wp2_with fail
      refine name_world (R := fun W => Calls _ _ _ W _) fun W0 hx0 hc0 hf0 hz0 => ?_
      simp at hz0
      have p0_ : W0.cell? ⟨w.heap.size, 0, none⟩ = some (.int .i64 m.places) := by go_simp
      have p1_ : W0.cell? ⟨w.heap.size, 1, none⟩ = some (.int .i64 m.any.w.lo) := by go_simp
      have p2 : W0.cell? ⟨w.heap.size, 2, none⟩ = some (.int .i64 m.any.w.hi) := by go_simp
      have p3 : W0.cell? ⟨w.heap.size, 3, none⟩ = some (.int .i64 m.any.s.lo) := by go_simp
      have p4 : W0.cell? ⟨w.heap.size, 4, none⟩ = some (.int .i64 m.any.s.hi) := by go_simp
      have p5 : W0.cell? ⟨w.heap.size, 5, none⟩ = some (.int .i64 m.any.c.lo) := by go_simp
      have p6 : W0.cell? ⟨w.heap.size, 6, none⟩ = some (.int .i64 m.any.c.hi) := by go_simp
      have p7 : W0.cell? ⟨w.heap.size, 7, none⟩ = some (.bool m.any.ice) := by go_simp
      have p8_ : W0.cell? ⟨w.heap.size, 8, none⟩ = some (.bool m.any.storm) := by go_simp
      have p9 : W0.cell? ⟨w.heap.size, 9, none⟩ = some (.int .i64 m.wind) := by go_simp
      have p10 : W0.cell? ⟨w.heap.size, 10, none⟩ = some (.int .i64 m.see) := by go_simp
      have p11 : W0.cell? ⟨w.heap.size, 11, none⟩ = some (.int .i64 m.ceil) := by go_simp
      have p12 : W0.cell? ⟨w.heap.size, 12, none⟩ = some (.slice AF nF cF) := by go_simp
      have p13 : W0.cell? ⟨w.heap.size, 13, none⟩ = some (.slice AS nS cS) := by go_simp
      have e00 : w.heap.size < W0.heap.size := by omega
      have s0 : W0.cell? ⟨bl, 0, none⟩ = some (.int .i64 l.wind) := (hx0.cells.1 _ _ (by simp; omega)).trans (by go_simp)
      have s1 : W0.cell? ⟨bl, 1, none⟩ = some (.int .i64 l.see) := (hx0.cells.1 _ _ (by simp; omega)).trans (by go_simp)
      have s2 : W0.cell? ⟨bl, 2, none⟩ = some (.int .i64 l.ceil) := (hx0.cells.1 _ _ (by simp; omega)).trans (by go_simp)
      have s3 : W0.cell? ⟨bl, 3, none⟩ = some (.bool l.ice) := (hx0.cells.1 _ _ (by simp; omega)).trans (by go_simp)
      have s4 : W0.cell? ⟨bl, 4, none⟩ = some (.bool l.storm) := (hx0.cells.1 _ _ (by simp; omega)).trans (by go_simp)
      have e01 : bl < W0.heap.size := by omega
      clear hc0 hf0 hz0
      go_wp2_with (go_at_call 95; refine (check_95 m AF AS nF cF nS cS _ (hm.ext (by with_reducible (repeat first | assumption | exact Ext.refl _ | refine Ext.set ?_ (by omega) _ | refine Ext.alloc ?_ _ | refine Ext.drew ?_ | refine Ext.drewN ?_ _ | refine Ext.trans ?_ (by assumption))))).mono ?_; rintro e1 w1 ⟨rfl, hb1⟩; have hx1 : Ext W0 w1 := (by with_reducible (repeat first | assumption | exact Ext.refl _ | refine Ext.set ?_ (by omega) _ | refine Ext.alloc ?_ _ | refine Ext.drew ?_ | refine Ext.drewN ?_ _ | refine Ext.trans ?_ (by assumption))); obtain ⟨hc1, hf1, hz1⟩ := hx1.cells)
      clear hz1 hf1
      go_region_held3 (fun w' => HoldsAll W0 w') ((with_reducible ((repeat refine HoldsAll.drew ?_); first | (first | assumption | exact HoldsAll.refl _ | exact HoldsAll.of_drew (by assumption)) | (refine HoldsAll.ext ?_ (by assumption); first | assumption | exact HoldsAll.refl _ | exact HoldsAll.of_drew (by assumption)) | (refine HoldsAll.alloc ?_ _; first | assumption | exact HoldsAll.refl _ | exact HoldsAll.of_drew (by assumption)) | exact HoldsAll.realloc (by first | assumption | exact HoldsAll.refl _ | exact HoldsAll.of_drew (by assumption)) (by omega) | ((repeat first | refine HoldsAll.fresh ?_ (by omega) _); first | assumption | exact HoldsAll.refl _ | exact HoldsAll.of_drew (by assumption))))) (first | (go_at_call 96; refine (Open_96 m l 0 0 AF AS nF cF nS cS _ (hm.ext (by with_reducible (repeat first | assumption | exact Ext.refl _ | refine Ext.set ?_ (by omega) _ | refine Ext.alloc ?_ _ | refine Ext.drew ?_ | refine Ext.drewN ?_ _ | refine Ext.trans ?_ (by assumption)))) hf12 hs12).mono ?_; rintro e1 w1 ⟨rfl, hb1⟩; have hx1 : Ext W0 w1 := (by with_reducible (repeat first | assumption | exact Ext.refl _ | refine Ext.set ?_ (by omega) _ | refine Ext.alloc ?_ _ | refine Ext.drew ?_ | refine Ext.drewN ?_ _ | refine Ext.trans ?_ (by assumption))); obtain ⟨hc1, hf1, hz1⟩ := hx1.cells))
      go_wp2
      go_ret2
      exact ⟨by rw [hR.out]; rfl, (by with_reducible (repeat first | assumption | exact Ext.refl _ | refine Ext.set ?_ (by omega) _ | refine Ext.alloc ?_ _ | refine Ext.drew ?_ | refine Ext.drewN ?_ _ | refine Ext.trans ?_ (by assumption)))⟩
  · have hck : m.check = 40 := by unfold Met.check; simp [hg]
    have hR := Lib.hid (Net.checkL_met (xs := xs) (l := l) hg)
    simp only [Met.val]
    go_enter Tryz.func63, Tryz.ntmps63
    go_wp2_with fail
    refine name_world (R := fun W => Calls _ _ _ W _) fun W0 hx0 hc0 hf0 hz0 => ?_
    simp at hz0
    go_wp2_with (go_at_call 95; refine (check_95 m AF AS nF cF nS cS _ (hm.ext (by with_reducible (repeat first | assumption | exact Ext.refl _ | refine Ext.set ?_ (by omega) _ | refine Ext.alloc ?_ _ | refine Ext.drew ?_ | refine Ext.drewN ?_ _ | refine Ext.trans ?_ (by assumption))))).mono ?_; rintro e1 w1 ⟨rfl, hb1⟩; have hx1 : Ext W0 w1 := (by with_reducible (repeat first | assumption | exact Ext.refl _ | refine Ext.set ?_ (by omega) _ | refine Ext.alloc ?_ _ | refine Ext.drew ?_ | refine Ext.drewN ?_ _ | refine Ext.trans ?_ (by assumption))); obtain ⟨hc1, hf1, hz1⟩ := hx1.cells)
    go_ret2
    exact ⟨by rw [hR.out]; rfl, (by with_reducible (repeat first | assumption | exact Ext.refl _ | refine Ext.set ?_ (by omega) _ | refine Ext.alloc ?_ _ | refine Ext.drew ?_ | refine Ext.drewN ?_ _ | refine Ext.trans ?_ (by assumption)))⟩
end Go.Proofs.YtmmimbcfgobnaaaGreat
