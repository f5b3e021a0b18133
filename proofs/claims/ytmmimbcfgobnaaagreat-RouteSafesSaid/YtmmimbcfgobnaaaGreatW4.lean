/- weather.Check, minima, checkAt, checkOpen. -/
import Derived.Test.YtmmimbcfgobnaaaGreatW3
set_option linter.unusedVariables false
set_option linter.unusedSimpArgs false
namespace Go.Proofs.YtmmimbcfgobnaaaGreat
open Go.RowKit
set_option linter.unusedVariables false
set_option linter.unusedSimpArgs false
attribute [local go_sem] stored_match isSome_setCell

theorem any_fcBad (p : Int) (xs : List Fc) : xs.any (fcBad p) = !xs.all (Fc.ok p) := by
  rw [List.all_eq_not_any_not, Bool.not_not]; congr 1; funext f; exact fcBad_ok p f
theorem any_siBad (p : Int) (xs : List Sight) : xs.any (siBad p) = !xs.all (Sight.ok p) := by
  rw [List.all_eq_not_any_not, Bool.not_not]; congr 1; funext f; exact siBad_ok p f
theorem any_beyond (a b c : Int) : [a, b, c].any (fun x => !within x 0 20000) = !(within a 0 20000 && within b 0 20000 && within c 0 20000) := by
  simp [List.any, Bool.not_and, Bool.or_assoc]
theorem check_eq (m : Met) : m.check = if (within m.places 1 8 && m.any.ok && !([m.wind, m.see, m.ceil].any fun x => !within x 0 20000) && decide (m.fcs.length ≤ 40) && !(m.fcs.any (fcBad m.places)) && decide (m.sights.length ≤ 20) && !(m.sights.any (siBad m.places))) = true then 0 else 40 := by
  unfold Met.check Met.good
  rw [any_beyond, any_fcBad, any_siBad]
  simp only [Bool.not_not, Bool.and_assoc]
theorem Rows.ints3 {w : World} {b : Nat} {x y z : Int} (hb : b < w.heap.size) (h0 : w.cell? ⟨b, 0, none⟩ = some (.int .i64 x)) (h1 : w.cell? ⟨b, 1, none⟩ = some (.int .i64 y)) (h2 : w.cell? ⟨b, 2, none⟩ = some (.int .i64 z)) :
    Rows 1 encInt w (some ⟨b, 0, none⟩) 3 [x, y, z] := ⟨rfl, by omega, fun _ => ⟨b, 0, rfl, hb, fun j hj i hi => by
    obtain rfl : i = 0 := by omega
    have hj0 : j = 0 ∨ j = 1 ∨ j = 2 := by simp at hj; omega
    rcases hj0 with rfl | rfl | rfl
    · exact h0
    · exact h1
    · exact h2⟩⟩

set_option maxRecDepth 100000 in
set_option maxHeartbeats 2000000 in
theorem check_95 (m : Met) (AF AS : Option Addr) (nF cF nS cS : Nat) (w : World) (hm : MetIn w m AF nF AS nS) :
    Calls Tryz.prog 95 #[m.val (.slice AF nF cF) (.slice AS nS cS)] w fun e w' => e = .returned (.int .i64 m.check) ∧ Ext w w' := by
  obtain ⟨hF, hS⟩ := hm
  obtain rfl := hF.len
  obtain rfl := hS.len
  have lF := hF.small
  have lS := hS.small
  simp only [Met.val]
  by_cases hp : within m.places 1 8 = true
  · have hp12 := within_true.1 hp
    obtain ⟨h1, h8⟩ := hp12
    go_enter Tryz.func95, Tryz.ntmps95
    go_wp2_with (go_at_call 105; refine (within_105 _ _ _ _).mono ?_; rintro e1 w1 ⟨rfl, rfl⟩)
    refine name_world (R := fun W => Calls _ _ _ W _) fun W0 hx0 hc0 hf0 hz0 => ?_
    simp at hz0
    go_wp2_with (first | (go_at_call 123; refine (sky_123 m.any _).mono ?_; rintro e1 w1 ⟨rfl, hb1⟩; have hx1 : Ext W0 w1 := (by with_reducible (repeat first | assumption | exact Ext.refl _ | refine Ext.set ?_ (by omega) _ | refine Ext.alloc ?_ _ | refine Ext.drew ?_ | refine Ext.drewN ?_ _ | refine Ext.trans ?_ (by assumption))); obtain ⟨hc1, hf1, hz1⟩ := hx1.cells) | (go_at_call 127; refine (contains_127 [m.wind, m.see, m.ceil] _ _ _ _ (Rows.ints3 (by go_simp) (by go_simp) (by go_simp) (by go_simp))).mono ?_; rintro e1 w1 ⟨rfl, hb1⟩; have hx1 : Ext W0 w1 := (by with_reducible (repeat first | assumption | exact Ext.refl _ | refine Ext.set ?_ (by omega) _ | refine Ext.alloc ?_ _ | refine Ext.drew ?_ | refine Ext.drewN ?_ _ | refine Ext.trans ?_ (by assumption))); obtain ⟨hc1, hf1, hz1⟩ := hx1.cells) | (go_at_call 128; refine (contains_128 m.places w.heap.size _ _ h1 h8 m.fcs AF _ cF _ (hF.ext (by with_reducible (repeat first | assumption | exact Ext.refl _ | refine Ext.set ?_ (by omega) _ | refine Ext.alloc ?_ _ | refine Ext.drew ?_ | refine Ext.drewN ?_ _ | refine Ext.trans ?_ (by assumption)))) (by go_simp) (by go_simp) (by go_simp) (by go_simp) (by go_simp) (by go_simp)).mono ?_; rintro e1 w1 ⟨rfl, hb1⟩; have hx1 : Ext W0 w1 := (by with_reducible (repeat first | assumption | exact Ext.refl _ | refine Ext.set ?_ (by omega) _ | refine Ext.alloc ?_ _ | refine Ext.drew ?_ | refine Ext.drewN ?_ _ | refine Ext.trans ?_ (by assumption))); obtain ⟨hc1, hf1, hz1⟩ := hx1.cells) | (go_at_call 129; refine (contains_129 m.places w.heap.size _ _ h1 h8 m.sights AS _ cS _ (hS.ext (by with_reducible (repeat first | assumption | exact Ext.refl _ | refine Ext.set ?_ (by omega) _ | refine Ext.alloc ?_ _ | refine Ext.drew ?_ | refine Ext.drewN ?_ _ | refine Ext.trans ?_ (by assumption)))) (by go_simp) (by go_simp) (by go_simp) (by go_simp) (by go_simp) (by go_simp)).mono ?_; rintro e1 w1 ⟨rfl, hb1⟩; have hx1 : Ext W0 w1 := (by with_reducible (repeat first | assumption | exact Ext.refl _ | refine Ext.set ?_ (by omega) _ | refine Ext.alloc ?_ _ | refine Ext.drew ?_ | refine Ext.drewN ?_ _ | refine Ext.trans ?_ (by assumption))); obtain ⟨hc1, hf1, hz1⟩ := hx1.cells))
    all_goals
      go_ret
      exact ⟨ret_int (by (try simp only [Bool.not_eq_true', Bool.not_eq_false'] at *); rw [check_eq]; first | (simp [*]; done) | (rw [if_neg (fun h => by simp only [Bool.and_eq_true, decide_eq_true_eq] at h; omega)]; done) | (clear hc0 hf0 hx0; simp_all; done) | (clear hc0 hf0 hx0; simp_all; omega) | (clear hc0 hf0 hx0; simp_all; intros; simp_all)), (by with_reducible (repeat first | assumption | exact Ext.refl _ | refine Ext.set ?_ (by omega) _ | refine Ext.alloc ?_ _ | refine Ext.drew ?_ | refine Ext.drewN ?_ _ | refine Ext.trans ?_ (by assumption)))⟩
  · have hp : within m.places 1 8 = false := by simpa using hp
    go_enter Tryz.func95, Tryz.ntmps95
    go_wp2_with (go_at_call 105; refine (within_105 _ _ _ _).mono ?_; rintro e1 w1 ⟨rfl, rfl⟩)
    all_goals
      go_ret
      exact ⟨by simp [Met.check, Met.good, *], (by with_reducible (repeat first | assumption | exact Ext.refl _ | refine Ext.set ?_ (by omega) _ | refine Ext.alloc ?_ _ | refine Ext.drew ?_ | refine Ext.drewN ?_ _ | refine Ext.trans ?_ (by assumption)))⟩

theorem check_of (m : Met) : m.check = 0 ∨ m.check = 40 := by unfold Met.check; split <;> simp
theorem check_good {m : Met} : m.check = 0 ↔ m.good = true := by unfold Met.check; split <;> simp [*]

set_option maxRecDepth 100000 in
set_option maxHeartbeats 2000000 in
theorem minima_147 (m : Met) (l : Minima) (AF AS : Option Addr) (nF cF nS cS : Nat) (w : World) (hm : MetIn w m AF nF AS nS) :
    Calls Tryz.prog 147 #[m.val (.slice AF nF cF) (.slice AS nS cS), l.val] w fun e w' => e = .returned (.int .i64 (checkMinima m l)) ∧ Ext w w' := by
  simp only [Met.val, Minima.val]
  rcases Bool.eq_false_or_eq_true m.good with hg | hg
  · have hck : m.check = 0 := check_good.2 hg
    go_enter Tryz.func147, Tryz.ntmps147
    go_wp2_with fail
    refine name_world (R := fun W => Calls _ _ _ W _) fun W0 hx0 hc0 hf0 hz0 => ?_
    simp at hz0
    go_wp2_with (first | (go_at_call 95; refine (check_95 m AF AS nF cF nS cS _ (hm.ext (by with_reducible (repeat first | assumption | exact Ext.refl _ | refine Ext.set ?_ (by omega) _ | refine Ext.alloc ?_ _ | refine Ext.drew ?_ | refine Ext.drewN ?_ _ | refine Ext.trans ?_ (by assumption))))).mono ?_; rintro e1 w1 ⟨rfl, hb1⟩; have hx1 : Ext W0 w1 := (by with_reducible (repeat first | assumption | exact Ext.refl _ | refine Ext.set ?_ (by omega) _ | refine Ext.alloc ?_ _ | refine Ext.drew ?_ | refine Ext.drewN ?_ _ | refine Ext.trans ?_ (by assumption))); obtain ⟨hc1, hf1, hz1⟩ := hx1.cells) | (go_at_call 105; refine (within_105 _ _ _ _).mono ?_; rintro e1 w1 ⟨rfl, rfl⟩))
    all_goals
      go_ret
      exact ⟨ret_int (by (try simp only [Bool.not_eq_true', Bool.not_eq_false'] at *); unfold checkMinima Minima.good; rw [if_pos hg]; simp [*]), (by with_reducible (repeat first | assumption | exact Ext.refl _ | refine Ext.set ?_ (by omega) _ | refine Ext.alloc ?_ _ | refine Ext.drew ?_ | refine Ext.drewN ?_ _ | refine Ext.trans ?_ (by assumption)))⟩
  · have hck : m.check = 40 := by unfold Met.check; simp [hg]
    go_enter Tryz.func147, Tryz.ntmps147
    go_wp2_with fail
    refine name_world (R := fun W => Calls _ _ _ W _) fun W0 hx0 hc0 hf0 hz0 => ?_
    simp at hz0
    go_wp2_with (first | (go_at_call 95; refine (check_95 m AF AS nF cF nS cS _ (hm.ext (by with_reducible (repeat first | assumption | exact Ext.refl _ | refine Ext.set ?_ (by omega) _ | refine Ext.alloc ?_ _ | refine Ext.drew ?_ | refine Ext.drewN ?_ _ | refine Ext.trans ?_ (by assumption))))).mono ?_; rintro e1 w1 ⟨rfl, hb1⟩; have hx1 : Ext W0 w1 := (by with_reducible (repeat first | assumption | exact Ext.refl _ | refine Ext.set ?_ (by omega) _ | refine Ext.alloc ?_ _ | refine Ext.drew ?_ | refine Ext.drewN ?_ _ | refine Ext.trans ?_ (by assumption))); obtain ⟨hc1, hf1, hz1⟩ := hx1.cells) | (go_at_call 105; refine (within_105 _ _ _ _).mono ?_; rintro e1 w1 ⟨rfl, rfl⟩))
    all_goals
      go_ret
      exact ⟨ret_int (by unfold checkMinima; simp [hg]), (by with_reducible (repeat first | assumption | exact Ext.refl _ | refine Ext.set ?_ (by omega) _ | refine Ext.alloc ?_ _ | refine Ext.drew ?_ | refine Ext.drewN ?_ _ | refine Ext.trans ?_ (by assumption)))⟩

set_option maxRecDepth 100000 in
set_option maxHeartbeats 2000000 in
theorem at_75 (p t : Int) (w : World) : Calls Tryz.prog 75 #[.int .i64 p, .int .i64 t] w fun e w' => e = .returned (.agg #[.int .i64 p, .int .i64 t, .int .i64 t]) ∧ Ext w w' := by
  go_enter Tryz.func75, Tryz.ntmps75
  go_wp2
  exact bodyPost_ret (v := .agg #[.int .i64 p, .int .i64 t, .int .i64 t]) (by simp [results, go_sem]) rfl ⟨rfl, (by with_reducible (repeat first | assumption | exact Ext.refl _ | refine Ext.set ?_ (by omega) _ | refine Ext.alloc ?_ _ | refine Ext.drew ?_ | refine Ext.drewN ?_ _ | refine Ext.trans ?_ (by assumption)))⟩

set_option maxRecDepth 100000 in
set_option maxHeartbeats 2000000 in
theorem checkAt_74 (m : Met) (p t u : Int) (AF AS : Option Addr) (nF cF nS cS : Nat) (w : World) (hm : MetIn w m AF nF AS nS) :
    Calls Tryz.prog 74 #[m.val (.slice AF nF cF) (.slice AS nS cS), .agg #[.int .i64 p, .int .i64 t, .int .i64 u]] w fun e w' => e = .returned (.int .i64 (checkAt m p t)) ∧ Ext w w' := by
  simp only [Met.val]
  rcases Bool.eq_false_or_eq_true m.good with hg | hg
  · have hck : m.check = 0 := check_good.2 hg
    have hpl : 1 ≤ m.places ∧ m.places ≤ 8 := by
      have : within m.places 1 8 = true := by
        unfold Met.good at hg
        simp only [Bool.and_eq_true] at hg
        exact hg.1.1.1.1.1.1.1.1
      exact within_true.1 this
    obtain ⟨h1, h8⟩ := hpl
    go_enter Tryz.func74, Tryz.ntmps74
    go_wp2_with fail
    refine name_world (R := fun W => Calls _ _ _ W _) fun W0 hx0 hc0 hf0 hz0 => ?_
    simp at hz0
    go_wp2_with (first | (go_at_call 95; refine (check_95 m AF AS nF cF nS cS _ (hm.ext (by with_reducible (repeat first | assumption | exact Ext.refl _ | refine Ext.set ?_ (by omega) _ | refine Ext.alloc ?_ _ | refine Ext.drew ?_ | refine Ext.drewN ?_ _ | refine Ext.trans ?_ (by assumption))))).mono ?_; rintro e1 w1 ⟨rfl, hb1⟩; have hx1 : Ext W0 w1 := (by with_reducible (repeat first | assumption | exact Ext.refl _ | refine Ext.set ?_ (by omega) _ | refine Ext.alloc ?_ _ | refine Ext.drew ?_ | refine Ext.drewN ?_ _ | refine Ext.trans ?_ (by assumption))); obtain ⟨hc1, hf1, hz1⟩ := hx1.cells) | (go_at_call 105; refine (within_105 _ _ _ _).mono ?_; rintro e1 w1 ⟨rfl, rfl⟩))
    all_goals
      go_ret
      exact ⟨ret_int (by (try simp only [Bool.not_eq_true', Bool.not_eq_false'] at *); unfold checkAt; rw [if_pos hg]; simp [*]), (by with_reducible (repeat first | assumption | exact Ext.refl _ | refine Ext.set ?_ (by omega) _ | refine Ext.alloc ?_ _ | refine Ext.drew ?_ | refine Ext.drewN ?_ _ | refine Ext.trans ?_ (by assumption)))⟩
  · have hck : m.check = 40 := by unfold Met.check; simp [hg]
    go_enter Tryz.func74, Tryz.ntmps74
    go_wp2_with fail
    refine name_world (R := fun W => Calls _ _ _ W _) fun W0 hx0 hc0 hf0 hz0 => ?_
    simp at hz0
    go_wp2_with (first | (go_at_call 95; refine (check_95 m AF AS nF cF nS cS _ (hm.ext (by with_reducible (repeat first | assumption | exact Ext.refl _ | refine Ext.set ?_ (by omega) _ | refine Ext.alloc ?_ _ | refine Ext.drew ?_ | refine Ext.drewN ?_ _ | refine Ext.trans ?_ (by assumption))))).mono ?_; rintro e1 w1 ⟨rfl, hb1⟩; have hx1 : Ext W0 w1 := (by with_reducible (repeat first | assumption | exact Ext.refl _ | refine Ext.set ?_ (by omega) _ | refine Ext.alloc ?_ _ | refine Ext.drew ?_ | refine Ext.drewN ?_ _ | refine Ext.trans ?_ (by assumption))); obtain ⟨hc1, hf1, hz1⟩ := hx1.cells) | (go_at_call 105; refine (within_105 _ _ _ _).mono ?_; rintro e1 w1 ⟨rfl, rfl⟩))
    all_goals
      go_ret
      exact ⟨ret_int (by unfold checkAt; simp [hg]), (by with_reducible (repeat first | assumption | exact Ext.refl _ | refine Ext.set ?_ (by omega) _ | refine Ext.alloc ?_ _ | refine Ext.drew ?_ | refine Ext.drewN ?_ _ | refine Ext.trans ?_ (by assumption)))⟩

theorem checkMinima_of (m : Met) (l : Minima) : checkMinima m l = 0 ↔ m.good = true ∧ l.good = true := by
  unfold checkMinima; split <;> (try split) <;> simp_all
set_option maxRecDepth 100000 in
set_option maxHeartbeats 2000000 in
theorem checkOpen_130 (m : Met) (l : Minima) (p t : Int) (AF AS : Option Addr) (nF cF nS cS : Nat) (w : World) (hm : MetIn w m AF nF AS nS) :
    Calls Tryz.prog 130 #[m.val (.slice AF nF cF) (.slice AS nS cS), l.val, .int .i64 p, .int .i64 t] w fun e w' => e = .returned (.int .i64 (checkOpen m l p t)) ∧ Ext w w' := by
  simp only [Met.val, Minima.val]
  by_cases hc : checkMinima m l = 0
  · go_enter Tryz.func130, Tryz.ntmps130
    go_wp2_with fail
    refine name_world (R := fun W => Calls _ _ _ W _) fun W0 hx0 hc0 hf0 hz0 => ?_
    simp at hz0
    go_wp2_with (go_at_call 147; refine (minima_147 m l AF AS nF cF nS cS _ (hm.ext (by with_reducible (repeat first | assumption | exact Ext.refl _ | refine Ext.set ?_ (by omega) _ | refine Ext.alloc ?_ _ | refine Ext.drew ?_ | refine Ext.drewN ?_ _ | refine Ext.trans ?_ (by assumption))))).mono ?_; rintro e1 w1 ⟨rfl, hb1⟩; have hx1 : Ext W0 w1 := (by with_reducible (repeat first | assumption | exact Ext.refl _ | refine Ext.set ?_ (by omega) _ | refine Ext.alloc ?_ _ | refine Ext.drew ?_ | refine Ext.drewN ?_ _ | refine Ext.trans ?_ (by assumption))); obtain ⟨hc1, hf1, hz1⟩ := hx1.cells)
    go_region_held3 (fun w' => HoldsAll W0 w') ((with_reducible ((repeat refine HoldsAll.drew ?_); first | (first | assumption | exact HoldsAll.refl _ | exact HoldsAll.of_drew (by assumption)) | (refine HoldsAll.ext ?_ (by assumption); first | assumption | exact HoldsAll.refl _ | exact HoldsAll.of_drew (by assumption)) | (refine HoldsAll.alloc ?_ _; first | assumption | exact HoldsAll.refl _ | exact HoldsAll.of_drew (by assumption)) | exact HoldsAll.realloc (by first | assumption | exact HoldsAll.refl _ | exact HoldsAll.of_drew (by assumption)) (by omega) | ((repeat first | refine HoldsAll.fresh ?_ (by omega) _); first | assumption | exact HoldsAll.refl _ | exact HoldsAll.of_drew (by assumption))))) (first | (go_at_call 75; refine (at_75 p t _).mono ?_; rintro e1 w1 ⟨rfl, hb1⟩; have hx1 : Ext W0 w1 := (by with_reducible (repeat first | assumption | exact Ext.refl _ | refine Ext.set ?_ (by omega) _ | refine Ext.alloc ?_ _ | refine Ext.drew ?_ | refine Ext.drewN ?_ _ | refine Ext.trans ?_ (by assumption))); obtain ⟨hc1, hf1, hz1⟩ := hx1.cells) | (go_at_call 74; refine (checkAt_74 m p t t AF AS nF cF nS cS _ (hm.ext (by with_reducible (repeat first | assumption | exact Ext.refl _ | refine Ext.set ?_ (by omega) _ | refine Ext.alloc ?_ _ | refine Ext.drew ?_ | refine Ext.drewN ?_ _ | refine Ext.trans ?_ (by assumption))))).mono ?_; rintro e1 w1 ⟨rfl, hb1⟩; have hx1 : Ext W0 w1 := (by with_reducible (repeat first | assumption | exact Ext.refl _ | refine Ext.set ?_ (by omega) _ | refine Ext.alloc ?_ _ | refine Ext.drew ?_ | refine Ext.drewN ?_ _ | refine Ext.trans ?_ (by assumption))); obtain ⟨hc1, hf1, hz1⟩ := hx1.cells))
    go_wp2
    go_ret
    exact ⟨ret_int (by unfold checkOpen; rw [if_pos hc]), (by with_reducible (repeat first | assumption | exact Ext.refl _ | refine Ext.set ?_ (by omega) _ | refine Ext.alloc ?_ _ | refine Ext.drew ?_ | refine Ext.drewN ?_ _ | refine Ext.trans ?_ (by assumption)))⟩
  · go_enter Tryz.func130, Tryz.ntmps130
    go_wp2_with fail
    refine name_world (R := fun W => Calls _ _ _ W _) fun W0 hx0 hc0 hf0 hz0 => ?_
    simp at hz0
    go_wp2_with (go_at_call 147; refine (minima_147 m l AF AS nF cF nS cS _ (hm.ext (by with_reducible (repeat first | assumption | exact Ext.refl _ | refine Ext.set ?_ (by omega) _ | refine Ext.alloc ?_ _ | refine Ext.drew ?_ | refine Ext.drewN ?_ _ | refine Ext.trans ?_ (by assumption))))).mono ?_; rintro e1 w1 ⟨rfl, hb1⟩; have hx1 : Ext W0 w1 := (by with_reducible (repeat first | assumption | exact Ext.refl _ | refine Ext.set ?_ (by omega) _ | refine Ext.alloc ?_ _ | refine Ext.drew ?_ | refine Ext.drewN ?_ _ | refine Ext.trans ?_ (by assumption))); obtain ⟨hc1, hf1, hz1⟩ := hx1.cells)
    all_goals
      go_ret
      exact ⟨ret_int (by unfold checkOpen; rw [if_neg hc]), (by with_reducible (repeat first | assumption | exact Ext.refl _ | refine Ext.set ?_ (by omega) _ | refine Ext.alloc ?_ _ | refine Ext.drew ?_ | refine Ext.drewN ?_ _ | refine Ext.trans ?_ (by assumption)))⟩
end Go.Proofs.YtmmimbcfgobnaaaGreat
