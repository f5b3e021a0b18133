/- route: arrival, lasts, open, reach. -/
import Derived.Test.YtmmimbcfgobnaaaGreatR5
import Derived.BigRegion
set_option linter.unusedVariables false
set_option linter.unusedSimpArgs false
namespace Go.Proofs.YtmmimbcfgobnaaaGreat
open Go.RowKit
set_option linter.unusedVariables false
set_option linter.unusedSimpArgs false
attribute [local go_sem] stored_match isSome_setCell

theorem Flight.atList_at (f : Flight) (L : Tab) {k j : Nat} (h : j < k) : (f.atList L k)[j]? = some (f.at L j) := by
  simp [Flight.atList, h]
/-- The places of the route and the ticks stay in their ranges. -/
theorem Flight.at_step {f : Flight} {places : Int} {L : Tab} (hL : L.upto 200) (h : f.good places L = true) : ∀ j, j < f.route.length → f.depart ≤ f.at L j ∧ f.at L j ≤ 2000 + 200 * j ∧ (0 < j → 0 ≤ L (f.route.getD (j - 1) 0) (f.route.getD j 0)) := by
  obtain ⟨hp, hr, hj, ha⟩ := Flight.good_parts h
  obtain ⟨⟨l1, l2⟩, ⟨d1, d2⟩, -⟩ := Flight.plain_parts hp
  have hjj : ∀ n i, i < n → joined L f.route n = true → 0 ≤ L (f.route.getD i 0) (f.route.getD (i + 1) 0) := by
    intro n
    induction n with
    | zero => intro i hi; omega
    | succ n ih =>
      intro i hi hn
      unfold joined at hn
      simp only [Bool.and_eq_true, decide_eq_true_eq] at hn
      by_cases e : i = n
      · subst e; exact hn.2
      · exact ih i (by omega) hn.1
  intro j
  induction j with
  | zero => intro _; exact ⟨Int.le_refl _, by show f.depart ≤ _; omega, fun h => by omega⟩
  | succ j ih =>
    intro hlt
    obtain ⟨i1, i2, _⟩ := ih (by omega)
    have h3 := hjj f.last j (by unfold Flight.last; omega) hj
    have e : f.at L (j + 1) = f.at L j + L (f.route.getD j 0) (f.route.getD (j + 1) 0) := rfl
    have h4 := (hL (f.route.getD j 0) (f.route.getD (j + 1) 0)).2
    exact ⟨by omega, by omega, fun _ => h3⟩
set_option maxRecDepth 100000 in
set_option maxHeartbeats 2000000 in
theorem arrival_77 (P : Plan) (p : Nat) (r : Refs) (w : World) (h : PlanAt w P p r) :
    Calls Tryz.prog 77 #[.pointer (some ⟨p, 0, none⟩)] w fun e w' => e = .returned (.int .i64 (P.f.arrival P.N.L)) ∧ Ext w w' := by
  obtain ⟨⟨WN, hN⟩, hM, hF, hR, hA, hng, hfg⟩ := h
  have hl := (Flight.plain_parts (Flight.good_parts hfg).1).1
  obtain ⟨j, hj⟩ : ∃ j, P.f.route.length = j + 1 := ⟨P.f.route.length - 1, by omega⟩
  obtain ⟨b, off, hb, hlt, h0⟩ := hA.intx (j := j) (by omega) (Flight.atList_at _ _ (by omega))
  have e1 := Lib.hid (show P.f.arrival P.N.L = P.f.at P.N.L j by unfold Flight.arrival Flight.last; rw [hj]; rfl)
  have c11 := hF.c11
  rw [hb, hj] at c11
  have j7 : (j : Int) ≤ 7 := by omega
  clear hN hM hF hR hA hng hfg hj hb
  obtain ⟨hl1, hl2⟩ := hl
  have s1 : IntKind.i64.wrap ((j : Int) + 1 - 1) = (j : Int) := by rw [IntWalk.i64_in _ (by omega)]; omega
  have s2 : IntKind.i64.wrap (j : Int) = (j : Int) := IntWalk.i64_in _ (by omega)
  have s3 : (0 : Int) ≤ (j : Int) := by omega
  have s4 : (j : Int) < (j : Int) + 1 := by omega
  go_enter Tryz.func77, Tryz.ntmps77
  go_wp2_with fail
  go_quiet (fail)
  go_wp2
  go_ret
  exact ⟨by rw [e1.out]; rfl, (by with_reducible (repeat first | assumption | exact Ext.refl _ | refine Ext.set ?_ (by omega) _ | refine Ext.alloc ?_ _ | refine Ext.drew ?_ | refine Ext.drewN ?_ _ | refine Ext.trans ?_ (by assumption)))⟩
theorem mul_bd {a b A B : Int} (h0 : 0 ≤ a) (h1 : a ≤ A) (h2 : -B ≤ b) (h3 : b ≤ B) (hB : 0 ≤ B) : -(A * B) ≤ a * b ∧ a * b ≤ A * B := by
  have hAB : a * B ≤ A * B := Int.mul_le_mul_of_nonneg_right h1 hB
  have h4 : a * b ≤ a * B := Int.mul_le_mul_of_nonneg_left h3 h0
  have h5 : a * (-B) ≤ a * b := Int.mul_le_mul_of_nonneg_left h2 h0
  rw [Int.mul_neg] at h5
  omega
set_option maxRecDepth 100000 in
set_option maxHeartbeats 2000000 in
theorem lasts_82 (P : Plan) (p : Nat) (r : Refs) (tick : Int) (t0 : -1000000 ≤ tick) (t1 : tick ≤ 1000000) (w : World) (h : PlanAt w P p r) :
    Calls Tryz.prog 82 #[.pointer (some ⟨p, 0, none⟩), .int .i64 tick] w fun e w' => e = .returned (.bool (P.f.lasts tick)) ∧ Ext w w' := by
  obtain ⟨⟨WN, hN⟩, hM, hF, hR, hA, hng, hfg⟩ := h
  obtain ⟨_, ⟨d1, d2⟩, ⟨d3, d4⟩, ⟨d5, d6⟩, ⟨d7, d8⟩⟩ := Flight.plain_parts (Flight.good_parts hfg).1
  have c2 := hF.c2
  have c3 := hF.c3
  have c4 := hF.c4
  have c5 := hF.c5
  have hm := mul_bd (a := P.f.burn) (b := tick - P.f.depart) (A := 100000) (B := 1002000) (by omega) d8 (by omega) (by omega) (by omega)
  clear hN hM hF hR hA hng hfg
  have hl := Lib.hid (show P.f.lasts tick = decide (P.f.reserve ≤ P.f.fuel - P.f.burn * (tick - P.f.depart)) from rfl)
  have s1 : IntKind.i64.wrap (tick - P.f.depart) = tick - P.f.depart := IntWalk.i64_in _ (by omega)
  have s2 : IntKind.i64.wrap (P.f.burn * (tick - P.f.depart)) = P.f.burn * (tick - P.f.depart) := IntWalk.i64_in _ (by omega)
  have s3 : IntKind.i64.wrap (P.f.fuel - P.f.burn * (tick - P.f.depart)) = P.f.fuel - P.f.burn * (tick - P.f.depart) := IntWalk.i64_in _ (by omega)
  clear hm
  go_enter Tryz.func82, Tryz.ntmps82
  go_wp2_with fail
  go_quiet (fail)
  go_wp2
  go_ret
  exact ⟨by rw [hl.out]; rfl, (by with_reducible (repeat first | assumption | exact Ext.refl _ | refine Ext.set ?_ (by omega) _ | refine Ext.alloc ?_ _ | refine Ext.drew ?_ | refine Ext.drewN ?_ _ | refine Ext.trans ?_ (by assumption)))⟩
set_option maxRecDepth 100000 in
set_option maxHeartbeats 2000000 in
theorem open_90 (P : Plan) (p : Nat) (r : Refs) (x : Haven) (w : World) (h : PlanAt w P p r) (hf12 : P.N.met.fc12) (hs12 : P.N.met.si12) :
    Calls Tryz.prog 90 #[.pointer (some ⟨p, 0, none⟩), x.val] w fun e w' => e = .returned (.bool (P.opens x)) ∧ Ext w w' := by
  obtain ⟨q, t, AF, nF, cF, AS, nS, cS, AR, cR, AA, cA⟩ := r
  obtain ⟨⟨WN, hN⟩, hM, hF, hR, hA, hng, hfg⟩ := h
  dsimp only at hN hM hF hR hA
  simp only [Haven.val]
  by_cases hl : x.at_ ≤ 2000
  · have ho := Lib.hid (show P.opens x = (decide ((P.N.met.opened P.l x.place x.at_).2 = 0) && (P.N.met.opened P.l x.place x.at_).1) by unfold Plan.opens; simp [hl])
    have hMet := Lib.hid hN.met
    have hFl := Lib.hid hF
    clear hN hF hR hA hng hfg
    go_enter Tryz.func90, Tryz.ntmps90
    go_wp2_with fail
    refine name_world (R := fun W => Code.wp _ _ _ _ W) fun W0 hx0 hc0 hf0 hz0 => ?_
    have hx : Ext w W0 := (by with_reducible (repeat first | assumption | exact Ext.refl _ | refine Ext.set ?_ (by omega) _ | refine Ext.alloc ?_ _ | refine Ext.drew ?_ | refine Ext.drewN ?_ _ | refine Ext.trans ?_ (by assumption)))
    have y0 : W0.cell? ⟨w.heap.size, 0, none⟩ = some (.int .i64 x.place) := by go_simp
    have y1 : W0.cell? ⟨w.heap.size, 1, none⟩ = some (.int .i64 x.at_) := by go_simp
    have y2 : w.heap.size < W0.heap.size := by simp at hz0; omega
    clear hc0 hf0 hz0
    obtain ⟨m0, m1, m2, m3, m4, m5, m6, m7, m8, m9, m10, m11, m12, m13, m14⟩ := hMet.out.ext hx
    obtain ⟨f0, f1, -, -, -, -, -, f7, f8, f9, f10, f11, -, -⟩ := hFl.out.ext hx
    clear hx0
    go_region_held3 (fun w' => HoldsAll W0 w') ((with_reducible ((repeat refine HoldsAll.drew ?_); first | (first | assumption | exact HoldsAll.refl _ | exact HoldsAll.of_drew (by assumption)) | (refine HoldsAll.ext ?_ (by assumption); first | assumption | exact HoldsAll.refl _ | exact HoldsAll.of_drew (by assumption)) | (refine HoldsAll.alloc ?_ _; first | assumption | exact HoldsAll.refl _ | exact HoldsAll.of_drew (by assumption)) | exact HoldsAll.realloc (by first | assumption | exact HoldsAll.refl _ | exact HoldsAll.of_drew (by assumption)) (by omega) | ((repeat first | refine HoldsAll.fresh ?_ (by omega) _); first | assumption | exact HoldsAll.refl _ | exact HoldsAll.of_drew (by assumption))))) (first | (go_at_call 96; refine (Open_96 P.N.met P.l x.place x.at_ AF AS nF cF nS cS _ (hM.ext (by with_reducible (repeat first | assumption | exact Ext.refl _ | refine Ext.set ?_ (by omega) _ | refine Ext.alloc ?_ _ | refine Ext.drew ?_ | refine Ext.drewN ?_ _ | refine Ext.trans ?_ (by assumption)))) hf12 hs12).mono ?_; rintro e1 w1 ⟨rfl, hb1⟩))
    by_cases hz : (P.N.met.opened P.l x.place x.at_).2 = 0
    · have hzb : ((P.N.met.opened P.l x.place x.at_).2 == (0 : Int)) = true := beq_iff_eq.2 hz
      have hz := Lib.hid hz
      go_wp2
      go_ret
      exact ⟨by rw [ho.out, hz.out]; simp, (by with_reducible (repeat first | assumption | exact Ext.refl _ | refine Ext.set ?_ (by omega) _ | refine Ext.alloc ?_ _ | refine Ext.drew ?_ | refine Ext.drewN ?_ _ | refine Ext.trans ?_ (by assumption)))⟩
    · have hzb : ((P.N.met.opened P.l x.place x.at_).2 == (0 : Int)) = false := beq_eq_false_iff_ne.2 hz
      have hz := Lib.hid hz
      go_wp2
      go_ret
      exact ⟨by rw [ho.out, decide_eq_false hz.out]; simp, (by with_reducible (repeat first | assumption | exact Ext.refl _ | refine Ext.set ?_ (by omega) _ | refine Ext.alloc ?_ _ | refine Ext.drew ?_ | refine Ext.drewN ?_ _ | refine Ext.trans ?_ (by assumption)))⟩
  · have ho := Lib.hid (show P.opens x = false by unfold Plan.opens; simp [hl])
    clear hN hF hR hA hng hfg
    go_enter Tryz.func90, Tryz.ntmps90
    go_wp2
    go_ret
    exact ⟨by rw [ho.out]; rfl, (by with_reducible (repeat first | assumption | exact Ext.refl _ | refine Ext.set ?_ (by omega) _ | refine Ext.alloc ?_ _ | refine Ext.drew ?_ | refine Ext.drewN ?_ _ | refine Ext.trans ?_ (by assumption)))⟩
end Go.Proofs.YtmmimbcfgobnaaaGreat
