/- The reference: safe, Safe, Proof. -/
import Derived.Test.YtmmimbcfgobnaaaGreatV6
set_option linter.unusedVariables false
set_option linter.unusedSimpArgs false
namespace Go.Proofs.YtmmimbcfgobnaaaGreat
open Go.RowKit
attribute [local go_sem] stored_match isSome_setCell

/-- The first tick without a haven, -1: there is none. -/
def Plan.firstT (P : Plan) : Int := if P.safeTo false P.ticks = true then -1 else P.f.depart + P.firstBad
theorem Plan.firstT_all {P : Plan} (h : ∀ j, j < P.ticks → P.safeAt false j = true) : P.firstT = -1 := by
  unfold Plan.firstT Plan.safeTo
  rw [if_pos (List.all_eq_true.2 fun j hj => h j (List.mem_range.1 hj))]
theorem Plan.firstT_at {P : Plan} {k : Nat} (h : ∀ j, j < k → P.safeAt false j = true) (hk : P.safeAt false k = false) (hl : k < P.ticks) : P.firstT = P.f.depart + k := by
  unfold Plan.firstT
  rw [if_neg (by simp [Plan.safeTo_false hl hk])]
  have : P.firstBad = k := lead_stop h hk _ hl
  rw [this]
set_option maxRecDepth 100000 in
set_option maxHeartbeats 2000000 in
theorem safe_84 (I : Inp) (w : World) (h : I.In w) (hn : I.N.good = true) (hf : I.f.good I.m.places I.N.L = true) :
    Calls Tryz.prog 84 #[I.vm, I.l.val, I.vn, I.vf] w fun e w' => e = .returned (.int .i64 I.P.firstT) ∧ Ext w w' := by
  simp only [Inp.vm, Inp.vn, Inp.vf, Met.val, Flight.val, Minima.val]
  obtain ⟨d0, d1, d2⟩ := Plan.arrival_bd (P := I.P) hn hf
  have d0 : 0 ≤ I.f.depart := d0
  have d1 : I.f.depart ≤ I.f.arrival I.N.L := d1
  have d2 : I.f.arrival I.N.L ≤ 2000 := d2
  have hti : (I.P.ticks : Int) = I.f.arrival I.N.L - I.f.depart + 1 := by unfold Plan.ticks; show ((I.f.arrival I.N.L - I.f.depart + 1).toNat : Int) = _; omega
  have hnn : I.N.n ≤ 8 := (Net.good_parts hn).2.2.1.2.2.2
  have hal0 : ∀ t, (I.P.all t false).length ≤ I.N.n := fun t => I.P.all_length t false
  have hal := Lib.hid hal0
  clear hal0
  have hsa0 : ∀ k : Nat, I.P.safeAt false k = hasBest (I.P.all (I.f.depart + k) false) := fun k => rfl
  have hsa := Lib.hid hsa0
  clear hsa0
  have hfa := Lib.hid (Plan.firstT_all (P := I.P))
  have hft := Lib.hid (fun (k : Nat) h1 h2 h3 => (Plan.firstT_at (P := I.P) (k := k) h1 h2 h3 : I.P.firstT = I.f.depart + k))
  replace hn := Lib.hid hn
  replace hf := Lib.hid hf
  generalize harr : I.f.arrival I.N.L = arr at *
  replace harr := Lib.hid harr
  go_enter Tryz.func84, Tryz.ntmps84
  go_upto_region 1 with (fail)
  refine name_as (P := fun W => Box3 I w.heap.size W ∧ Ext w W) (R := fun W => Code.wp _ _ _ _ W) ⟨⟨⟨by first | (simp; done) | (simp; omega), by go_simp, by go_simp, by go_simp, by go_simp, by go_simp, by go_simp, by go_simp, by go_simp, by go_simp, by go_simp, by go_simp, by go_simp, by go_simp, by go_simp⟩, ⟨by first | (simp; done) | (simp; omega), by go_simp, by go_simp, by go_simp, by go_simp, by go_simp⟩, by simp, by go_simp, by go_simp, by go_simp, by go_simp, by go_simp⟩, (by with_reducible (repeat first | assumption | exact Ext.refl _ | refine Ext.set ?_ (by omega) _ | refine Ext.alloc ?_ _ | refine Ext.drew ?_ | refine Ext.drewN ?_ _ | refine Ext.trans ?_ (by assumption)))⟩ fun W1 ⟨hB, hxw⟩ => ?_
  replace hB := Lib.hid hB
  obtain ⟨⟨lb, p0, p1, p2, p3, p4, p5, p6, p7, p8, p9, p10, p11, p12, p13⟩, ⟨lm, m0, m1, m2, m3, m4⟩, lf, f0, f1, f2, f3, f4⟩ := hB.out
  have hI := Lib.hid (h.ext hxw)
  go_wp2_with fail
  go_loopw [9] (fun i wr => ∃ k : Nat, k ≤ I.P.ticks ∧ i = .int .i64 (I.f.depart + k) ∧ (∀ j, j < k → I.P.safeAt false j = true) ∧ Ext W1 wr) (fun i _ => (arr + 1 - intOf i).toNat)
  case atStart => exact ⟨0, Nat.zero_le _, by simp, fun j hj => absurd hj (Nat.not_lt_zero _), Ext.refl _⟩
  case round =>
    clear lb p0 p1 p2 p3 p4 p5 p6 p7 p8 p9 p10 p11 p12 p13 lm m0 m1 m2 m3 m4 lf f0 f1 f2 f3 f4
    obtain ⟨k, hk, rfl, hlow, he⟩ := hrel
    replace hlow := Lib.hid hlow
    obtain ⟨⟨lb, p0, p1, p2, p3, p4, p5, p6, p7, p8, p9, p10, p11, p12, p13⟩, ⟨lm, m0, m1, m2, m3, m4⟩, lf, f0, f1, f2, f3, f4⟩ := hB.out.ext he
    have hIr := Lib.hid (hI.out.ext he)
    by_cases hlt : I.f.depart + (k : Int) ≤ arr
    · have hkl : k < I.P.ticks := by omega
      have t0 := Lib.hid (show I.f.depart ≤ I.f.depart + (k : Int) by omega)
      have t1 := Lib.hid (show I.f.depart + (k : Int) ≤ I.f.arrival I.N.L by rw [harr.out]; exact hlt)
      have hal1 := hal.out (I.f.depart + k)
      have hs1 := hsa.out k
      have hrun := Lib.hid (fun W (hW : I.In W) => havens_60 I (I.f.depart + k) W hW hn.out hf.out t0.out t1.out)
      generalize I.P.all (I.f.depart + k) false = L at *
      by_cases hL : L.length = 0
      · obtain rfl : L = [] := List.length_eq_zero_iff.1 hL
        have hres := Lib.hid (hft.out k hlow.out hs1 hkl)
        clear hs1 hL hal1
        go_wp2_with (first | (go_at_call 80; refine (end_80 I _ (hIr.out.ext (by with_reducible (repeat first | assumption | exact Ext.refl _ | refine Ext.set ?_ (by omega) _ | refine Ext.alloc ?_ _ | refine Ext.drew ?_ | refine Ext.drewN ?_ _ | refine Ext.trans ?_ (by assumption)))) hn.out hf.out).mono ?_; rw [harr.out]; rintro e1 w2 ⟨rfl, hb2⟩; have hx2 : Ext wr w2 := (by with_reducible (repeat first | assumption | exact Ext.refl _ | refine Ext.set ?_ (by omega) _ | refine Ext.alloc ?_ _ | refine Ext.drew ?_ | refine Ext.drewN ?_ _ | refine Ext.trans ?_ (by assumption))); obtain ⟨hc2, hf2, hz2⟩ := hx2.cells; have hs2 := hb2.size) | (go_at_call 60; refine (hrun.out _ (hIr.out.ext (by with_reducible (repeat first | assumption | exact Ext.refl _ | refine Ext.set ?_ (by omega) _ | refine Ext.alloc ?_ _ | refine Ext.drew ?_ | refine Ext.drewN ?_ _ | refine Ext.trans ?_ (by assumption))))).mono ?_; rintro e1 w3 ⟨v, rfl, hO, hb3⟩; obtain ⟨A, c, rfl, -⟩ := hO.rows (fun _ => rfl) (by simp); have hx3 : Ext wr w3 := (by with_reducible (repeat first | assumption | exact Ext.refl _ | refine Ext.set ?_ (by omega) _ | refine Ext.alloc ?_ _ | refine Ext.drew ?_ | refine Ext.drewN ?_ _ | refine Ext.trans ?_ (by assumption))); obtain ⟨hc3, hf3, hz3⟩ := hx3.cells))
        go_ret
        exact ⟨by rw [hres.out]; rfl, (by with_reducible (repeat first | assumption | exact Ext.refl _ | refine Ext.set ?_ (by omega) _ | refine Ext.alloc ?_ _ | refine Ext.drew ?_ | refine Ext.drewN ?_ _ | refine Ext.trans ?_ (by assumption)))⟩
      · have hhas : hasBest L = true := by cases L with | nil => simp at hL | cons a t => rfl
        have hL0 : ((L.length : Int) == (0 : Int)) = false := beq_eq_false_iff_ne.2 (by omega)
        rw [hhas] at hs1
        replace hs1 := Lib.hid hs1
        go_wp2_with (first | (go_at_call 80; refine (end_80 I _ (hIr.out.ext (by with_reducible (repeat first | assumption | exact Ext.refl _ | refine Ext.set ?_ (by omega) _ | refine Ext.alloc ?_ _ | refine Ext.drew ?_ | refine Ext.drewN ?_ _ | refine Ext.trans ?_ (by assumption)))) hn.out hf.out).mono ?_; rw [harr.out]; rintro e1 w2 ⟨rfl, hb2⟩; have hx2 : Ext wr w2 := (by with_reducible (repeat first | assumption | exact Ext.refl _ | refine Ext.set ?_ (by omega) _ | refine Ext.alloc ?_ _ | refine Ext.drew ?_ | refine Ext.drewN ?_ _ | refine Ext.trans ?_ (by assumption))); obtain ⟨hc2, hf2, hz2⟩ := hx2.cells; have hs2 := hb2.size) | (go_at_call 60; refine (hrun.out _ (hIr.out.ext (by with_reducible (repeat first | assumption | exact Ext.refl _ | refine Ext.set ?_ (by omega) _ | refine Ext.alloc ?_ _ | refine Ext.drew ?_ | refine Ext.drewN ?_ _ | refine Ext.trans ?_ (by assumption))))).mono ?_; rintro e1 w3 ⟨v, rfl, hO, hb3⟩; obtain ⟨A, c, rfl, -⟩ := hO.rows (fun _ => rfl) (by omega); have hx3 : Ext wr w3 := (by with_reducible (repeat first | assumption | exact Ext.refl _ | refine Ext.set ?_ (by omega) _ | refine Ext.alloc ?_ _ | refine Ext.drew ?_ | refine Ext.drewN ?_ _ | refine Ext.trans ?_ (by assumption))); obtain ⟨hc3, hf3, hz3⟩ := hx3.cells))
        go_roundw
        case rel => exact ⟨k + 1, by omega, by rw [show I.f.depart + (k : Int) + 1 = I.f.depart + ((k + 1 : Nat) : Int) by omega], fun j hj => (by rcases Nat.lt_or_ge j k with gg | gg; exact hlow.out j gg; obtain rfl : j = k := (by omega); exact hs1.out), (by with_reducible (repeat first | assumption | exact Ext.refl _ | refine Ext.set ?_ (by omega) _ | refine Ext.alloc ?_ _ | refine Ext.drew ?_ | refine Ext.drewN ?_ _ | refine Ext.trans ?_ (by assumption)))⟩
        case measure => simp [intOf]; omega
    · obtain rfl : k = I.P.ticks := by omega
      have hres := Lib.hid (hfa.out hlow.out)
      go_wp2_with (first | (go_at_call 80; refine (end_80 I _ (hIr.out.ext (by with_reducible (repeat first | assumption | exact Ext.refl _ | refine Ext.set ?_ (by omega) _ | refine Ext.alloc ?_ _ | refine Ext.drew ?_ | refine Ext.drewN ?_ _ | refine Ext.trans ?_ (by assumption)))) hn.out hf.out).mono ?_; rw [harr.out]; rintro e1 w2 ⟨rfl, hb2⟩; have hx2 : Ext wr w2 := (by with_reducible (repeat first | assumption | exact Ext.refl _ | refine Ext.set ?_ (by omega) _ | refine Ext.alloc ?_ _ | refine Ext.drew ?_ | refine Ext.drewN ?_ _ | refine Ext.trans ?_ (by assumption))); obtain ⟨hc2, hf2, hz2⟩ := hx2.cells; have hs2 := hb2.size))
      go_ret
      exact ⟨by rw [hres.out]; rfl, (by with_reducible (repeat first | assumption | exact Ext.refl _ | refine Ext.set ?_ (by omega) _ | refine Ext.alloc ?_ _ | refine Ext.drew ?_ | refine Ext.drewN ?_ _ | refine Ext.trans ?_ (by assumption)))⟩
theorem Inp.safeR_ref {I : Inp} (h : I.err = 0) : I.safeR = (max I.P.firstT 0, decide (I.P.firstT < 0), 0) := by
  obtain ⟨hn, -, hf, -⟩ := Inp.err_good h
  have hd : 0 ≤ I.f.depart := (Plan.arrival_bd (P := I.P) hn hf).1
  unfold Inp.safeR Plan.safeN Plan.firstT
  rw [if_pos h]
  by_cases hs : I.P.safeTo false I.P.ticks = true
  · rw [if_pos hs, if_pos hs]; rfl
  · rw [if_neg hs, if_neg hs]
    have hd2 : 0 ≤ I.P.f.depart := hd
    rw [show max (I.P.f.depart + (I.P.firstBad : Int)) 0 = I.P.f.depart + I.P.firstBad by omega, decide_eq_false (by omega)]
set_option maxRecDepth 100000 in
set_option maxHeartbeats 2000000 in
theorem Safe_41 (I : Inp) (w : World) (h : I.In w) :
    Calls Tryz.prog 41 #[I.vm, I.l.val, I.vn, I.vf] w fun e w' => e = .returned (.tuple #[.int .i64 I.safeR.1, .bool I.safeR.2.1, .int .i64 I.safeR.2.2]) ∧ Ext w w' := by
  simp only [Inp.vm, Inp.vn, Inp.vf, Met.val, Flight.val, Minima.val]
  by_cases hc : I.err = 0
  · have hR := Inp.safeR_ref hc
    obtain ⟨hn, -, hf, -⟩ := Inp.err_good hc
    replace hn := Lib.hid hn
    replace hf := Lib.hid hf
    replace hc := Lib.hid hc
    obtain ⟨t, ht⟩ : ∃ t, I.P.firstT = t := ⟨_, rfl⟩
    rw [ht] at hR
    replace ht := Lib.hid ht
    by_cases h0 : t < 0
    · have hR2 := Lib.hid (show I.safeR = (0, true, 0) by rw [hR, decide_eq_true h0, show max t 0 = 0 by omega])
      clear hR
      go_enter Tryz.func41, Tryz.ntmps41
      go_upto_region 1 with (fail)
      refine name_as (P := fun W => Box3 I w.heap.size W ∧ Ext w W) (R := fun W => Code.wp _ _ _ _ W) ⟨⟨⟨by first | (simp; done) | (simp; omega), by go_simp, by go_simp, by go_simp, by go_simp, by go_simp, by go_simp, by go_simp, by go_simp, by go_simp, by go_simp, by go_simp, by go_simp, by go_simp, by go_simp⟩, ⟨by first | (simp; done) | (simp; omega), by go_simp, by go_simp, by go_simp, by go_simp, by go_simp⟩, by simp, by go_simp, by go_simp, by go_simp, by go_simp, by go_simp⟩, (by with_reducible (repeat first | assumption | exact Ext.refl _ | refine Ext.set ?_ (by omega) _ | refine Ext.alloc ?_ _ | refine Ext.drew ?_ | refine Ext.drewN ?_ _ | refine Ext.trans ?_ (by assumption)))⟩ fun W1 ⟨hB, hxw⟩ => ?_
      replace hB := Lib.hid hB
      obtain ⟨⟨lb, p0, p1, p2, p3, p4, p5, p6, p7, p8, p9, p10, p11, p12, p13⟩, ⟨lm, m0, m1, m2, m3, m4⟩, lf, f0, f1, f2, f3, f4⟩ := hB.out
      have hI := Lib.hid (h.ext hxw)
      go_wp2_with (first | (go_at_call 79; refine (checkAll_79 I _ (hI.out.ext (by with_reducible (repeat first | assumption | exact Ext.refl _ | refine Ext.set ?_ (by omega) _ | refine Ext.alloc ?_ _ | refine Ext.drew ?_ | refine Ext.drewN ?_ _ | refine Ext.trans ?_ (by assumption))))).mono ?_; rw [hc.out]; rintro e1 w2 ⟨rfl, hb2⟩; have hx2 : Ext W1 w2 := (by with_reducible (repeat first | assumption | exact Ext.refl _ | refine Ext.set ?_ (by omega) _ | refine Ext.alloc ?_ _ | refine Ext.drew ?_ | refine Ext.drewN ?_ _ | refine Ext.trans ?_ (by assumption))); obtain ⟨hc2, hf2, hz2⟩ := hx2.cells; have hs2 := hb2.size) | (go_at_call 84; refine (safe_84 I _ (hI.out.ext (by with_reducible (repeat first | assumption | exact Ext.refl _ | refine Ext.set ?_ (by omega) _ | refine Ext.alloc ?_ _ | refine Ext.drew ?_ | refine Ext.drewN ?_ _ | refine Ext.trans ?_ (by assumption)))) hn.out hf.out).mono ?_; rw [ht.out]; rintro e1 w3 ⟨rfl, hb3⟩))
      go_ret3
      exact ⟨by rw [hR2.out]; rfl, (by with_reducible (repeat first | assumption | exact Ext.refl _ | refine Ext.set ?_ (by omega) _ | refine Ext.alloc ?_ _ | refine Ext.drew ?_ | refine Ext.drewN ?_ _ | refine Ext.trans ?_ (by assumption)))⟩
    · have hR2 := Lib.hid (show I.safeR = (t, false, 0) by rw [hR, decide_eq_false h0, show max t 0 = t by omega])
      clear hR
      go_enter Tryz.func41, Tryz.ntmps41
      go_upto_region 1 with (fail)
      refine name_as (P := fun W => Box3 I w.heap.size W ∧ Ext w W) (R := fun W => Code.wp _ _ _ _ W) ⟨⟨⟨by first | (simp; done) | (simp; omega), by go_simp, by go_simp, by go_simp, by go_simp, by go_simp, by go_simp, by go_simp, by go_simp, by go_simp, by go_simp, by go_simp, by go_simp, by go_simp, by go_simp⟩, ⟨by first | (simp; done) | (simp; omega), by go_simp, by go_simp, by go_simp, by go_simp, by go_simp⟩, by simp, by go_simp, by go_simp, by go_simp, by go_simp, by go_simp⟩, (by with_reducible (repeat first | assumption | exact Ext.refl _ | refine Ext.set ?_ (by omega) _ | refine Ext.alloc ?_ _ | refine Ext.drew ?_ | refine Ext.drewN ?_ _ | refine Ext.trans ?_ (by assumption)))⟩ fun W1 ⟨hB, hxw⟩ => ?_
      replace hB := Lib.hid hB
      obtain ⟨⟨lb, p0, p1, p2, p3, p4, p5, p6, p7, p8, p9, p10, p11, p12, p13⟩, ⟨lm, m0, m1, m2, m3, m4⟩, lf, f0, f1, f2, f3, f4⟩ := hB.out
      have hI := Lib.hid (h.ext hxw)
      go_upto_region 5 with (first | (go_at_call 79; refine (checkAll_79 I _ (hI.out.ext (by with_reducible (repeat first | assumption | exact Ext.refl _ | refine Ext.set ?_ (by omega) _ | refine Ext.alloc ?_ _ | refine Ext.drew ?_ | refine Ext.drewN ?_ _ | refine Ext.trans ?_ (by assumption))))).mono ?_; rw [hc.out]; rintro e1 w2 ⟨rfl, hb2⟩; have hx2 : Ext W1 w2 := (by with_reducible (repeat first | assumption | exact Ext.refl _ | refine Ext.set ?_ (by omega) _ | refine Ext.alloc ?_ _ | refine Ext.drew ?_ | refine Ext.drewN ?_ _ | refine Ext.trans ?_ (by assumption))); obtain ⟨hc2, hf2, hz2⟩ := hx2.cells; have hs2 := hb2.size) | (go_at_call 84; refine (safe_84 I _ (hI.out.ext (by with_reducible (repeat first | assumption | exact Ext.refl _ | refine Ext.set ?_ (by omega) _ | refine Ext.alloc ?_ _ | refine Ext.drew ?_ | refine Ext.drewN ?_ _ | refine Ext.trans ?_ (by assumption)))) hn.out hf.out).mono ?_; rw [ht.out]; rintro e1 w3 ⟨rfl, hb3⟩))
      have h1 : ¬ t < 0 := by omega
      have h2 : decide (t < 0) = false := decide_eq_false (by omega)
      go_wp2_with fail
      all_goals
        go_ret3
        exact ⟨by rw [hR2.out]; first | rfl | simp [*] | (simp [*]; omega), (by with_reducible (repeat first | assumption | exact Ext.refl _ | refine Ext.set ?_ (by omega) _ | refine Ext.alloc ?_ _ | refine Ext.drew ?_ | refine Ext.drewN ?_ _ | refine Ext.trans ?_ (by assumption)))⟩
  · have hR := Lib.hid (show I.safeR = (0, false, I.err) by unfold Inp.safeR; rw [if_neg hc])
    have hbb : (I.err == (0 : Int)) = false := beq_eq_false_iff_ne.2 hc
    have hbn : (I.err != (0 : Int)) = true := by rw [bne_iff_ne]; exact hc
    replace hc := Lib.hid hc
    go_enter Tryz.func41, Tryz.ntmps41
    go_upto_region 1 with (fail)
    refine name_as (P := fun W => Box3 I w.heap.size W ∧ Ext w W) (R := fun W => Code.wp _ _ _ _ W) ⟨⟨⟨by first | (simp; done) | (simp; omega), by go_simp, by go_simp, by go_simp, by go_simp, by go_simp, by go_simp, by go_simp, by go_simp, by go_simp, by go_simp, by go_simp, by go_simp, by go_simp, by go_simp⟩, ⟨by first | (simp; done) | (simp; omega), by go_simp, by go_simp, by go_simp, by go_simp, by go_simp⟩, by simp, by go_simp, by go_simp, by go_simp, by go_simp, by go_simp⟩, (by with_reducible (repeat first | assumption | exact Ext.refl _ | refine Ext.set ?_ (by omega) _ | refine Ext.alloc ?_ _ | refine Ext.drew ?_ | refine Ext.drewN ?_ _ | refine Ext.trans ?_ (by assumption)))⟩ fun W1 ⟨hB, hxw⟩ => ?_
    replace hB := Lib.hid hB
    obtain ⟨⟨lb, p0, p1, p2, p3, p4, p5, p6, p7, p8, p9, p10, p11, p12, p13⟩, ⟨lm, m0, m1, m2, m3, m4⟩, lf, f0, f1, f2, f3, f4⟩ := hB.out
    have hI := Lib.hid (h.ext hxw)
    go_wp2_with (go_at_call 79; refine (checkAll_79 I _ (hI.out.ext (by with_reducible (repeat first | assumption | exact Ext.refl _ | refine Ext.set ?_ (by omega) _ | refine Ext.alloc ?_ _ | refine Ext.drew ?_ | refine Ext.drewN ?_ _ | refine Ext.trans ?_ (by assumption))))).mono ?_; rintro e1 w2 ⟨rfl, hb2⟩; have hx2 : Ext W1 w2 := (by with_reducible (repeat first | assumption | exact Ext.refl _ | refine Ext.set ?_ (by omega) _ | refine Ext.alloc ?_ _ | refine Ext.drew ?_ | refine Ext.drewN ?_ _ | refine Ext.trans ?_ (by assumption))); obtain ⟨hc2, hf2, hz2⟩ := hx2.cells; have hs2 := hb2.size)
    go_ret3
    exact ⟨by rw [hR.out]; rfl, (by with_reducible (repeat first | assumption | exact Ext.refl _ | refine Ext.set ?_ (by omega) _ | refine Ext.alloc ?_ _ | refine Ext.drew ?_ | refine Ext.drewN ?_ _ | refine Ext.trans ?_ (by assumption)))⟩
end Go.Proofs.YtmmimbcfgobnaaaGreat
