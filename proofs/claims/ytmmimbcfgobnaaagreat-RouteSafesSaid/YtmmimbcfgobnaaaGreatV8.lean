/- The reference: Proof. -/
import Derived.Test.YtmmimbcfgobnaaaGreatV6
set_option linter.unusedVariables false
set_option linter.unusedSimpArgs false
namespace Go.Proofs.YtmmimbcfgobnaaaGreat
open Go.RowKit
attribute [local go_sem] stored_match isSome_setCell

theorem Inp.code_in {I : Inp} {tick : Int} (h : I.err = 0) (t0 : I.f.depart ≤ tick) (t1 : tick ≤ I.f.arrival I.N.L) : I.code tick = 0 := by
  unfold Inp.code; rw [if_pos h, if_pos (within_true.2 ⟨t0, t1⟩)]
theorem ProofPost42.no {I : Inp} {w w' : World} {c : Int} (h : I.proofC = c) (hc : c ≠ 0) (e : Ext w w') : ProofPost42 I.proofC I.P.proofN w (.returned (.tuple #[.slice none 0 0, .int .i64 c])) w' :=
  ⟨fun g => absurd (h.symm.trans g) hc, fun _ => by rw [h], e⟩
theorem ProofPost42.yes {I : Inp} {w w' : World} {A : Option Addr} {c : Nat} {L : List Haven} (h : I.proofC = 0) (hL : I.P.proofN = L) (hR : Rows 3 Haven.enc w' A L.length L) (e : Ext w w') : ProofPost42 I.proofC I.P.proofN w (.returned (.tuple #[.slice A L.length c, .int .i64 0])) w' := by
  subst hL
  exact ⟨fun _ => ⟨A, c, rfl, hR⟩, fun g => absurd h g, e⟩
set_option maxRecDepth 100000 in
set_option maxHeartbeats 2000000 in
theorem Proof_43 (I : Inp) (w : World) (h : I.In w) :
    Calls Tryz.prog 43 #[I.vm, I.l.val, I.vn, I.vf] w (ProofPost42 I.proofC I.P.proofN w) := by
  simp only [Inp.vm, Inp.vn, Inp.vf, Met.val, Flight.val, Minima.val]
  by_cases hc : I.err = 0
  · obtain ⟨hn, -, hf, -⟩ := Inp.err_good hc
    obtain ⟨d0, d1, d2⟩ := Plan.arrival_bd (P := I.P) hn hf
    have d0 : 0 ≤ I.f.depart := d0
    have d1 : I.f.depart ≤ I.f.arrival I.N.L := d1
    have d2 : I.f.arrival I.N.L ≤ 2000 := d2
    have hti : (I.P.ticks : Int) = I.f.arrival I.N.L - I.f.depart + 1 := by unfold Plan.ticks; show ((I.f.arrival I.N.L - I.f.depart + 1).toNat : Int) = _; omega
    have hsa0 : ∀ k : Nat, I.P.safeAt false k = hasBest (I.P.all (I.f.depart + k) false) := fun k => rfl
    have hba0 : ∀ k : Nat, I.P.bestAt false k = bestOf (I.P.all (I.f.depart + k) false) := fun k => rfl
    have hbr0 : ∀ t, I.f.depart ≤ t → t ≤ I.f.arrival I.N.L → I.bestR t = if hasBest (I.P.all t false) = true then (bestOf (I.P.all t false), 0) else (z_hv, 3) := fun t a b => by unfold Inp.bestR; rw [if_pos (Inp.code_in hc a b)]
    have hno0 : ∀ k : Nat, k < I.P.ticks → I.P.safeAt false k = false → I.proofC = 3 := fun k a b => by
      unfold Inp.proofC
      rw [if_pos hc, if_neg (by unfold Plan.safeN; rw [if_neg (by simp [Plan.safeTo_false a b])]; simp)]
    have hyes0 : (∀ j, j < I.P.ticks → I.P.safeAt false j = true) → I.proofC = 0 ∧ I.P.proofN = I.P.proofTo false I.P.ticks := fun hall => by
      have hs : I.P.safeTo false I.P.ticks = true := by unfold Plan.safeTo; exact List.all_eq_true.2 fun j hj => hall j (List.mem_range.1 hj)
      unfold Inp.proofC Plan.proofN Plan.safeN
      rw [if_pos hc, if_pos hs, if_pos hs]; exact ⟨rfl, rfl⟩
    have hps0 := fun k => I.P.proofTo_succ false k
    have hpl0 := fun k => I.P.proofTo_length false k
    have hsa := Lib.hid hsa0
    have hba := Lib.hid hba0
    have hbr := Lib.hid hbr0
    have hno := Lib.hid hno0
    have hyes := Lib.hid hyes0
    have hps := Lib.hid hps0
    have hpl := Lib.hid hpl0
    clear hsa0 hba0 hbr0 hno0 hyes0 hps0 hpl0
    replace hn := Lib.hid hn
    replace hf := Lib.hid hf
    replace hc := Lib.hid hc
    generalize harr : I.f.arrival I.N.L = arr at *
    replace harr := Lib.hid harr
    go_enter Tryz.func43, Tryz.ntmps43
    go_upto_region 1 with (fail)
    refine name_as (P := fun W => Box3 I w.heap.size W ∧ Ext w W) (R := fun W => Code.wp _ _ _ _ W) ⟨⟨⟨by first | (simp; done) | (simp; omega), by go_simp, by go_simp, by go_simp, by go_simp, by go_simp, by go_simp, by go_simp, by go_simp, by go_simp, by go_simp, by go_simp, by go_simp, by go_simp, by go_simp⟩, ⟨by first | (simp; done) | (simp; omega), by go_simp, by go_simp, by go_simp, by go_simp, by go_simp⟩, by simp, by go_simp, by go_simp, by go_simp, by go_simp, by go_simp⟩, (by with_reducible (repeat first | assumption | exact Ext.refl _ | refine Ext.set ?_ (by omega) _ | refine Ext.alloc ?_ _ | refine Ext.drew ?_ | refine Ext.drewN ?_ _ | refine Ext.trans ?_ (by assumption)))⟩ fun W1 ⟨hB, hxw⟩ => ?_
    replace hB := Lib.hid hB
    obtain ⟨⟨lb, p0, p1, p2, p3, p4, p5, p6, p7, p8, p9, p10, p11, p12, p13⟩, ⟨lm, m0, m1, m2, m3, m4⟩, lf, f0, f1, f2, f3, f4⟩ := hB.out
    have hI := Lib.hid (h.ext hxw)
    go_wp2_with (go_at_call 79; refine (checkAll_79 I _ (hI.out.ext (by with_reducible (repeat first | assumption | exact Ext.refl _ | refine Ext.set ?_ (by omega) _ | refine Ext.alloc ?_ _ | refine Ext.drew ?_ | refine Ext.drewN ?_ _ | refine Ext.trans ?_ (by assumption))))).mono ?_; rw [hc.out]; rintro e1 w2 ⟨rfl, hb2⟩; have hx2 : Ext W1 w2 := (by with_reducible (repeat first | assumption | exact Ext.refl _ | refine Ext.set ?_ (by omega) _ | refine Ext.alloc ?_ _ | refine Ext.drew ?_ | refine Ext.drewN ?_ _ | refine Ext.trans ?_ (by assumption))); obtain ⟨hc2, hf2, hz2⟩ := hx2.cells; have hs2 := hb2.size)
    have hs0 := hxw.size
    have hs2' := hx2.size
    clear hc2 hf2 hz2 lb p0 p1 p2 p3 p4 p5 p6 p7 p8 p9 p10 p11 p12 p13 lm m0 m1 m2 m3 m4 lf f0 f1 f2 f3 f4
    go_loopw [11, 12] (fun v i wr => ∃ k : Nat, k ≤ I.P.ticks ∧ i = .int .i64 (I.f.depart + k) ∧ (∀ j, j < k → I.P.safeAt false j = true) ∧ Owns 46 3 Haven.enc wr w2.heap.size v (I.P.proofTo false k) ∧ Ext w2 wr) (fun _ i _ => (arr + 1 - intOf i).toNat)
    case atStart => exact ⟨0, Nat.zero_le _, by simp, fun j hj => absurd hj (Nat.not_lt_zero _), Owns.nil _ _ _ _ _, Ext.refl _⟩
    case round =>
      obtain ⟨k, hk, rfl, hlow, hown, he⟩ := hrel
      replace hlow := Lib.hid hlow
      obtain ⟨⟨lb, p0, p1, p2, p3, p4, p5, p6, p7, p8, p9, p10, p11, p12, p13⟩, ⟨lm, m0, m1, m2, m3, m4⟩, lf, f0, f1, f2, f3, f4⟩ := hB.out.ext (hx2.trans he)
      have hIr := Lib.hid (hI.out.ext (hx2.trans he))
      have hes := he.size
      by_cases hlt : I.f.depart + (k : Int) ≤ arr
      · have hkl : k < I.P.ticks := by omega
        have hb1 := hbr.out (I.f.depart + k) (by omega) hlt
        have hs1 := hsa.out k
        have hb2 := hba.out k
        generalize I.P.all (I.f.depart + k) false = L at *
        rcases Bool.eq_false_or_eq_true (hasBest L) with hh | hh
        · rw [if_pos hh, ← hb2] at hb1
          rw [hh] at hs1
          replace hb1 := Lib.hid hb1
          replace hs1 := Lib.hid hs1
          have hpk := Lib.hid (hps.out k)
          have hlen := Lib.hid (show (I.P.proofTo false k).length ≤ 1000000000 by rw [hpl.out]; omega)
          clear hb2 hh
          generalize I.P.bestAt false k = x at *
          replace hown := Lib.hid hown
          have hq2 := Lib.hid (fun g (hg : u11.ownBlock = some g) => (hown.out.lt hg).1)
          go_upto_region 9 with (first | (go_at_call 80; refine (end_80 I _ (hIr.out.ext (by with_reducible (repeat first | assumption | exact Ext.refl _ | refine Ext.set ?_ (by omega) _ | refine Ext.alloc ?_ _ | refine Ext.drew ?_ | refine Ext.drewN ?_ _ | refine Ext.trans ?_ (by assumption)))) hn.out hf.out).mono ?_; rw [harr.out]; rintro e1 w3 ⟨rfl, hb3⟩; have hx3 : Ext wr w3 := (by with_reducible (repeat first | assumption | exact Ext.refl _ | refine Ext.set ?_ (by omega) _ | refine Ext.alloc ?_ _ | refine Ext.drew ?_ | refine Ext.drewN ?_ _ | refine Ext.trans ?_ (by assumption))); obtain ⟨hc3, hf3, hz3⟩ := hx3.cells; have hs3 := hb3.size) | (go_at_call 21; refine (Best_21 I (I.f.depart + k) _ (hIr.out.ext (by with_reducible (repeat first | assumption | exact Ext.refl _ | refine Ext.set ?_ (by omega) _ | refine Ext.alloc ?_ _ | refine Ext.drew ?_ | refine Ext.drewN ?_ _ | refine Ext.trans ?_ (by assumption))))).mono ?_; rw [hb1.out]; rintro e1 w4 ⟨rfl, hb4⟩; have hx4 : Ext wr w4 := (by with_reducible (repeat first | assumption | exact Ext.refl _ | refine Ext.set ?_ (by omega) _ | refine Ext.alloc ?_ _ | refine Ext.drew ?_ | refine Ext.drewN ?_ _ | refine Ext.trans ?_ (by assumption))); obtain ⟨hc4, hf4, hz4⟩ := hx4.cells; have hs4 := hb4.size))
          refine name_as (P := fun W => HvAt W w4.heap.size x ∧ Ext wr W) (R := fun W => Code.wp _ _ _ _ W) ⟨⟨by simp, by simp, by simp, by simp, fun o => by simp⟩, (by with_reducible (repeat first | assumption | exact Ext.refl _ | refine Ext.set ?_ (by omega) _ | refine Ext.alloc ?_ _ | refine Ext.drew ?_ | refine Ext.drewN ?_ _ | refine Ext.trans ?_ (by assumption)))⟩ fun W5 ⟨hH, hx5⟩ => ?_
          obtain ⟨l5, y0, y1, y2, y3⟩ := hH
          have hs5 := hx5.size
          have hq1 := Lib.hid (show w2.heap.size ≤ W5.heap.size by omega)
          have hO5 := Lib.hid (hown.out.ext hx5)
          go_wp2_with (at_builtin; go_loud (refine append_one e_haven Haven.enc (fun _ => rfl) haven_one rfl _ _ rfl w2.heap.size u11 (I.P.proofTo false k) rfl x #[.int .i64 x.place, .int .i64 x.at_, .bool x.back] rfl W5.heap.size rfl rfl (w := W5) hO5.out hq1.out hlen.out ?_); intro v' w6 hown2 hgrow)
          go_roundw
          case rel => exact ⟨k + 1, by omega, by rw [show I.f.depart + (k : Int) + 1 = I.f.depart + ((k + 1 : Nat) : Int) by omega], fun j hj => (by rcases Nat.lt_or_ge j k with gg | gg; exact hlow.out j gg; obtain rfl : j = k := (by omega); exact hs1.out), by rw [hpk.out]; exact hown2, grown_ext w2 (he.trans hx5) (Nat.le_refl _) (fun g hg => hq2.out g hg) hgrow⟩
          case measure => simp [intOf]; omega
        · rw [if_neg (by simp [hh])] at hb1
          rw [hh] at hs1
          have hres := Lib.hid (hno.out k hkl hs1)
          replace hb1 := Lib.hid hb1
          clear hb2 hs1 hh hown
          go_wp2_with (first | (go_at_call 80; refine (end_80 I _ (hIr.out.ext (by with_reducible (repeat first | assumption | exact Ext.refl _ | refine Ext.set ?_ (by omega) _ | refine Ext.alloc ?_ _ | refine Ext.drew ?_ | refine Ext.drewN ?_ _ | refine Ext.trans ?_ (by assumption)))) hn.out hf.out).mono ?_; rw [harr.out]; rintro e1 w3 ⟨rfl, hb3⟩; have hx3 : Ext wr w3 := (by with_reducible (repeat first | assumption | exact Ext.refl _ | refine Ext.set ?_ (by omega) _ | refine Ext.alloc ?_ _ | refine Ext.drew ?_ | refine Ext.drewN ?_ _ | refine Ext.trans ?_ (by assumption))); obtain ⟨hc3, hf3, hz3⟩ := hx3.cells; have hs3 := hb3.size) | (go_at_call 21; refine (Best_21 I (I.f.depart + k) _ (hIr.out.ext (by with_reducible (repeat first | assumption | exact Ext.refl _ | refine Ext.set ?_ (by omega) _ | refine Ext.alloc ?_ _ | refine Ext.drew ?_ | refine Ext.drewN ?_ _ | refine Ext.trans ?_ (by assumption))))).mono ?_; rw [hb1.out]; rintro e1 w4 ⟨rfl, hb4⟩; have hx4 : Ext wr w4 := (by with_reducible (repeat first | assumption | exact Ext.refl _ | refine Ext.set ?_ (by omega) _ | refine Ext.alloc ?_ _ | refine Ext.drew ?_ | refine Ext.drewN ?_ _ | refine Ext.trans ?_ (by assumption))); obtain ⟨hc4, hf4, hz4⟩ := hx4.cells; have hs4 := hb4.size))
          go_ret2
          exact ProofPost42.no hres.out (by decide) (by with_reducible (repeat first | assumption | exact Ext.refl _ | refine Ext.set ?_ (by omega) _ | refine Ext.alloc ?_ _ | refine Ext.drew ?_ | refine Ext.drewN ?_ _ | refine Ext.trans ?_ (by assumption)))
      · obtain rfl : k = I.P.ticks := by omega
        obtain ⟨r1, r2⟩ := hyes.out hlow.out
        have hpl2 := hpl.out I.P.ticks
        generalize I.P.proofTo false I.P.ticks = L at *
        obtain ⟨A, c, rfl, hR⟩ := hown.rows (fun _ => rfl) (by omega)
        replace r1 := Lib.hid r1
        replace r2 := Lib.hid r2
        replace hR := Lib.hid hR
        clear hown hpl2
        go_wp2_with (first | (go_at_call 80; refine (end_80 I _ (hIr.out.ext (by with_reducible (repeat first | assumption | exact Ext.refl _ | refine Ext.set ?_ (by omega) _ | refine Ext.alloc ?_ _ | refine Ext.drew ?_ | refine Ext.drewN ?_ _ | refine Ext.trans ?_ (by assumption)))) hn.out hf.out).mono ?_; rw [harr.out]; rintro e1 w3 ⟨rfl, hb3⟩; have hx3 : Ext wr w3 := (by with_reducible (repeat first | assumption | exact Ext.refl _ | refine Ext.set ?_ (by omega) _ | refine Ext.alloc ?_ _ | refine Ext.drew ?_ | refine Ext.drewN ?_ _ | refine Ext.trans ?_ (by assumption))); obtain ⟨hc3, hf3, hz3⟩ := hx3.cells; have hs3 := hb3.size))
        go_ret2
        exact ProofPost42.yes r1.out r2.out (hR.out.ext (by with_reducible (repeat first | assumption | exact Ext.refl _ | refine Ext.set ?_ (by omega) _ | refine Ext.alloc ?_ _ | refine Ext.drew ?_ | refine Ext.drewN ?_ _ | refine Ext.trans ?_ (by assumption)))) (by with_reducible (repeat first | assumption | exact Ext.refl _ | refine Ext.set ?_ (by omega) _ | refine Ext.alloc ?_ _ | refine Ext.drew ?_ | refine Ext.drewN ?_ _ | refine Ext.trans ?_ (by assumption)))
  · have hR := Lib.hid (show I.proofC = I.err by unfold Inp.proofC; rw [if_neg hc])
    have hbb : (I.err == (0 : Int)) = false := beq_eq_false_iff_ne.2 hc
    have hbn : (I.err != (0 : Int)) = true := by rw [bne_iff_ne]; exact hc
    replace hc := Lib.hid hc
    go_enter Tryz.func43, Tryz.ntmps43
    go_upto_region 1 with (fail)
    refine name_as (P := fun W => Box3 I w.heap.size W ∧ Ext w W) (R := fun W => Code.wp _ _ _ _ W) ⟨⟨⟨by first | (simp; done) | (simp; omega), by go_simp, by go_simp, by go_simp, by go_simp, by go_simp, by go_simp, by go_simp, by go_simp, by go_simp, by go_simp, by go_simp, by go_simp, by go_simp, by go_simp⟩, ⟨by first | (simp; done) | (simp; omega), by go_simp, by go_simp, by go_simp, by go_simp, by go_simp⟩, by simp, by go_simp, by go_simp, by go_simp, by go_simp, by go_simp⟩, (by with_reducible (repeat first | assumption | exact Ext.refl _ | refine Ext.set ?_ (by omega) _ | refine Ext.alloc ?_ _ | refine Ext.drew ?_ | refine Ext.drewN ?_ _ | refine Ext.trans ?_ (by assumption)))⟩ fun W1 ⟨hB, hxw⟩ => ?_
    replace hB := Lib.hid hB
    obtain ⟨⟨lb, p0, p1, p2, p3, p4, p5, p6, p7, p8, p9, p10, p11, p12, p13⟩, ⟨lm, m0, m1, m2, m3, m4⟩, lf, f0, f1, f2, f3, f4⟩ := hB.out
    have hI := Lib.hid (h.ext hxw)
    go_wp2_with (go_at_call 79; refine (checkAll_79 I _ (hI.out.ext (by with_reducible (repeat first | assumption | exact Ext.refl _ | refine Ext.set ?_ (by omega) _ | refine Ext.alloc ?_ _ | refine Ext.drew ?_ | refine Ext.drewN ?_ _ | refine Ext.trans ?_ (by assumption))))).mono ?_; rintro e1 w2 ⟨rfl, hb2⟩; have hx2 : Ext W1 w2 := (by with_reducible (repeat first | assumption | exact Ext.refl _ | refine Ext.set ?_ (by omega) _ | refine Ext.alloc ?_ _ | refine Ext.drew ?_ | refine Ext.drewN ?_ _ | refine Ext.trans ?_ (by assumption))); obtain ⟨hc2, hf2, hz2⟩ := hx2.cells; have hs2 := hb2.size)
    go_ret2
    exact ProofPost42.no hR.out hc.out (by with_reducible (repeat first | assumption | exact Ext.refl _ | refine Ext.set ?_ (by omega) _ | refine Ext.alloc ?_ _ | refine Ext.drew ?_ | refine Ext.drewN ?_ _ | refine Ext.trans ?_ (by assumption)))
end Go.Proofs.YtmmimbcfgobnaaaGreat
