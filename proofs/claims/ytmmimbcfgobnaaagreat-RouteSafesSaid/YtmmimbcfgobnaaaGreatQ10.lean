/- The reference: Reach. NoReturn: the program's and the reference's. -/
import Derived.Test.YtmmimbcfgobnaaaGreatD5
import Derived.Test.YtmmimbcfgobnaaaGreatQ7
set_option linter.unusedVariables false
set_option linter.unusedSimpArgs false
namespace Go.Proofs.YtmmimbcfgobnaaaGreat
open Go.RowKit
set_option linter.unusedVariables false
set_option linter.unusedSimpArgs false
attribute [local go_sem] stored_match isSome_setCell

theorem getD_some {r : List Int} {i : Nat} (h : i < r.length) : r[i]? = some (r.getD i 0) := by
  rw [List.getD_eq_getElem?_getD, List.getElem?_eq_getElem h]; rfl
set_option maxRecDepth 100000 in
set_option maxHeartbeats 2000000 in
theorem Reach_47 (I : Inp) (tick : Int) (pl : Nat) (w : World) (h : I.In w) (hn : I.N.good = true) (hf : I.f.good I.m.places I.N.L = true) (t0 : I.f.depart ≤ tick) (t1 : tick ≤ I.f.arrival I.N.L) (p1 : pl < I.N.n) :
    Calls Tryz.prog 47 #[I.vm, I.vn, I.vf, .int .i64 tick, .int .i64 pl] w fun e w' => e = .returned (.tuple #[.int .i64 (I.P.at47 tick pl).1, .bool (I.P.at47 tick pl).2]) ∧ Ext w w' := by
  simp only [Inp.vm, Inp.vn, Inp.vf, Met.val, Flight.val]
  obtain ⟨hp, hr, hj, ha⟩ := Flight.good_parts hf
  obtain ⟨⟨l1, l2⟩, ⟨d1, d2⟩, -⟩ := Flight.plain_parts hp
  obtain ⟨-, hpl, ⟨n1, n2, n3, n8⟩, hLu, hTu⟩ := Net.good_parts hn
  have hll : I.f.last + 1 = I.f.route.length := by unfold Flight.last; omega
  have har : I.f.arrival I.N.L = I.f.at I.N.L I.f.last := rfl
  rw [har] at t1 ha
  have hst := Lib.hid (Flight.at_step hLu hf)
  have hpo := Lib.hid (fun i hi => Flight.place_ok hn hf i hi)
  have hTu := Lib.hid hTu
  have hEq := Lib.hid (fun i hi h1 h2 => Plan.refR_eq I.P hn hf (tick := tick) (place := pl) t0 ⟨by omega, by show (pl : Int) < (I.N.n : Int); omega⟩ (i := i) hi h1 h2)
  have hn := Lib.hid hn
  have hf := Lib.hid hf
  clear hp hr hj hLu har
  generalize hA : I.f.at I.N.L = a at *
  go_enter Tryz.func47, Tryz.ntmps47
  go_wp2_with (first | (go_at_call 67; refine (flown_ok I _ (h.ext (by with_reducible (repeat first | assumption | exact Ext.refl _ | refine Ext.set ?_ (by omega) _ | refine Ext.alloc ?_ _ | refine Ext.drew ?_ | refine Ext.drewN ?_ _ | refine Ext.trans ?_ (by assumption)))) hn.out hf.out).mono ?_; rintro e1 w1 ⟨⟨A, c, rfl, hR⟩, hb1⟩; obtain ⟨hc1, hf1, hz1⟩ := hb1.cells; have hs1 := hb1.size; (try simp at hs1); replace hR := Lib.hid hR) | (go_at_call 66; refine (times_66 I.N I.AF I.AS I.nF I.cF I.nS I.cS I.AX I.nX I.cX _ (h.net.ext (by with_reducible (repeat first | assumption | exact Ext.refl _ | refine Ext.set ?_ (by omega) _ | refine Ext.alloc ?_ _ | refine Ext.drew ?_ | refine Ext.drewN ?_ _ | refine Ext.trans ?_ (by assumption)))) hn.out).mono ?_; rintro e1 w2 ⟨lo, hi, g, c2, r, cp, rfl, hT, hb2⟩; obtain ⟨hc2, hf2, hz2⟩ := hb2.cells; have hs2 := hb2.size; replace hT := Lib.hid hT))
  have hw2 : Ext w w2 := (by with_reducible (repeat first | assumption | exact Ext.refl _ | refine Ext.set ?_ (by omega) _ | refine Ext.alloc ?_ _ | refine Ext.drew ?_ | refine Ext.drewN ?_ _ | refine Ext.trans ?_ (by assumption)))
  have q0 : w2.cell? ⟨w.heap.size + 1, 0, none⟩ = some (.slice I.AR I.nR I.cR) := by go_simp
  have q1 : w.heap.size + 1 < w2.heap.size := by omega
  have hR2 := Lib.hid (hR.out.ext hb2)
  clear hc1 hf1 hz1 hc2 hf2 hz2 hR
  go_loopw [15] (fun i wr => ∃ k : Nat, k ≤ I.f.last ∧ i = .int .i64 k ∧ (∀ j, j < k → a j < tick) ∧ Ext w2 wr) (fun i _ => I.f.last - (intOf i).toNat)
  case atStart => exact ⟨0, Nat.zero_le _, rfl, fun j hj => absurd hj (Nat.not_lt_zero _), Ext.refl _⟩
  case round =>
    obtain ⟨k, hk, rfl, hlow, he⟩ := hrel
    have hlow := Lib.hid hlow
    obtain ⟨b0, off, hA0, hb0, k0⟩ := (hR2.out.ext he).intx (j := k) (by omega) (Flight.atList_at _ _ (by omega))
    rw [hA] at k0
    by_cases hlt : a k < tick
    · have hne : k ≠ I.f.last := by intro e; subst e; omega
      subst hA0
      go_wp2_with fail
      go_roundw
      case rel => exact ⟨k + 1, by omega, by go_num, fun j hj => (by rcases Nat.lt_or_ge j k with gg | gg; exact hlow.out j gg; obtain rfl : j = k := (by omega); exact hlt), (by with_reducible (repeat first | assumption | exact Ext.refl _ | refine Ext.set ?_ (by omega) _ | refine Ext.alloc ?_ _ | refine Ext.drew ?_ | refine Ext.drewN ?_ _ | refine Ext.trans ?_ (by assumption)))⟩
      case measure => simp [intOf]; omega
    · have hge : tick ≤ a k := by omega
      have hE := Lib.hid (hEq.out k hk hlow.out hge)
      have hxk := Lib.hid (getD_some (r := I.f.route) (i := k) (by omega))
      obtain ⟨x0, x1⟩ := hpo.out k hk
      obtain ⟨x, hx⟩ := Int.eq_ofNat_of_zero_le x0
      have hIr := Lib.hid (h.ext (hw2.trans he))
      have hTr := Lib.hid (hT.out.ext he)
      have q2 := (he.cells.1 _ _ q1).trans q0
      have q3 := he.cells.2.2 _ q1
      have z1 := (hst.out k (by omega))
      obtain ⟨z1, z2, -⟩ := z1
      have r0 := hxk.out
      rw [hx] at r0 x1
      have hx2 : x < I.N.n := by omega
      obtain ⟨b1, off1, hA1, hb1', k1⟩ := hIr.out.route.intx (j := k) (by rw [← hIr.out.route.len]; omega) r0
      have r1 := hTr.out.row x hx2
      have r2 := hTr.out.cell x pl hx2 p1
      have r3 := Nat.lt_of_lt_of_le hTr.out.g2 hTr.out.hi_
      have r4 := Nat.lt_of_lt_of_le (hTr.out.r2 x hx2) hTr.out.hi_
      have r5 := hTu.out x pl
      obtain ⟨A', rfl⟩ : ∃ A', A' = I.AR := ⟨_, rfl⟩
      obtain ⟨r51, r52⟩ := r5
      have l9 := hIr.out.route.len
      clear r0 hxk
      by_cases ht : a k = tick
      · by_cases hT0 : 0 ≤ I.N.T x pl
        · have hres := Lib.hid (show I.P.at47 tick pl = (I.N.T x pl + a k, false) by rw [← hE.out]; unfold refR onOf; rw [show I.P.f.route.getD k 0 = x from hx, if_pos ht, if_pos hT0])
          go_wp2_with fail
          go_ret2
          exact ⟨by rw [hres.out, ht]; rfl, (by with_reducible (repeat first | assumption | exact Ext.refl _ | refine Ext.set ?_ (by omega) _ | refine Ext.alloc ?_ _ | refine Ext.drew ?_ | refine Ext.drewN ?_ _ | refine Ext.trans ?_ (by assumption)))⟩
        · have hres := Lib.hid (show I.P.at47 tick pl = (I.N.T x pl, false) by rw [← hE.out]; unfold refR onOf; rw [show I.P.f.route.getD k 0 = x from hx, if_pos ht, if_neg hT0])
          go_wp2_with fail
          go_ret2
          exact ⟨by rw [hres.out]; rfl, (by with_reducible (repeat first | assumption | exact Ext.refl _ | refine Ext.set ?_ (by omega) _ | refine Ext.alloc ?_ _ | refine Ext.drew ?_ | refine Ext.drewN ?_ _ | refine Ext.trans ?_ (by assumption)))⟩
      · have hk0 : k ≠ 0 := by
          intro e
          subst e
          have e0 : a 0 = I.f.depart := by rw [← hA]; rfl
          omega
        obtain ⟨y0, y1⟩ := hpo.out (k - 1) (by omega)
        obtain ⟨y, hy⟩ := Int.eq_ofNat_of_zero_le y0
        rw [hy] at y1
        have hy2 : y < I.N.n := by omega
        have ryk := getD_some (r := I.f.route) (i := k - 1) (by omega)
        rw [hy] at ryk
        obtain ⟨b2, off2, hA2, hb2', k2⟩ := hIr.out.route.intx (j := k - 1) (by omega) ryk
        rw [hA1] at hA2
        simp only [Option.some.injEq, Addr.mk.injEq, and_true] at hA2
        obtain ⟨rfl, rfl⟩ := hA2
        obtain ⟨b3, off3, hA3, hb3', k3⟩ := (hR2.out.ext he).intx (j := k - 1) (by omega) (Flight.atList_at _ _ (by omega))
        rw [hA] at k3
        rw [hA0] at hA3
        simp only [Option.some.injEq, Addr.mk.injEq, and_true] at hA3
        obtain ⟨rfl, rfl⟩ := hA3
        have s1 := hTr.out.row y hy2
        have s2 := hTr.out.cell y pl hy2 p1
        have s4 := Nat.lt_of_lt_of_le (hTr.out.r2 y hy2) hTr.out.hi_
        obtain ⟨s51, s52⟩ := hTu.out y pl
        have z3 := hlow.out (k - 1) (by omega)
        have z5 := (hst.out (k - 1) (by omega)).1
        have hkk : ((k : Int) - 1) = ((k - 1 : Nat) : Int) := by omega
        clear ryk hEq hpo hst hlow
        generalize hv : a (k - 1) = v at *
        by_cases hS : I.N.T y pl < 0
        · by_cases hT0 : 0 ≤ I.N.T x pl
          · have hres := Lib.hid (show I.P.at47 tick pl = (I.N.T x pl + a k, false) by rw [← hE.out]; unfold refR onOf; rw [hv, show I.P.f.route.getD k 0 = x from hx, if_neg ht, show I.P.f.route.getD (k - 1) 0 = y from hy, if_pos hS, if_pos hT0])
            go_wp2_with fail
            go_ret2
            exact ⟨by rw [hres.out]; rfl, (by with_reducible (repeat first | assumption | exact Ext.refl _ | refine Ext.set ?_ (by omega) _ | refine Ext.alloc ?_ _ | refine Ext.drew ?_ | refine Ext.drewN ?_ _ | refine Ext.trans ?_ (by assumption)))⟩
          · have hres := Lib.hid (show I.P.at47 tick pl = (I.N.T x pl, false) by rw [← hE.out]; unfold refR onOf; rw [hv, show I.P.f.route.getD k 0 = x from hx, if_neg ht, show I.P.f.route.getD (k - 1) 0 = y from hy, if_pos hS, if_neg hT0])
            go_wp2_with fail
            go_ret2
            exact ⟨by rw [hres.out]; rfl, (by with_reducible (repeat first | assumption | exact Ext.refl _ | refine Ext.set ?_ (by omega) _ | refine Ext.alloc ?_ _ | refine Ext.drew ?_ | refine Ext.drewN ?_ _ | refine Ext.trans ?_ (by assumption)))⟩
        · by_cases hT0 : 0 ≤ I.N.T x pl
          · by_cases hB : I.N.T y pl + (tick + (tick - v)) < I.N.T x pl + a k
            · have hres := Lib.hid (show I.P.at47 tick pl = (I.N.T y pl + (tick + (tick - v)), true) by rw [← hE.out]; unfold refR onOf; rw [hv, show I.P.f.route.getD k 0 = x from hx, if_neg ht, show I.P.f.route.getD (k - 1) 0 = y from hy, if_neg hS, if_pos hT0, if_pos (Or.inr hB)])
              go_wp2_with fail
              go_ret2
              exact ⟨by rw [hres.out]; rfl, (by with_reducible (repeat first | assumption | exact Ext.refl _ | refine Ext.set ?_ (by omega) _ | refine Ext.alloc ?_ _ | refine Ext.drew ?_ | refine Ext.drewN ?_ _ | refine Ext.trans ?_ (by assumption)))⟩
            · have hres := Lib.hid (show I.P.at47 tick pl = (I.N.T x pl + a k, false) by rw [← hE.out]; unfold refR onOf; rw [hv, show I.P.f.route.getD k 0 = x from hx, if_neg ht, show I.P.f.route.getD (k - 1) 0 = y from hy, if_neg hS, if_pos hT0, if_neg (show ¬ (I.N.T x pl + a k < 0 ∨ I.N.T y pl + (tick + (tick - v)) < I.N.T x pl + a k) by omega)])
              go_upto_region 15 with (fail)
              have hB1 : ¬ (I.N.T y pl + (tick + (tick - v)) < I.N.T x pl + a k) := by omega
              have hB2 : ¬ (I.N.T x pl + a k < 0) := by omega
              go_wp2_with fail
              go_ret2
              exact ⟨by rw [hres.out]; rfl, (by with_reducible (repeat first | assumption | exact Ext.refl _ | refine Ext.set ?_ (by omega) _ | refine Ext.alloc ?_ _ | refine Ext.drew ?_ | refine Ext.drewN ?_ _ | refine Ext.trans ?_ (by assumption)))⟩
          · have hres := Lib.hid (show I.P.at47 tick pl = (I.N.T y pl + (tick + (tick - v)), true) by rw [← hE.out]; unfold refR onOf; rw [hv, show I.P.f.route.getD k 0 = x from hx, if_neg ht, show I.P.f.route.getD (k - 1) 0 = y from hy, if_neg hS, if_neg hT0, if_pos (Or.inl (show I.N.T x pl < 0 by omega))])
            go_wp2_with fail
            go_ret2
            exact ⟨by rw [hres.out]; rfl, (by with_reducible (repeat first | assumption | exact Ext.refl _ | refine Ext.set ?_ (by omega) _ | refine Ext.alloc ?_ _ | refine Ext.drew ?_ | refine Ext.drewN ?_ _ | refine Ext.trans ?_ (by assumption)))⟩
end Go.Proofs.YtmmimbcfgobnaaaGreat
namespace Go.Proofs.YtmmimbcfgobnaaaGreat
open Go.RowKit
set_option linter.unusedVariables false
set_option linter.unusedSimpArgs false
attribute [local go_sem] stored_match isSome_setCell

def Inp.nr (I : Inp) : Int × Int := if I.err0 = 0 then I.P0.noRet else (0, I.err0)
set_option maxRecDepth 100000 in
set_option maxHeartbeats 2000000 in
theorem lasts_83 (I : Inp) (tick : Int) (t0 : -1000000 ≤ tick) (t1 : tick ≤ 1000000) (w : World) (hf : I.f.plain = true) :
    Calls Tryz.prog 83 #[I.vf, .int .i64 tick] w fun e w' => e = .returned (.bool (I.f.lasts tick)) ∧ Ext w w' := by
  obtain ⟨_, ⟨d1, d2⟩, ⟨d3, d4⟩, ⟨d5, d6⟩, ⟨d7, d8⟩⟩ := Flight.plain_parts hf
  have hm := mul_bd (a := I.f.burn) (b := tick - I.f.depart) (A := 100000) (B := 1002000) (by omega) d8 (by omega) (by omega) (by omega)
  have hl := Lib.hid (show I.f.lasts tick = decide (I.f.reserve ≤ I.f.fuel - I.f.burn * (tick - I.f.depart)) from rfl)
  have s1 : IntKind.i64.wrap (tick - I.f.depart) = tick - I.f.depart := IntWalk.i64_in _ (by omega)
  have s2 : IntKind.i64.wrap (I.f.burn * (tick - I.f.depart)) = I.f.burn * (tick - I.f.depart) := IntWalk.i64_in _ (by omega)
  have s3 : IntKind.i64.wrap (I.f.fuel - I.f.burn * (tick - I.f.depart)) = I.f.fuel - I.f.burn * (tick - I.f.depart) := IntWalk.i64_in _ (by omega)
  clear hm
  simp only [Inp.vf, Flight.val]
  go_enter Tryz.func83, Tryz.ntmps83
  go_wp2_with fail
  try (go_quiet (fail); go_wp2_with fail)
  go_ret
  exact ⟨by rw [hl.out]; rfl, (by with_reducible (repeat first | assumption | exact Ext.refl _ | refine Ext.set ?_ (by omega) _ | refine Ext.alloc ?_ _ | refine Ext.drew ?_ | refine Ext.drewN ?_ _ | refine Ext.trans ?_ (by assumption)))⟩
set_option maxRecDepth 100000 in
set_option maxHeartbeats 2000000 in
theorem NoReturn_37 (I : Inp) (w : World) (h : I.In w) :
    Calls Tryz.prog 37 #[I.vm, I.vn, I.vf] w fun e w' => e = .returned (.tuple #[.int .i64 I.nr.1, .int .i64 I.nr.2]) ∧ Ext w w' := by
  simp only [Inp.vm, Inp.vn, Inp.vf, Met.val, Flight.val]
  by_cases hc : I.err0 = 0
  · have hnr := Lib.hid (show I.nr = I.P0.noRet by unfold Inp.nr; rw [if_pos hc])
    obtain ⟨hn, hf⟩ := Inp.err0_good hc
    obtain ⟨⟨l1, l2⟩, ⟨d1, d2⟩, -⟩ := Flight.plain_parts (Flight.good_parts hf).1
    have ha := (Flight.good_parts hf).2.2.2
    obtain ⟨x0, x1⟩ := Flight.place_ok hn hf 0 (Nat.zero_le _)
    have n2 := (Net.good_parts hn).2.2.1.1
    have hpl : I.f.route.getD 0 0 < I.P0.N.met.places := by show _ < I.N.met.places; omega
    have hda : I.f.depart ≤ I.f.arrival I.N.L := (Flight.at_step (Net.good_parts hn).2.2.2.1 hf I.f.last (by unfold Flight.last; omega)).1
    have hti : (I.P0.ticks : Int) = I.f.arrival I.N.L - I.f.depart + 1 := by unfold Plan.ticks; show ((I.f.arrival I.N.L - I.f.depart + 1).toNat : Int) = _; omega
    have hon := Lib.hid (fun (t : Int) (t0 : I.f.depart ≤ t) (t1 : t ≤ I.f.arrival I.N.L) => And.intro (I.P0.reach_on hn hf (tick := t) t0 t1 (j := 0) (Nat.zero_le _)) (I.P0.reach_bd hn hf (place := I.f.route.getD 0 0) t0 t1))
    have hc := Lib.hid hc
    have hgs := getD_some (r := I.f.route) (i := 0) (by omega)
    have hgo : ∀ k : Nat, I.P0.gone k = !I.f.lasts (I.P0.home (I.f.arrival I.N.L - k)) := fun k => rfl
    have hho : ∀ t, I.P0.home t = (I.P0.reach t (I.f.route.getD 0 0)).1.at_ := fun t => rfl
    have hgo := Lib.hid hgo
    have hho := Lib.hid hho
    have hnn := Lib.hid (fun (k : Nat) h1 h2 h3 => (I.P0.noRet_at (k := k) h1 h2 h3 : I.P0.noRet = (I.f.arrival I.N.L - k, 0)))
    have hno := Lib.hid (Plan.noRet_none (P := I.P0))
    generalize harr : I.f.arrival I.N.L = arr at *
    have harr := Lib.hid harr
    generalize I.f.route.getD 0 0 = x at *
    go_enter Tryz.func37, Tryz.ntmps37
    go_wp2_with (first | (go_at_call 64; refine (newFlight_ok0 I _ (h.ext (by with_reducible (repeat first | assumption | exact Ext.refl _ | refine Ext.set ?_ (by omega) _ | refine Ext.alloc ?_ _ | refine Ext.drew ?_ | refine Ext.drewN ?_ _ | refine Ext.trans ?_ (by assumption)))) hc.out).mono ?_; rintro e1 w1 ⟨⟨p, r, rfl, hP⟩, hb1⟩; obtain ⟨hc1, hf1, hz1⟩ := hb1.cells; have hs1 := hb1.size; (try simp at hs1); replace hP := Lib.hid hP) | (go_at_call 77; refine (arrival_77 I.P0 p r _ (hP.out.ext (by with_reducible (repeat first | assumption | exact Ext.refl _ | refine Ext.set ?_ (by omega) _ | refine Ext.alloc ?_ _ | refine Ext.drew ?_ | refine Ext.drewN ?_ _ | refine Ext.trans ?_ (by assumption))))).mono ?_; rintro e1 w2 ⟨rfl, hb2⟩; obtain ⟨hc2, hf2, hz2⟩ := hb2.cells; have hs2 := hb2.size))
    have hw2 : Ext w w2 := (by with_reducible (repeat first | assumption | exact Ext.refl _ | refine Ext.set ?_ (by omega) _ | refine Ext.alloc ?_ _ | refine Ext.drew ?_ | refine Ext.drewN ?_ _ | refine Ext.trans ?_ (by assumption)))
    have q0 : w2.cell? ⟨w.heap.size + 1, 0, none⟩ = some (.slice I.AR I.nR I.cR) := by go_simp
    have q1 : w2.cell? ⟨w.heap.size + 1, 1, none⟩ = some (.int .i64 I.f.depart) := by go_simp
    have q2 : w.heap.size + 1 < w2.heap.size := by omega
    have hP2 := Lib.hid (hP.out.ext hb2)
    clear hc1 hf1 hz1 hc2 hf2 hz2 hP
    go_loopw [10, 11] (fun i _ wr => ∃ k : Nat, k ≤ I.P0.ticks ∧ i = .int .i64 (arr - k) ∧ (∀ j, j < k → I.P0.gone j = true) ∧ Ext w2 wr) (fun i _ _ => (intOf i - I.f.depart + 1).toNat)
    case atStart => exact ⟨0, Nat.zero_le _, by simp, fun j hj => absurd hj (Nat.not_lt_zero _), Ext.refl _⟩
    case round =>
      obtain ⟨k, hk, rfl, hlow, he⟩ := hrel
      have hlow := Lib.hid hlow
      have g0 := (he.cells.1 _ _ (show w.heap.size + 1 < w2.heap.size from q2)).trans q0
      have g1 := (he.cells.1 _ _ (show w.heap.size + 1 < w2.heap.size from q2)).trans q1
      have g2 := he.cells.2.2 _ q2
      have hes := he.size
      have hIr := Lib.hid (h.ext (hw2.trans he))
      have hPr := Lib.hid (hP2.out.ext he)
      obtain ⟨b1, off1, hA1, hb1', k1⟩ := hIr.out.route.intx (j := 0) (by rw [← hIr.out.route.len]; omega) hgs
      have l9 := hIr.out.route.len
      simp only [Nat.add_zero] at k1
      by_cases hlt : k < I.P0.ticks
      · have t0 : I.f.depart ≤ arr - k := by omega
        have t1 : arr - (k : Int) ≤ arr := by omega
        obtain ⟨o1, o2, o3⟩ := hon.out (arr - k) t0 t1
        obtain ⟨⟨hv, is⟩, hx⟩ : ∃ y, I.P0.reach (arr - k) x = y := ⟨_, rfl⟩
        have hh := hho.out (arr - k)
        rw [hx] at o1 o2 o3 hh
        obtain rfl : is = true := o1
        have hg := hgo.out k
        rw [hh] at hg
        have hx := Lib.hid hx
        dsimp only at o2 o3 hg
        rcases Bool.eq_false_or_eq_true (I.f.lasts hv.at_) with hl | hl
        · rw [hl] at hg
          have hres := Lib.hid (hnn.out k hlow.out hg hlt)
          go_wp2_with (first | (go_at_call 81; refine (reach_81 I.P0 p r (arr - k) x _ (hPr.out.ext (by with_reducible (repeat first | assumption | exact Ext.refl _ | refine Ext.set ?_ (by omega) _ | refine Ext.alloc ?_ _ | refine Ext.drew ?_ | refine Ext.drewN ?_ _ | refine Ext.trans ?_ (by assumption)))) t0 (by rw [harr.out]; exact t1) x0 hpl).mono ?_; rw [hx.out]; rintro e1 w3 ⟨rfl, hb3⟩; obtain ⟨hc3, hf3, hz3⟩ := hb3.cells; have hs3 := hb3.size; (try simp at hs3)) | (go_at_call 82; refine (lasts_82 I.P0 p r hv.at_ (by omega) (by omega) _ (hPr.out.ext (by with_reducible (repeat first | assumption | exact Ext.refl _ | refine Ext.set ?_ (by omega) _ | refine Ext.alloc ?_ _ | refine Ext.drew ?_ | refine Ext.drewN ?_ _ | refine Ext.trans ?_ (by assumption))))).mono ?_; rw [show I.P0.f.lasts hv.at_ = _ from hl]; rintro e1 w4 ⟨rfl, hb4⟩; obtain ⟨hc4, hf4, hz4⟩ := hb4.cells))
          go_ret2
          exact ⟨by rw [hnr.out, hres.out]; rfl, (by with_reducible (repeat first | assumption | exact Ext.refl _ | refine Ext.set ?_ (by omega) _ | refine Ext.alloc ?_ _ | refine Ext.drew ?_ | refine Ext.drewN ?_ _ | refine Ext.trans ?_ (by assumption)))⟩
        · rw [hl] at hg
          go_wp2_with (first | (go_at_call 81; refine (reach_81 I.P0 p r (arr - k) x _ (hPr.out.ext (by with_reducible (repeat first | assumption | exact Ext.refl _ | refine Ext.set ?_ (by omega) _ | refine Ext.alloc ?_ _ | refine Ext.drew ?_ | refine Ext.drewN ?_ _ | refine Ext.trans ?_ (by assumption)))) t0 (by rw [harr.out]; exact t1) x0 hpl).mono ?_; rw [hx.out]; rintro e1 w3 ⟨rfl, hb3⟩; obtain ⟨hc3, hf3, hz3⟩ := hb3.cells; have hs3 := hb3.size; (try simp at hs3)) | (go_at_call 82; refine (lasts_82 I.P0 p r hv.at_ (by omega) (by omega) _ (hPr.out.ext (by with_reducible (repeat first | assumption | exact Ext.refl _ | refine Ext.set ?_ (by omega) _ | refine Ext.alloc ?_ _ | refine Ext.drew ?_ | refine Ext.drewN ?_ _ | refine Ext.trans ?_ (by assumption))))).mono ?_; rw [show I.P0.f.lasts hv.at_ = _ from hl]; rintro e1 w4 ⟨rfl, hb4⟩; obtain ⟨hc4, hf4, hz4⟩ := hb4.cells))
          rw [← hA1]
          go_roundw
          case rel => exact ⟨k + 1, by omega, by congr 1; omega, fun j hj => (by rcases Nat.lt_or_ge j k with gg | gg; exact hlow.out j gg; obtain rfl : j = k := (by omega); exact hg), (by with_reducible (repeat first | assumption | exact Ext.refl _ | refine Ext.set ?_ (by omega) _ | refine Ext.alloc ?_ _ | refine Ext.drew ?_ | refine Ext.drewN ?_ _ | refine Ext.trans ?_ (by assumption)))⟩
          case measure => simp [intOf]; omega
      · obtain rfl : k = I.P0.ticks := by omega
        have hres := Lib.hid (hno.out hlow.out)
        have t0 : ¬ I.f.depart ≤ arr - (I.P0.ticks : Int) := by omega
        go_wp2_with fail
        go_ret2
        exact ⟨by rw [hnr.out, hres.out]; rfl, (by with_reducible (repeat first | assumption | exact Ext.refl _ | refine Ext.set ?_ (by omega) _ | refine Ext.alloc ?_ _ | refine Ext.drew ?_ | refine Ext.drewN ?_ _ | refine Ext.trans ?_ (by assumption)))⟩
  · have hnr := Lib.hid (show I.nr = (0, I.err0) by unfold Inp.nr; rw [if_neg hc])
    replace hc := Lib.hid hc
    have hbn : (I.err0 != (0 : Int)) = true := by rw [bne_iff_ne]; exact hc.out
    go_enter Tryz.func37, Tryz.ntmps37
    go_wp2_with (go_at_call 64; refine (newFlight_bad0 I _ (h.ext (by with_reducible (repeat first | assumption | exact Ext.refl _ | refine Ext.set ?_ (by omega) _ | refine Ext.alloc ?_ _ | refine Ext.drew ?_ | refine Ext.drewN ?_ _ | refine Ext.trans ?_ (by assumption)))) hc.out).mono ?_; rintro e1 w1 ⟨rfl, hb1⟩)
    go_ret2
    exact ⟨by rw [hnr.out]; rfl, (by with_reducible (repeat first | assumption | exact Ext.refl _ | refine Ext.set ?_ (by omega) _ | refine Ext.alloc ?_ _ | refine Ext.drew ?_ | refine Ext.drewN ?_ _ | refine Ext.trans ?_ (by assumption)))⟩
end Go.Proofs.YtmmimbcfgobnaaaGreat
