/- route: reach. -/
import Derived.Test.YtmmimbcfgobnaaaGreatR6
set_option linter.unusedVariables false
set_option linter.unusedSimpArgs false
namespace Go.Proofs.YtmmimbcfgobnaaaGreat
open Go.RowKit
set_option linter.unusedVariables false
set_option linter.unusedSimpArgs false
attribute [local go_sem] stored_match isSome_setCell

theorem backTo_stop {a : Nat → Int} {tick : Int} {k : Nat} (h : ¬ tick < a k) : backTo a tick k = k := by
  cases k with
  | zero => rfl
  | succ k => unfold backTo; rw [if_neg h]
theorem backTo_go {a : Nat → Int} {tick : Int} {k : Nat} (h : tick < a (k + 1)) : backTo a tick (k + 1) = backTo a tick k := by rw [backTo, if_pos h]
theorem reachP_at {T : Tab} {a : Nat → Int} {r : List Int} {n : Nat} {tick place : Int} {i : Nat} (hi : backTo a tick n = i) (h : tick = a i) {y : Int} (hy : r.getD i 0 = y) :
    reachP T a r n tick place = (⟨place, tick + (tick - a i) + T y place, decide (a i < tick)⟩, decide (0 ≤ T y place)) := by
  subst hy; subst hi
  unfold reachP
  dsimp only
  rw [if_pos h]
theorem reachP_back {T : Tab} {a : Nat → Int} {r : List Int} {n : Nat} {tick place : Int} {i : Nat} (hi : backTo a tick n = i) (h : tick ≠ a i) {y z : Int} (hy : r.getD i 0 = y) (hz : r.getD (i + 1) 0 = z) (h1 : tick + (tick - a i) + T y place < a (i + 1) + T z place) :
    reachP T a r n tick place = (⟨place, tick + (tick - a i) + T y place, decide (a i < tick)⟩, decide (0 ≤ T y place)) := by
  subst hy; subst hz; subst hi
  unfold reachP
  dsimp only
  rw [if_neg h, if_pos h1]
theorem reachP_on {T : Tab} {a : Nat → Int} {r : List Int} {n : Nat} {tick place : Int} {i : Nat} (hi : backTo a tick n = i) (h : tick ≠ a i) {y z : Int} (hy : r.getD i 0 = y) (hz : r.getD (i + 1) 0 = z) (h1 : ¬ tick + (tick - a i) + T y place < a (i + 1) + T z place) :
    reachP T a r n tick place = (⟨place, a (i + 1) + T z place, false⟩, decide (0 ≤ T z place)) := by
  subst hy; subst hz; subst hi
  unfold reachP
  dsimp only
  rw [if_neg h, if_neg h1]
def ReachPost (x : Haven × Bool) (w : World) (e : Ending) (w' : World) : Prop := e = .returned (.tuple #[x.1.val, .bool x.2]) ∧ Ext w w'
set_option maxRecDepth 100000 in
set_option maxHeartbeats 2000000 in
theorem reach_81 (P : Plan) (p : Nat) (r : Refs) (tick place : Int) (w : World) (h : PlanAt w P p r) (t0 : P.f.depart ≤ tick) (t1 : tick ≤ P.f.arrival P.N.L) (p0 : 0 ≤ place) (p1 : place < P.N.met.places) :
    Calls Tryz.prog 81 #[.pointer (some ⟨p, 0, none⟩), .int .i64 tick, .int .i64 place] w (ReachPost (P.reach tick place) w) := by
  obtain ⟨q, t, AF, nF, cF, AS, nS, cS, AR, cR, AA, cA⟩ := r
  obtain ⟨⟨WN, hN⟩, hM, hF, hR, hA, hng, hfg⟩ := h
  dsimp only at hN hM hF hR hA
  obtain ⟨-, -, ⟨n1, n2, n3, n4⟩, hLu, hTu⟩ := Net.good_parts hng
  have hst := Flight.at_step hLu hfg
  obtain ⟨hpl, hrt, -, har⟩ := Flight.good_parts hfg
  obtain ⟨⟨l1, l2⟩, ⟨d1, d2⟩, -⟩ := Flight.plain_parts hpl
  have hreach := Lib.hid (show P.reach tick place = reachP P.N.T (P.f.at P.N.L) P.f.route P.f.last tick place from rfl)
  have hlast : P.f.last + 1 = P.f.route.length := by unfold Flight.last; omega
  have harr := Lib.hid (show P.f.arrival P.N.L = P.f.at P.N.L P.f.last from rfl)
  have hRt := Lib.hid (fun i (hi : i < P.f.route.length) => hrt (P.f.route.getD i 0) (by rw [List.getD_eq_getElem?_getD, List.getElem?_eq_getElem hi]; exact List.getElem_mem _))
  have hA0 := Lib.hid (fun i (hi : i < P.f.route.length) => Flight.atList_at P.f P.N.L hi)
  have hst := Lib.hid hst
  have h00 := Lib.hid (show P.f.at P.N.L 0 = P.f.depart from rfl)
  have hN' := Lib.hid hN
  have hF' := Lib.hid hF
  have hTu := Lib.hid hTu
  clear hng hfg hpl hrt hM hLu
  generalize P.f.at P.N.L = a at *
  obtain ⟨pl, rfl⟩ := Int.eq_ofNat_of_zero_le p0
  have f0 := hF.c0
  have f1 := hF.c1
  have f11 := hF.c11
  have fl := hF.lt
  have ql := hN.met.lt
  clear hN hF
  go_enter Tryz.func81, Tryz.ntmps81
  go_wp2_with fail
  refine name_world (R := fun W => Code.wp _ _ _ _ W) fun W1 hx1 hc1 hf1 hz1 => ?_
  have hxw : Ext w W1 := (by with_reducible (repeat first | assumption | exact Ext.refl _ | refine Ext.set ?_ (by omega) _ | refine Ext.alloc ?_ _ | refine Ext.drew ?_ | refine Ext.drewN ?_ _ | refine Ext.trans ?_ (by assumption)))
  simp at hz1
  have y0 : ∃ u, W1.cell? ⟨w.heap.size, 0, none⟩ = some u := ⟨.int .i64 0, by rw [hc1]; simp⟩
  have hW1 : w.heap.size < W1.heap.size := by omega
  have g0 := (hxw.cells.1 _ _ fl).trans f0
  have g1 := (hxw.cells.1 _ _ fl).trans f1
  have g11 := (hxw.cells.1 _ _ fl).trans f11
  have hres := Lib.hid hc1
  have hfz := Lib.hid hf1
  clear hc1 hf1 hz1 hx1 f0 f1 f11 y0
  go_loopw [8] (fun i wr => ∃ k : Nat, k ≤ P.f.last ∧ i = .int .i64 k ∧ W1 = wr ∧ backTo a tick P.f.last = backTo a tick k) (fun i _ => (intOf i).toNat)
  case atStart => exact ⟨P.f.last, Nat.le_refl _, by rw [show (P.f.route.length : Int) - 1 = (P.f.last : Int) by omega], rfl, rfl⟩
  case round =>
    obtain ⟨k, hk, rfl, rfl, hbk⟩ := hrel
    obtain ⟨b, off, rfl, hb, h0⟩ := (hA.ext hxw).intx (j := k) (by omega) (hA0.out k (by omega))
    by_cases hlt : tick < a k
    · rcases k with _ | j
      · have := h00.out; omega
      · have hbk := Lib.hid (hbk.trans (backTo_go hlt))
        go_wp2_with fail
        go_roundw
        case rel => exact ⟨j, by omega, by go_num, trivial, hbk.out⟩
        case measure => simp [intOf]
    · have hbk := Lib.hid (hbk.trans (backTo_stop hlt))
      obtain ⟨br, offr, rfl, hbr, h1⟩ := (hR.ext hxw).intx (j := k) (by omega) (List.getElem?_eq_getElem (by omega))
      have hry := hRt.out k (by omega)
      have hgy : P.f.route.getD k 0 = P.f.route[k]'(by omega) := by rw [List.getD_eq_getElem?_getD, List.getElem?_eq_getElem (by omega)]; rfl
      rw [hgy] at hry
      generalize P.f.route[k]'(by omega) = y at *
      obtain ⟨y0, y1⟩ := hry
      obtain ⟨y, rfl⟩ := Int.eq_ofNat_of_zero_le y0
      have hN1 := hN'.out.grow hxw
      have q15 := hN1.times
      have r1 := hN1.T2.row y (by omega)
      have r2 := hN1.T2.cell y pl (by omega) (by omega)
      obtain ⟨v1, v2⟩ := hTu.out y pl
      have hgy := Lib.hid hgy
      obtain ⟨s1, s2, -⟩ := hst.out k (by omega)
      have hql := hxw.cells.2.2 _ ql
      have hfl := hxw.cells.2.2 _ fl
      clear hN1
      go_wp2_with fail
      go_quiet (fail)
      go_wp2_with fail
      have hk8 : k ≤ 7 := by omega
      generalize hv : P.N.T y pl = v at *
      generalize hu : a k = u at *
      have hv := Lib.hid hv
      have hu := Lib.hid hu
      have w1 : IntKind.i64.wrap (tick - u) = tick - u := IntWalk.i64_in _ (by omega)
      have w2 : IntKind.i64.wrap (tick + (tick - u)) = tick + (tick - u) := IntWalk.i64_in _ (by omega)
      have w3 : IntKind.i64.wrap (tick + (tick - u) + v) = tick + (tick - u) + v := IntWalk.i64_in _ (by omega)
      have w4 : (0 : Int) ≤ (k : Int) := by omega
      have w5 : (k : Int) < (P.f.route.length : Int) := by omega
      refine name_world (R := fun W => Code.wp _ _ _ _ W) fun W2 hx2 hc2 hf2 hz2 => ?_
      have hx12 : Ext W1 W2 := (by with_reducible (repeat first | assumption | exact Ext.refl _ | refine Ext.set ?_ (by omega) _ | refine Ext.alloc ?_ _ | refine Ext.drew ?_ | refine Ext.drewN ?_ _ | refine Ext.trans ?_ (by assumption)))
      have g0 := (hx12.cells.1 _ _ hfl).trans g0
      have g11 := (hx12.cells.1 _ _ hfl).trans g11
      have h0 := (hx12.cells.1 _ _ hb).trans h0
      have hfl2 := hx12.cells.2.2 _ hfl
      have hb2 := hx12.cells.2.2 _ hb
      have r0 : W2.cell? ⟨w.heap.size, 0, none⟩ = some (.int .i64 0) := (hx12.cells.1 _ _ hW1).trans (by rw [hres.out]; simp)
      have r1_ : W2.cell? ⟨w.heap.size, 1, none⟩ = some (.int .i64 0) := (hx12.cells.1 _ _ hW1).trans (by rw [hres.out]; simp)
      have r2_ : W2.cell? ⟨w.heap.size, 2, none⟩ = some (.bool false) := (hx12.cells.1 _ _ hW1).trans (by rw [hres.out]; simp)
      have rf0 : W2.frozen? ⟨w.heap.size, 0, none⟩ = false := (hx12.cells.2.1 _ _ hW1).trans (by rw [hfz.out]; simp)
      have rf1 : W2.frozen? ⟨w.heap.size, 1, none⟩ = false := (hx12.cells.2.1 _ _ hW1).trans (by rw [hfz.out]; simp)
      have rf2 : W2.frozen? ⟨w.heap.size, 2, none⟩ = false := (hx12.cells.2.1 _ _ hW1).trans (by rw [hfz.out]; simp)
      have hW2 := hx12.cells.2.2 _ hW1
      clear hc2 hf2 hz2
      go_region
      by_cases htk : tick = u
      · have hq := Lib.hid (reachP_at (T := P.N.T) (r := P.f.route) (place := (pl : Int)) hbk.out (htk.trans hu.out.symm) hgy.out)
        have htb : (tick == u) = true := beq_iff_eq.2 htk
        have htk := Lib.hid htk
        go_wp2
        refine bodyPost_ret (v := .tuple #[(P.reach tick pl).1.val, .bool (P.reach tick pl).2]) ?_ rfl ⟨rfl, (by with_reducible (repeat first | assumption | exact Ext.refl _ | refine Ext.set ?_ (by omega) _ | refine Ext.alloc ?_ _ | refine Ext.drew ?_ | refine Ext.drewN ?_ _ | refine Ext.trans ?_ (by assumption)))⟩
        rw [hreach.out, hq.out, hu.out, hv.out]
        simp [results, go_sem, *]
      · have htb : (tick == u) = false := beq_eq_false_iff_ne.2 htk
        have htk := Lib.hid htk
        have hkl : k + 1 < P.f.route.length := by
          have h1 := harr.out
          have h2 : k ≠ P.f.last := fun e => by
            subst e
            have := hu.out; have := htk.out; omega
          omega
        obtain ⟨b', off', e1, hb', h0'⟩ := (hA.ext (hxw.trans hx12)).intx (j := k + 1) (by omega) (hA0.out (k + 1) (by omega))
        simp only [Option.some.injEq, Addr.mk.injEq, and_true] at e1
        obtain ⟨rfl, rfl⟩ := e1
        obtain ⟨br', offr', e1, hbr', h1'⟩ := (hR.ext (hxw.trans hx12)).intx (j := k + 1) (by omega) (List.getElem?_eq_getElem (by omega))
        simp only [Option.some.injEq, Addr.mk.injEq, and_true] at e1
        obtain ⟨rfl, rfl⟩ := e1
        have hrz := hRt.out (k + 1) (by omega)
        have hgz : P.f.route.getD (k + 1) 0 = P.f.route[k + 1]'(by omega) := by rw [List.getD_eq_getElem?_getD, List.getElem?_eq_getElem (by omega)]; rfl
        rw [hgz] at hrz
        generalize P.f.route[k + 1]'(by omega) = z at *
        obtain ⟨z0, z1⟩ := hrz
        obtain ⟨z, rfl⟩ := Int.eq_ofNat_of_zero_le z0
        have hgz := Lib.hid hgz
        have hN2 := hN'.out.grow (hxw.trans hx12)
        have q15 := hN2.times
        have r3 := hN2.T2.row z (by omega)
        have r4 := hN2.T2.cell z pl (by omega) (by omega)
        obtain ⟨v3, v4⟩ := hTu.out z pl
        obtain ⟨s3, s4, -⟩ := hst.out (k + 1) (by omega)
        have g1 := (hx12.cells.1 _ _ hfl).trans g1
        have hql2 := hx12.cells.2.2 _ hql
        generalize hv2 : P.N.T z pl = v' at *
        generalize hu2 : a (k + 1) = u' at *
        have hv2 := Lib.hid hv2
        have hu2 := Lib.hid hu2
        have w6 : IntKind.i64.wrap ((k : Int) + 1) = (k : Int) + 1 := IntWalk.i64_in _ (by omega)
        have w7 : (0 : Int) ≤ (k : Int) + 1 := by omega
        have w8 : (k : Int) + 1 < (P.f.route.length : Int) := by omega
        have w9 : ((k : Int) + 1).toNat = k + 1 := by omega
        have rg := hN2.T2.g2
        have rh := hN2.T2.hi_
        have rr := hN2.T2.r2 z (by omega)
        have rgl : t.g2 < W2.heap.size := by omega
        have rrl : t.r2 z < W2.heap.size := by omega
        clear hN2 rg rh rr r1 r2
        go_wp2_with fail
        go_quiet (fail)
        clear w6 w7 w9
        go_wp2_with fail
        · have hlt9 : tick + (tick - u) + v < u' + v' := by assumption
          have hq := Lib.hid (reachP_back (T := P.N.T) (r := P.f.route) (place := (pl : Int)) hbk.out (fun e => htk.out (e.trans hu.out)) hgy.out hgz.out (by rw [hu.out, hu2.out, hv.out, hv2.out]; exact hlt9))
          refine bodyPost_ret (v := .tuple #[(P.reach tick pl).1.val, .bool (P.reach tick pl).2]) ?_ rfl ⟨rfl, (by with_reducible (repeat first | assumption | exact Ext.refl _ | refine Ext.set ?_ (by omega) _ | refine Ext.alloc ?_ _ | refine Ext.drew ?_ | refine Ext.drewN ?_ _ | refine Ext.trans ?_ (by assumption)))⟩
          rw [hreach.out, hq.out, hu.out, hv.out]
          simp [results, go_sem, *]
        · have hge9 : u' + v' ≤ tick + (tick - u) + v := by assumption
          have hq := Lib.hid (reachP_on (T := P.N.T) (r := P.f.route) (place := (pl : Int)) hbk.out (fun e => htk.out (e.trans hu.out)) hgy.out hgz.out (by rw [hu.out, hu2.out, hv.out, hv2.out]; omega))
          refine bodyPost_ret (v := .tuple #[(P.reach tick pl).1.val, .bool (P.reach tick pl).2]) ?_ rfl ⟨rfl, (by with_reducible (repeat first | assumption | exact Ext.refl _ | refine Ext.set ?_ (by omega) _ | refine Ext.alloc ?_ _ | refine Ext.drew ?_ | refine Ext.drewN ?_ _ | refine Ext.trans ?_ (by assumption)))⟩
          rw [hreach.out, hq.out, hu2.out, hv2.out]
          simp [results, go_sem, *]
end Go.Proofs.YtmmimbcfgobnaaaGreat
