/- The law RouteLeast: its walk, where it is safe, without fuel. -/
import Derived.Test.YtmmimbcfgobnaaaGreatT6
set_option linter.unusedVariables false
set_option linter.unusedSimpArgs false
namespace Go.Proofs.YtmmimbcfgobnaaaGreat
open Go.RowKit
attribute [local go_sem] stored_match isSome_setCell

set_option maxRecDepth 100000 in
set_option maxHeartbeats 2000000 in
theorem law_6_safe0 (I : Inp) (w : World) (h : I.In w) (hr : I.right = true) {n s s2 s3 g3 : Int} {is3 : Bool} (hsh : I.Short) (n0 : 0 ≤ n) (n1 : n ≤ 100000) (hnf : n ≤ I.f.fuel) (hL : I.leastR = (n, 0)) (hS : I.safeR = (s, true, 0)) (hS2 : (I.fu n).safeR = (s2, true, 0)) (hS3 : (I.fu (n - 1)).safeR = (s3, is3, g3)) (e0 : n = 0) {fu re s4 s5 s6 : Int} {k : Minima} (hfu : fu = min 100000 (I.f.fuel + 1)) (hre : re = I.f.reserve / 2) (hk : k = ⟨min 300 (I.l.wind + 1), I.l.see / 2, I.l.ceil / 2, true, I.l.storm⟩) (u1 : 0 ≤ I.f.fuel) (u2 : I.f.fuel ≤ 100000) (v1 : 0 ≤ I.f.reserve) (v2 : I.f.reserve ≤ 100000) (k1 : 0 ≤ I.l.wind) (k2 : I.l.wind ≤ 300) (k3 : 0 ≤ I.l.see) (k4 : I.l.see ≤ 20000) (k5 : 0 ≤ I.l.ceil) (k6 : I.l.ceil ≤ 20000) (hS4 : (I.fu fu).safeR = (s4, true, 0)) (hS5 : (I.rs re).safeR = (s5, true, 0)) (hS6 : (I.mi k).safeR = (s6, true, 0)) : Calls Tryz.prog 6 #[I.vp, I.vf] w fun e w' => e = .returned (.bool true) ∧ Ext w w' := by
  simp only [Inp.vp, Inp.vf, Flight.val]
  replace hr := Lib.hid hr
  have e1 : ¬ (0 < n) := by omega
  replace e0 := Lib.hid e0
  replace hfu := Lib.hid hfu
  replace hre := Lib.hid hre
  replace hk := Lib.hid hk
  replace hS4 := Lib.hid hS4
  replace hS5 := Lib.hid hS5
  replace hS6 := Lib.hid hS6
  replace hL := Lib.hid hL
  replace hS := Lib.hid hS
  replace hS2 := Lib.hid hS2
  replace hS3 := Lib.hid hS3
  replace hsh := Lib.hid hsh
  obtain ⟨d34, u34, dr, i34⟩ := desc34
  replace u34 := Lib.hid u34
  replace dr := Lib.hid dr
  replace i34 := Lib.hid i34
  go_enter Tryz.func6, Tryz.ntmps6
  go_upto_region 1 with (fail)
  refine name_world_as (P := fun W => Boxed I w.heap.size W ∧ Ext w W) (R := fun W => Code.wp _ _ _ _ W) ⟨Boxed.new I w, (by with_reducible (repeat first | assumption | exact Ext.refl _ | refine Ext.set ?_ (by omega) _ | refine Ext.alloc ?_ _ | refine Ext.drew ?_ | refine Ext.drewN ?_ _ | refine Ext.trans ?_ (by assumption)))⟩ fun W1 ⟨hB, hxw⟩ => ?_
  have hI := Lib.hid (h.ext hxw)
  have hBx := Lib.hid hB
  have hrg := Lib.hid (InRange.mk hB.range hB.lt)
  obtain ⟨p0, p1, p2, p3, p4, p5, p6, p7, p8, p9, p10, p11, p12, p13, p14, p15, p16, p17, p18, p19, f0, f1, f2, f3, f4, lb⟩ := hB
  have lb0 : w.heap.size < W1.heap.size := by omega
  go_upto_region 3 with (first | ((with_reducible refine at_list ?_); refine wpList_load_mid rfl 34 (.tmp 2) (by rfl) w.heap.size 0 (by rfl) [.int .i64 I.m.places, .int .i64 I.m.any.w.lo, .int .i64 I.m.any.w.hi, .int .i64 I.m.any.s.lo, .int .i64 I.m.any.s.hi, .int .i64 I.m.any.c.lo, .int .i64 I.m.any.c.hi, .bool I.m.any.ice, .bool I.m.any.storm, .int .i64 I.m.wind, .int .i64 I.m.see, .int .i64 I.m.ceil, .slice I.AF I.nF I.cF, .slice I.AS I.nS I.cS, .int .i64 I.l.wind, .int .i64 I.l.see, .int .i64 I.l.ceil, .bool I.l.ice, .bool I.l.storm, .slice I.AX I.nX I.cX] d34 (hrg.out.ext (by with_reducible (repeat first | assumption | exact Ext.refl _ | refine Ext.set ?_ (by omega) _ | refine Ext.alloc ?_ _ | refine Ext.drew ?_ | refine Ext.drewN ?_ _ | refine Ext.trans ?_ (by assumption)))) u34.out dr.out i34.out ?_) | (go_at_call 30; refine (right_30 I _ (hI.out.ext (by with_reducible (repeat first | assumption | exact Ext.refl _ | refine Ext.set ?_ (by omega) _ | refine Ext.alloc ?_ _ | refine Ext.drew ?_ | refine Ext.drewN ?_ _ | refine Ext.trans ?_ (by assumption))))).mono ?_; rw [hr.out]; rintro e1 w2 ⟨rfl, hb2⟩; have hx2 : Ext W1 w2 := (by with_reducible (repeat first | assumption | exact Ext.refl _ | refine Ext.set ?_ (by omega) _ | refine Ext.alloc ?_ _ | refine Ext.drew ?_ | refine Ext.drewN ?_ _ | refine Ext.trans ?_ (by assumption))); obtain ⟨hc2, hf2, hz2⟩ := hx2.cells; have hs2 := hb2.size))
  go_upto_region 5 with (first | (go_at_call 31; refine (Least_31 I _ (hI.out.ext (by with_reducible (repeat first | assumption | exact Ext.refl _ | refine Ext.set ?_ (by omega) _ | refine Ext.alloc ?_ _ | refine Ext.drew ?_ | refine Ext.drewN ?_ _ | refine Ext.trans ?_ (by assumption)))) hsh.out).mono ?_; rw [hL.out]; rintro e1 w3 ⟨rfl, hb3⟩; have hx3 : Ext W1 w3 := (by with_reducible (repeat first | assumption | exact Ext.refl _ | refine Ext.set ?_ (by omega) _ | refine Ext.alloc ?_ _ | refine Ext.drew ?_ | refine Ext.drewN ?_ _ | refine Ext.trans ?_ (by assumption))); obtain ⟨hc3, hf3, hz3⟩ := hx3.cells; have hs3 := hb3.size) | (go_at_call 32; refine (Safe_32 I _ (hI.out.ext (by with_reducible (repeat first | assumption | exact Ext.refl _ | refine Ext.set ?_ (by omega) _ | refine Ext.alloc ?_ _ | refine Ext.drew ?_ | refine Ext.drewN ?_ _ | refine Ext.trans ?_ (by assumption)))) hsh.out).mono ?_; rw [hS.out]; rintro e1 w4 ⟨rfl, hb4⟩; have hx4 : Ext W1 w4 := (by with_reducible (repeat first | assumption | exact Ext.refl _ | refine Ext.set ?_ (by omega) _ | refine Ext.alloc ?_ _ | refine Ext.drew ?_ | refine Ext.drewN ?_ _ | refine Ext.trans ?_ (by assumption))); obtain ⟨hc4, hf4, hz4⟩ := hx4.cells; have hs4 := hb4.size))
  go_upto_region 10 with (fail)
  refine name_world_as (P := fun W => FlBox w4.heap.size (.slice I.AR I.nR I.cR) I.f.depart n I.f.burn I.f.reserve W ∧ Ext W1 W) (R := fun W => Code.wp _ _ _ _ W) ⟨⟨by simp, by go_simp, by go_simp, by go_simp, by go_simp, by go_simp, fun o => by go_simp⟩, (by with_reducible (repeat first | assumption | exact Ext.refl _ | refine Ext.set ?_ (by omega) _ | refine Ext.alloc ?_ _ | refine Ext.drew ?_ | refine Ext.drewN ?_ _ | refine Ext.trans ?_ (by assumption)))⟩ fun W5 ⟨hF, hx5⟩ => ?_
  obtain ⟨l5, b0, b1, b2, b3, b4, bf⟩ := hF
  obtain ⟨hc5, hf5, hz5⟩ := hx5.cells
  clear hc2 hf2 hz2 hc3 hf3 hz3 hc4 hf4 hz4
  go_upto_region 11 with (go_at_call 32; refine (Safe_fu I n _ (hI.out.ext (by with_reducible (repeat first | assumption | exact Ext.refl _ | refine Ext.set ?_ (by omega) _ | refine Ext.alloc ?_ _ | refine Ext.drew ?_ | refine Ext.drewN ?_ _ | refine Ext.trans ?_ (by assumption)))) hsh.out).mono ?_; rw [hS2.out]; rintro e1 w6 ⟨rfl, hb6⟩; have hx6 : Ext W1 w6 := (by with_reducible (repeat first | assumption | exact Ext.refl _ | refine Ext.set ?_ (by omega) _ | refine Ext.alloc ?_ _ | refine Ext.drew ?_ | refine Ext.drewN ?_ _ | refine Ext.trans ?_ (by assumption))); have k0 := (hb6.cells.1 _ _ l5).trans b0; have k1 := (hb6.cells.1 _ _ l5).trans b1; have k2 := (hb6.cells.1 _ _ l5).trans b2; have k3 := (hb6.cells.1 _ _ l5).trans b3; have k4 := (hb6.cells.1 _ _ l5).trans b4; have kf := fun o => (hb6.cells.2.1 _ o l5).trans (bf o); have kl := hb6.cells.2.2 _ l5; clear hc5 hf5 hz5 b0 b1 b2 b3 b4 bf; obtain ⟨hc6, hf6, hz6⟩ := hx6.cells)
  have z4 := hx4.size
  go_upto_region 14 with (fail)
  refine name_world_as (P := fun W => FlBox w4.heap.size (.slice I.AR I.nR I.cR) I.f.depart (n - 1) I.f.burn I.f.reserve W ∧ Ext W1 W) (R := fun W => Code.wp _ _ _ _ W) ⟨⟨by simpa using kl, by go_simp, by go_simp, by go_simp, by go_simp, by go_simp, fun o => by go_simp⟩, (by with_reducible (repeat first | assumption | exact Ext.refl _ | refine Ext.set ?_ (by omega) _ | refine Ext.alloc ?_ _ | refine Ext.drew ?_ | refine Ext.drewN ?_ _ | refine Ext.trans ?_ (by assumption)))⟩ fun W7 ⟨hF, hx7⟩ => ?_
  clear hc6 hf6 hz6 k0 k1 k2 k3 k4 kf kl
  obtain ⟨l7, b0, b1, b2, b3, b4, bf⟩ := hF
  obtain ⟨hc7, hf7, hz7⟩ := hx7.cells
  go_upto_region 15 with (go_at_call 32; refine (Safe_fu I (n - 1) _ (hI.out.ext (by with_reducible (repeat first | assumption | exact Ext.refl _ | refine Ext.set ?_ (by omega) _ | refine Ext.alloc ?_ _ | refine Ext.drew ?_ | refine Ext.drewN ?_ _ | refine Ext.trans ?_ (by assumption)))) hsh.out).mono ?_; rw [hS3.out]; rintro e1 w8 ⟨rfl, hb8⟩; have hx8 : Ext W1 w8 := (by with_reducible (repeat first | assumption | exact Ext.refl _ | refine Ext.set ?_ (by omega) _ | refine Ext.alloc ?_ _ | refine Ext.drew ?_ | refine Ext.drewN ?_ _ | refine Ext.trans ?_ (by assumption))); clear hc7 hf7 hz7 b0 b1 b2 b3 b4 bf; obtain ⟨hc8, hf8, hz8⟩ := hx8.cells)
  go_upto_region 19 with (fail)
  go_cut [17, 18] (fun s17 s18 wx => ∃ b17 b18, s17 = .pointer (some ⟨b17, 0, none⟩) ∧ s18 = .pointer (some ⟨b18, 0, none⟩) ∧ b17 ≠ b18 ∧ W1.heap.size ≤ b17 ∧ W1.heap.size ≤ b18 ∧ FlBox b17 (.slice I.AR I.nR I.cR) I.f.depart I.f.fuel I.f.burn I.f.reserve wx ∧ FlBox b18 (.slice I.AR I.nR I.cR) I.f.depart I.f.fuel I.f.burn I.f.reserve wx ∧ Ext W1 wx)
  case first =>
    have z8 := hx8.size
    go_region
    all_goals
      go_wp2_with fail
      go_meet
      exact ⟨_, _, rfl, rfl, by omega, by omega, by omega, ⟨by first | (simp; done) | (simp; omega), by go_simp, by go_simp, by go_simp, by go_simp, by go_simp, fun o => by go_simp⟩, ⟨by first | (simp; done) | (simp; omega), by go_simp, by go_simp, by go_simp, by go_simp, by go_simp, fun o => by go_simp⟩, (by with_reducible (repeat first | assumption | exact Ext.refl _ | refine Ext.set ?_ (by omega) _ | refine Ext.alloc ?_ _ | refine Ext.drew ?_ | refine Ext.drewN ?_ _ | refine Ext.trans ?_ (by assumption)))⟩
  case rest =>
    as_aux_lemma =>
      obtain ⟨b17, b18, rfl, rfl, hne, hl17, hl18, hF17, hF18, hxc⟩ := hcut
      clear hc8 hf8 hz8
      have n1 : ¬ b17 = b18 := hne
      have n2 : ¬ b18 = b17 := fun e => hne e.symm
      clear hne
      obtain ⟨l17, x0, x1, x2, x3, x4, xf⟩ := hF17
      replace hF18 := Lib.hid hF18
      obtain ⟨l18, y0, y1, y2, y3, y4, yf⟩ := hF18.out
      obtain ⟨hcc, hfc, hzc⟩ := hxc.cells
      go_upto_region 20 with (fail)
      go_cut [17] (fun s17 wx => s17 = .pointer (some ⟨b17, 0, none⟩) ∧ FlBox b17 (.slice I.AR I.nR I.cR) I.f.depart fu I.f.burn I.f.reserve wx ∧ FlBox b18 (.slice I.AR I.nR I.cR) I.f.depart I.f.fuel I.f.burn I.f.reserve wx ∧ Ext W1 wx)
      case first =>
        have hfu' := hfu.out
        by_cases hA : I.f.fuel + 1 < 100000
        · obtain rfl : fu = I.f.fuel + 1 := by omega
          clear hfu'
          go_wp2_with fail
          go_meet
          exact ⟨rfl, ⟨by first | (simp; done) | (simp; omega), by go_simp, by go_simp, by go_simp, by go_simp, by go_simp, fun o => by go_simp⟩, ⟨by first | (simp; done) | (simp; omega), by go_simp, by go_simp, by go_simp, by go_simp, by go_simp, fun o => by go_simp⟩, (by with_reducible (repeat first | assumption | exact Ext.refl _ | refine Ext.set ?_ (by omega) _ | refine Ext.alloc ?_ _ | refine Ext.drew ?_ | refine Ext.drewN ?_ _ | refine Ext.trans ?_ (by assumption)))⟩
        · obtain rfl : fu = 100000 := by omega
          clear hfu'
          go_wp2_with fail
          go_meet
          exact ⟨rfl, ⟨by first | (simp; done) | (simp; omega), by go_simp, by go_simp, by go_simp, by go_simp, by go_simp, fun o => by go_simp⟩, ⟨by first | (simp; done) | (simp; omega), by go_simp, by go_simp, by go_simp, by go_simp, by go_simp, fun o => by go_simp⟩, (by with_reducible (repeat first | assumption | exact Ext.refl _ | refine Ext.set ?_ (by omega) _ | refine Ext.alloc ?_ _ | refine Ext.drew ?_ | refine Ext.drewN ?_ _ | refine Ext.trans ?_ (by assumption)))⟩
      case rest =>
        as_aux_lemma =>
          obtain ⟨rfl, hF17, hF18, hxd⟩ := hcut
          clear x0 x1 x2 x3 x4 xf l17 y0 y1 y2 y3 y4 yf l18 hcc hfc hzc
          obtain ⟨l17, x0, x1, x2, x3, x4, xf⟩ := hF17
          obtain ⟨l18, y0, y1, y2, y3, y4, yf⟩ := hF18
          obtain ⟨hcd, hfd, hzd⟩ := hxd.cells
          go_upto_region 22 with (fail)
          obtain rfl := hre.out
          refine name_world_as (P := fun W => FlBox b17 (.slice I.AR I.nR I.cR) I.f.depart fu I.f.burn I.f.reserve W ∧ FlBox b18 (.slice I.AR I.nR I.cR) I.f.depart I.f.fuel I.f.burn (I.f.reserve / 2) W ∧ Ext W1 W) (R := fun W => Code.wp _ _ _ _ W) ⟨⟨by first | (simp; done) | (simp; omega), by go_simp, by go_simp, by go_simp, by go_simp, by go_simp, fun o => by go_simp⟩, ⟨by first | (simp; done) | (simp; omega), by go_simp, by go_simp, by go_simp, by go_simp, by go_simp, fun o => by go_simp⟩, (by with_reducible (repeat first | assumption | exact Ext.refl _ | refine Ext.set ?_ (by omega) _ | refine Ext.alloc ?_ _ | refine Ext.drew ?_ | refine Ext.drewN ?_ _ | refine Ext.trans ?_ (by assumption)))⟩ fun We ⟨hF17, hF18, hxe⟩ => ?_
          clear x0 x1 x2 x3 x4 xf l17 y0 y1 y2 y3 y4 yf l18 hcd hfd hzd
          replace hF17 := Lib.hid hF17
          replace hF18 := Lib.hid hF18
          obtain ⟨hce, hfe, hze⟩ := hxe.cells
          go_cut [19] (fun s19 wx => ∃ b19, s19 = .pointer (some ⟨b19, 0, none⟩) ∧ MinAt wx b19 k ∧ Ext We wx)
          case first =>
            have hk' := hk.out
            by_cases hA : I.l.wind + 1 < 300
            · have hk2 : k = ⟨I.l.wind + 1, I.l.see / 2, I.l.ceil / 2, true, I.l.storm⟩ := by rw [hk', show min 300 (I.l.wind + 1) = I.l.wind + 1 by omega]
              clear hk'
              subst hk2
              go_wp2_with fail
              go_meet
              exact ⟨_, rfl, ⟨by simp, by go_simp, by go_simp, by go_simp, by go_simp, by go_simp⟩, (by with_reducible (repeat first | assumption | exact Ext.refl _ | refine Ext.set ?_ (by omega) _ | refine Ext.alloc ?_ _ | refine Ext.drew ?_ | refine Ext.drewN ?_ _ | refine Ext.trans ?_ (by assumption)))⟩
            · have hk2 : k = ⟨300, I.l.see / 2, I.l.ceil / 2, true, I.l.storm⟩ := by rw [hk', show min 300 (I.l.wind + 1) = 300 by omega]
              clear hk'
              subst hk2
              go_wp2_with fail
              go_meet
              exact ⟨_, rfl, ⟨by simp, by go_simp, by go_simp, by go_simp, by go_simp, by go_simp⟩, (by with_reducible (repeat first | assumption | exact Ext.refl _ | refine Ext.set ?_ (by omega) _ | refine Ext.alloc ?_ _ | refine Ext.drew ?_ | refine Ext.drewN ?_ _ | refine Ext.trans ?_ (by assumption)))⟩
          case rest =>
            as_aux_lemma =>
              obtain ⟨b19, rfl, hM, hxf⟩ := hcut
              clear hce hfe hze
              replace hF17 := Lib.hid (hF17.out.ext hxf)
              replace hF18 := Lib.hid (hF18.out.ext hxf)
              have hxg : Ext W1 wc := hxe.trans hxf
              replace hM := Lib.hid hM
              obtain ⟨hcg, hfg, hzg⟩ := hxg.cells
              obtain ⟨l17, x0, x1, x2, x3, x4, xf⟩ := hF17.out
              go_upto_region 24 with (go_at_call 32; refine (Safe_fu I fu _ (hI.out.ext (by with_reducible (repeat first | assumption | exact Ext.refl _ | refine Ext.set ?_ (by omega) _ | refine Ext.alloc ?_ _ | refine Ext.drew ?_ | refine Ext.drewN ?_ _ | refine Ext.trans ?_ (by assumption)))) hsh.out).mono ?_; rw [hS4.out]; rintro e1 w11 ⟨rfl, hb11⟩; have hx11 : Ext W1 w11 := (by with_reducible (repeat first | assumption | exact Ext.refl _ | refine Ext.set ?_ (by omega) _ | refine Ext.alloc ?_ _ | refine Ext.drew ?_ | refine Ext.drewN ?_ _ | refine Ext.trans ?_ (by assumption))); clear hcg hfg hzg x0 x1 x2 x3 x4 xf l17; obtain ⟨hc11, hf11, hz11⟩ := hx11.cells; obtain ⟨l18, y0, y1, y2, y3, y4, yf⟩ := hF18.out.ext hb11; replace hM := Lib.hid (hM.out.ext hb11))
              go_upto_region 25 with (go_at_call 32; refine (Safe_rs I (I.f.reserve / 2) _ (hI.out.ext (by with_reducible (repeat first | assumption | exact Ext.refl _ | refine Ext.set ?_ (by omega) _ | refine Ext.alloc ?_ _ | refine Ext.drew ?_ | refine Ext.drewN ?_ _ | refine Ext.trans ?_ (by assumption)))) hsh.out).mono ?_; rw [hS5.out]; rintro e1 w12 ⟨rfl, hb12⟩; have hx12 : Ext W1 w12 := (by with_reducible (repeat first | assumption | exact Ext.refl _ | refine Ext.set ?_ (by omega) _ | refine Ext.alloc ?_ _ | refine Ext.drew ?_ | refine Ext.drewN ?_ _ | refine Ext.trans ?_ (by assumption))); clear hc11 hf11 hz11 y0 y1 y2 y3 y4 yf l18; obtain ⟨hc12, hf12, hz12⟩ := hx12.cells; obtain ⟨m0, m1, m2, m3, m4, m5⟩ := hM.out.ext hb12)
              go_wp2_with (first | (go_at_call 32; refine (Safe_mi I k _ (hI.out.ext (by with_reducible (repeat first | assumption | exact Ext.refl _ | refine Ext.set ?_ (by omega) _ | refine Ext.alloc ?_ _ | refine Ext.drew ?_ | refine Ext.drewN ?_ _ | refine Ext.trans ?_ (by assumption)))) hsh.out).mono ?_; rw [hS6.out]; rintro e1 w13 ⟨rfl, hb13⟩) | (go_at_call 16; refine (works_16 _).mono ?_; rintro e1 w14 ⟨rfl, hb14⟩))
              go_ret
              exact ⟨rfl, (by with_reducible (repeat first | assumption | exact Ext.refl _ | refine Ext.set ?_ (by omega) _ | refine Ext.alloc ?_ _ | refine Ext.drew ?_ | refine Ext.drewN ?_ _ | refine Ext.trans ?_ (by assumption)))⟩
end Go.Proofs.YtmmimbcfgobnaaaGreat
