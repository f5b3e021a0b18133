/- The law RouteHavens: its walk. -/
import Derived.Test.YtmmimbcfgobnaaaGreatT9
import Derived.Test.YtmmimbcfgobnaaaGreatV6
set_option linter.unusedVariables false
set_option linter.unusedSimpArgs false
namespace Go.Proofs.YtmmimbcfgobnaaaGreat
open Go.RowKit
attribute [local go_sem] stored_match isSome_setCell

theorem havens17_ok (I : Inp) (tick : Int) (w : World) (h : I.In w) (h12 : I.Short) (hc : I.code tick = 0) : Calls Tryz.prog 17 #[I.vm, I.l.val, I.vn, I.vf, .int .i64 tick] w fun e w' => ∃ A k, e = .returned (.tuple #[.slice A (I.P.all tick false).length k, .int .i64 0]) ∧ Rows 3 Haven.enc w' A (I.P.all tick false).length (I.P.all tick false) ∧ Ext w w' :=
  (Havens_17 I tick w h h12).mono fun e w' hp => by obtain ⟨A, k, h1, h2⟩ := hp.1 hc; exact ⟨A, k, h1, h2, hp.2.2⟩
theorem havens17_bad (I : Inp) (tick : Int) (w : World) (h : I.In w) (h12 : I.Short) (hc : I.code tick ≠ 0) : Calls Tryz.prog 17 #[I.vm, I.l.val, I.vn, I.vf, .int .i64 tick] w fun e w' => e = .returned (.tuple #[.slice none 0 0, .int .i64 (I.code tick)]) ∧ Ext w w' :=
  (Havens_17 I tick w h h12).mono fun e w' hp => ⟨hp.2.1 hc, hp.2.2⟩
theorem havens18_ok (I : Inp) (tick : Int) (w : World) (h : I.In w) (hc : I.code tick = 0) : Calls Tryz.prog 18 #[I.vm, I.l.val, I.vn, I.vf, .int .i64 tick] w fun e w' => ∃ A k, e = .returned (.tuple #[.slice A (I.P.all tick false).length k, .int .i64 0]) ∧ Rows 3 Haven.enc w' A (I.P.all tick false).length (I.P.all tick false) ∧ Ext w w' :=
  (Havens_18 I tick w h).mono fun e w' hp => by obtain ⟨A, k, h1, h2⟩ := hp.1 hc; exact ⟨A, k, h1, h2, hp.2.2⟩
theorem havens18_bad (I : Inp) (tick : Int) (w : World) (h : I.In w) (hc : I.code tick ≠ 0) : Calls Tryz.prog 18 #[I.vm, I.l.val, I.vn, I.vf, .int .i64 tick] w fun e w' => e = .returned (.tuple #[.slice none 0 0, .int .i64 (I.code tick)]) ∧ Ext w w' :=
  (Havens_18 I tick w h).mono fun e w' hp => ⟨hp.2.1 hc, hp.2.2⟩
theorem HvAt.new (w : World) (x : Haven) : HvAt (w.alloc (.cells #[.int .i64 x.place, .int .i64 x.at_, .bool x.back] 46)) w.heap.size x := ⟨by simp, by simp, by simp, by simp, fun o => by simp⟩
set_option maxRecDepth 100000 in
set_option maxHeartbeats 2000000 in
theorem law_3_long (I : Inp) (tick : Int) (w : World) (h : I.In w) (hl : I.long = true) : Calls Tryz.prog 3 #[I.vp, I.vf, .int .i64 tick] w fun e w' => e = .returned (.bool true) ∧ Ext w w' := by
  simp only [Inp.vp, Inp.vf, Flight.val]
  replace hl := Lib.hid hl
  obtain ⟨d34, u34, dr, i34⟩ := desc34
  replace u34 := Lib.hid u34
  replace dr := Lib.hid dr
  replace i34 := Lib.hid i34
  go_enter Tryz.func3, Tryz.ntmps3
  go_upto_region 1 with (fail)
  refine name_world_as (P := fun W => Boxed I w.heap.size W ∧ Ext w W) (R := fun W => Code.wp _ _ _ _ W) ⟨Boxed.new I w, (by with_reducible (repeat first | assumption | exact Ext.refl _ | refine Ext.set ?_ (by omega) _ | refine Ext.alloc ?_ _ | refine Ext.drew ?_ | refine Ext.drewN ?_ _ | refine Ext.trans ?_ (by assumption)))⟩ fun W1 ⟨hB, hxw⟩ => ?_
  have hI := Lib.hid (h.ext hxw)
  have hBx := Lib.hid hB
  have hrg := Lib.hid (InRange.mk hB.range hB.lt)
  obtain ⟨p0, p1, p2, p3, p4, p5, p6, p7, p8, p9, p10, p11, p12, p13, p14, p15, p16, p17, p18, p19, f0, f1, f2, f3, f4, lb⟩ := hB
  have lb0 : w.heap.size < W1.heap.size := by omega
  go_wp2_with (first | ((with_reducible refine at_list ?_); refine wpList_load_mid rfl 34 (.tmp 3) (by rfl) w.heap.size 0 (by rfl) [.int .i64 I.m.places, .int .i64 I.m.any.w.lo, .int .i64 I.m.any.w.hi, .int .i64 I.m.any.s.lo, .int .i64 I.m.any.s.hi, .int .i64 I.m.any.c.lo, .int .i64 I.m.any.c.hi, .bool I.m.any.ice, .bool I.m.any.storm, .int .i64 I.m.wind, .int .i64 I.m.see, .int .i64 I.m.ceil, .slice I.AF I.nF I.cF, .slice I.AS I.nS I.cS, .int .i64 I.l.wind, .int .i64 I.l.see, .int .i64 I.l.ceil, .bool I.l.ice, .bool I.l.storm, .slice I.AX I.nX I.cX] d34 (hrg.out.ext (by with_reducible (repeat first | assumption | exact Ext.refl _ | refine Ext.set ?_ (by omega) _ | refine Ext.alloc ?_ _ | refine Ext.drew ?_ | refine Ext.drewN ?_ _ | refine Ext.trans ?_ (by assumption)))) u34.out dr.out i34.out ?_) | (go_at_call 15; refine (Long_15 I _ (hI.out.ext (by with_reducible (repeat first | assumption | exact Ext.refl _ | refine Ext.set ?_ (by omega) _ | refine Ext.alloc ?_ _ | refine Ext.drew ?_ | refine Ext.drewN ?_ _ | refine Ext.trans ?_ (by assumption))))).mono ?_; rw [hl.out]; rintro e1 w2 ⟨rfl, hb2⟩; have hx2 : Ext W1 w2 := (by with_reducible (repeat first | assumption | exact Ext.refl _ | refine Ext.set ?_ (by omega) _ | refine Ext.alloc ?_ _ | refine Ext.drew ?_ | refine Ext.drewN ?_ _ | refine Ext.trans ?_ (by assumption))); obtain ⟨hc2, hf2, hz2⟩ := hx2.cells; have hs2 := hb2.size) | (go_at_call 16; refine (works_16 _).mono ?_; rintro e1 w9 ⟨rfl, hb9⟩))
  go_ret
  exact ⟨rfl, (by with_reducible (repeat first | assumption | exact Ext.refl _ | refine Ext.set ?_ (by omega) _ | refine Ext.alloc ?_ _ | refine Ext.drew ?_ | refine Ext.drewN ?_ _ | refine Ext.trans ?_ (by assumption)))⟩
set_option maxRecDepth 100000 in
set_option maxHeartbeats 2000000 in
theorem law_3_ok (I : Inp) (tick : Int) (w : World) (h : I.In w) (hl : I.long = false) (hsh : I.Short) (hc : I.code tick = 0) : Calls Tryz.prog 3 #[I.vp, I.vf, .int .i64 tick] w fun e w' => e = .returned (.bool true) ∧ Ext w w' := by
  simp only [Inp.vp, Inp.vf, Flight.val]
  replace hl := Lib.hid hl
  replace hsh := Lib.hid hsh
  replace hc := Lib.hid hc
  obtain ⟨⟨x, c⟩, hbR⟩ : ∃ y, I.bestR tick = y := ⟨_, rfl⟩
  replace hbR := Lib.hid hbR
  obtain ⟨d34, u34, dr, i34⟩ := desc34
  replace u34 := Lib.hid u34
  replace dr := Lib.hid dr
  replace i34 := Lib.hid i34
  go_enter Tryz.func3, Tryz.ntmps3
  go_upto_region 1 with (fail)
  refine name_world_as (P := fun W => Boxed I w.heap.size W ∧ Ext w W) (R := fun W => Code.wp _ _ _ _ W) ⟨Boxed.new I w, (by with_reducible (repeat first | assumption | exact Ext.refl _ | refine Ext.set ?_ (by omega) _ | refine Ext.alloc ?_ _ | refine Ext.drew ?_ | refine Ext.drewN ?_ _ | refine Ext.trans ?_ (by assumption)))⟩ fun W1 ⟨hB, hxw⟩ => ?_
  have hI := Lib.hid (h.ext hxw)
  have hBx := Lib.hid hB
  have hrg := Lib.hid (InRange.mk hB.range hB.lt)
  obtain ⟨p0, p1, p2, p3, p4, p5, p6, p7, p8, p9, p10, p11, p12, p13, p14, p15, p16, p17, p18, p19, f0, f1, f2, f3, f4, lb⟩ := hB
  have lb0 : w.heap.size < W1.heap.size := by omega
  go_upto_region 3 with (first | ((with_reducible refine at_list ?_); refine wpList_load_mid rfl 34 (.tmp 3) (by rfl) w.heap.size 0 (by rfl) [.int .i64 I.m.places, .int .i64 I.m.any.w.lo, .int .i64 I.m.any.w.hi, .int .i64 I.m.any.s.lo, .int .i64 I.m.any.s.hi, .int .i64 I.m.any.c.lo, .int .i64 I.m.any.c.hi, .bool I.m.any.ice, .bool I.m.any.storm, .int .i64 I.m.wind, .int .i64 I.m.see, .int .i64 I.m.ceil, .slice I.AF I.nF I.cF, .slice I.AS I.nS I.cS, .int .i64 I.l.wind, .int .i64 I.l.see, .int .i64 I.l.ceil, .bool I.l.ice, .bool I.l.storm, .slice I.AX I.nX I.cX] d34 (hrg.out.ext (by with_reducible (repeat first | assumption | exact Ext.refl _ | refine Ext.set ?_ (by omega) _ | refine Ext.alloc ?_ _ | refine Ext.drew ?_ | refine Ext.drewN ?_ _ | refine Ext.trans ?_ (by assumption)))) u34.out dr.out i34.out ?_) | (go_at_call 15; refine (Long_15 I _ (hI.out.ext (by with_reducible (repeat first | assumption | exact Ext.refl _ | refine Ext.set ?_ (by omega) _ | refine Ext.alloc ?_ _ | refine Ext.drew ?_ | refine Ext.drewN ?_ _ | refine Ext.trans ?_ (by assumption))))).mono ?_; rw [hl.out]; rintro e1 w2 ⟨rfl, hb2⟩; have hx2 : Ext W1 w2 := (by with_reducible (repeat first | assumption | exact Ext.refl _ | refine Ext.set ?_ (by omega) _ | refine Ext.alloc ?_ _ | refine Ext.drew ?_ | refine Ext.drewN ?_ _ | refine Ext.trans ?_ (by assumption))); obtain ⟨hc2, hf2, hz2⟩ := hx2.cells; have hs2 := hb2.size))
  go_upto_region 7 with (first | (go_at_call 17; refine (havens17_ok I tick _ (hI.out.ext (by with_reducible (repeat first | assumption | exact Ext.refl _ | refine Ext.set ?_ (by omega) _ | refine Ext.alloc ?_ _ | refine Ext.drew ?_ | refine Ext.drewN ?_ _ | refine Ext.trans ?_ (by assumption)))) hsh.out hc.out).mono ?_; rintro e1 w3 ⟨A3, k3, rfl, hR3, hb3⟩; replace hR3 := Lib.hid hR3; have hx3 : Ext W1 w3 := (by with_reducible (repeat first | assumption | exact Ext.refl _ | refine Ext.set ?_ (by omega) _ | refine Ext.alloc ?_ _ | refine Ext.drew ?_ | refine Ext.drewN ?_ _ | refine Ext.trans ?_ (by assumption))); obtain ⟨hc3, hf3, hz3⟩ := hx3.cells) | (go_at_call 18; refine (havens18_ok I tick _ (hI.out.ext (by with_reducible (repeat first | assumption | exact Ext.refl _ | refine Ext.set ?_ (by omega) _ | refine Ext.alloc ?_ _ | refine Ext.drew ?_ | refine Ext.drewN ?_ _ | refine Ext.trans ?_ (by assumption)))) hc.out).mono ?_; rintro e1 w4 ⟨A4, k4, rfl, hR4, hb4⟩; replace hR4 := Lib.hid hR4; have hx4 : Ext W1 w4 := (by with_reducible (repeat first | assumption | exact Ext.refl _ | refine Ext.set ?_ (by omega) _ | refine Ext.alloc ?_ _ | refine Ext.drew ?_ | refine Ext.drewN ?_ _ | refine Ext.trans ?_ (by assumption))); obtain ⟨hc4, hf4, hz4⟩ := hx4.cells) | (go_at_call 19; refine (sameHavens_19 (I.P.all tick false) _ _ _ _ _ _ (hR3.out.ext (by with_reducible (repeat first | assumption | exact Ext.refl _ | refine Ext.set ?_ (by omega) _ | refine Ext.alloc ?_ _ | refine Ext.drew ?_ | refine Ext.drewN ?_ _ | refine Ext.trans ?_ (by assumption)))) (hR4.out.ext (by with_reducible (repeat first | assumption | exact Ext.refl _ | refine Ext.set ?_ (by omega) _ | refine Ext.alloc ?_ _ | refine Ext.drew ?_ | refine Ext.drewN ?_ _ | refine Ext.trans ?_ (by assumption))))).mono ?_; rintro e1 w5 ⟨rfl, hb5⟩; have hx5 : Ext W1 w5 := (by with_reducible (repeat first | assumption | exact Ext.refl _ | refine Ext.set ?_ (by omega) _ | refine Ext.alloc ?_ _ | refine Ext.drew ?_ | refine Ext.drewN ?_ _ | refine Ext.trans ?_ (by assumption))); obtain ⟨hc5, hf5, hz5⟩ := hx5.cells; have hs5 := hb5.size))
  clear hc2 hf2 hz2 hc3 hf3 hz3 hc4 hf4 hz4
  go_upto_region 8 with (go_at_call 20; refine (Best_20 I tick _ (hI.out.ext (by with_reducible (repeat first | assumption | exact Ext.refl _ | refine Ext.set ?_ (by omega) _ | refine Ext.alloc ?_ _ | refine Ext.drew ?_ | refine Ext.drewN ?_ _ | refine Ext.trans ?_ (by assumption)))) hsh.out).mono ?_; rw [hbR.out]; rintro e1 w6 ⟨rfl, hb6⟩; have hx6 : Ext W1 w6 := (by with_reducible (repeat first | assumption | exact Ext.refl _ | refine Ext.set ?_ (by omega) _ | refine Ext.alloc ?_ _ | refine Ext.drew ?_ | refine Ext.drewN ?_ _ | refine Ext.trans ?_ (by assumption))); obtain ⟨hc6, hf6, hz6⟩ := hx6.cells; have hs6 := hb6.size)
  refine name_as (P := fun W => HvAt W w6.heap.size x ∧ Ext W1 W) (R := fun W => Code.wp _ _ _ _ W) ⟨HvAt.new w6 x, (by with_reducible (repeat first | assumption | exact Ext.refl _ | refine Ext.set ?_ (by omega) _ | refine Ext.alloc ?_ _ | refine Ext.drew ?_ | refine Ext.drewN ?_ _ | refine Ext.trans ?_ (by assumption)))⟩ fun W7 ⟨hH, hx7⟩ => ?_
  clear hc5 hf5 hz5 hc6 hf6 hz6
  obtain ⟨hc7, hf7, hz7⟩ := hx7.cells
  go_upto_region 9 with (go_at_call 21; refine (Best_21 I tick _ (hI.out.ext (by with_reducible (repeat first | assumption | exact Ext.refl _ | refine Ext.set ?_ (by omega) _ | refine Ext.alloc ?_ _ | refine Ext.drew ?_ | refine Ext.drewN ?_ _ | refine Ext.trans ?_ (by assumption))))).mono ?_; rw [hbR.out]; rintro e1 w8 ⟨rfl, hb8⟩; have hx8 : Ext W1 w8 := (by with_reducible (repeat first | assumption | exact Ext.refl _ | refine Ext.set ?_ (by omega) _ | refine Ext.alloc ?_ _ | refine Ext.drew ?_ | refine Ext.drewN ?_ _ | refine Ext.trans ?_ (by assumption))))
  refine name_as (P := fun W => HvAt W w6.heap.size x ∧ HvAt W w8.heap.size x ∧ Ext W1 W) (R := fun W => Code.wp _ _ _ _ W) ⟨(hH.ext hb8).ext ((Ext.refl _).alloc _), HvAt.new w8 x, (by with_reducible (repeat first | assumption | exact Ext.refl _ | refine Ext.set ?_ (by omega) _ | refine Ext.alloc ?_ _ | refine Ext.drew ?_ | refine Ext.drewN ?_ _ | refine Ext.trans ?_ (by assumption)))⟩ fun W9 ⟨hH1, hH2, hx9⟩ => ?_
  obtain ⟨l1, x0, x1, x2, -⟩ := hH1
  obtain ⟨l2, y0, y1, y2, -⟩ := hH2
  go_wp2_with (go_at_call 16; refine (works_16 _).mono ?_; rintro e1 w10 ⟨rfl, hb10⟩)
  go_ret
  exact ⟨rfl, (by with_reducible (repeat first | assumption | exact Ext.refl _ | refine Ext.set ?_ (by omega) _ | refine Ext.alloc ?_ _ | refine Ext.drew ?_ | refine Ext.drewN ?_ _ | refine Ext.trans ?_ (by assumption)))⟩
set_option maxRecDepth 100000 in
set_option maxHeartbeats 2000000 in
theorem law_3_bad (I : Inp) (tick : Int) (w : World) (h : I.In w) (hl : I.long = false) (hsh : I.Short) (hc : I.code tick ≠ 0) : Calls Tryz.prog 3 #[I.vp, I.vf, .int .i64 tick] w fun e w' => e = .returned (.bool true) ∧ Ext w w' := by
  simp only [Inp.vp, Inp.vf, Flight.val]
  replace hl := Lib.hid hl
  replace hsh := Lib.hid hsh
  replace hc := Lib.hid hc
  obtain ⟨⟨x, c⟩, hbR⟩ : ∃ y, I.bestR tick = y := ⟨_, rfl⟩
  replace hbR := Lib.hid hbR
  obtain ⟨d34, u34, dr, i34⟩ := desc34
  replace u34 := Lib.hid u34
  replace dr := Lib.hid dr
  replace i34 := Lib.hid i34
  go_enter Tryz.func3, Tryz.ntmps3
  go_upto_region 1 with (fail)
  refine name_world_as (P := fun W => Boxed I w.heap.size W ∧ Ext w W) (R := fun W => Code.wp _ _ _ _ W) ⟨Boxed.new I w, (by with_reducible (repeat first | assumption | exact Ext.refl _ | refine Ext.set ?_ (by omega) _ | refine Ext.alloc ?_ _ | refine Ext.drew ?_ | refine Ext.drewN ?_ _ | refine Ext.trans ?_ (by assumption)))⟩ fun W1 ⟨hB, hxw⟩ => ?_
  have hI := Lib.hid (h.ext hxw)
  have hBx := Lib.hid hB
  have hrg := Lib.hid (InRange.mk hB.range hB.lt)
  obtain ⟨p0, p1, p2, p3, p4, p5, p6, p7, p8, p9, p10, p11, p12, p13, p14, p15, p16, p17, p18, p19, f0, f1, f2, f3, f4, lb⟩ := hB
  have lb0 : w.heap.size < W1.heap.size := by omega
  go_upto_region 3 with (first | ((with_reducible refine at_list ?_); refine wpList_load_mid rfl 34 (.tmp 3) (by rfl) w.heap.size 0 (by rfl) [.int .i64 I.m.places, .int .i64 I.m.any.w.lo, .int .i64 I.m.any.w.hi, .int .i64 I.m.any.s.lo, .int .i64 I.m.any.s.hi, .int .i64 I.m.any.c.lo, .int .i64 I.m.any.c.hi, .bool I.m.any.ice, .bool I.m.any.storm, .int .i64 I.m.wind, .int .i64 I.m.see, .int .i64 I.m.ceil, .slice I.AF I.nF I.cF, .slice I.AS I.nS I.cS, .int .i64 I.l.wind, .int .i64 I.l.see, .int .i64 I.l.ceil, .bool I.l.ice, .bool I.l.storm, .slice I.AX I.nX I.cX] d34 (hrg.out.ext (by with_reducible (repeat first | assumption | exact Ext.refl _ | refine Ext.set ?_ (by omega) _ | refine Ext.alloc ?_ _ | refine Ext.drew ?_ | refine Ext.drewN ?_ _ | refine Ext.trans ?_ (by assumption)))) u34.out dr.out i34.out ?_) | (go_at_call 15; refine (Long_15 I _ (hI.out.ext (by with_reducible (repeat first | assumption | exact Ext.refl _ | refine Ext.set ?_ (by omega) _ | refine Ext.alloc ?_ _ | refine Ext.drew ?_ | refine Ext.drewN ?_ _ | refine Ext.trans ?_ (by assumption))))).mono ?_; rw [hl.out]; rintro e1 w2 ⟨rfl, hb2⟩; have hx2 : Ext W1 w2 := (by with_reducible (repeat first | assumption | exact Ext.refl _ | refine Ext.set ?_ (by omega) _ | refine Ext.alloc ?_ _ | refine Ext.drew ?_ | refine Ext.drewN ?_ _ | refine Ext.trans ?_ (by assumption))); obtain ⟨hc2, hf2, hz2⟩ := hx2.cells; have hs2 := hb2.size))
  go_upto_region 7 with (first | (go_at_call 17; refine (havens17_bad I tick _ (hI.out.ext (by with_reducible (repeat first | assumption | exact Ext.refl _ | refine Ext.set ?_ (by omega) _ | refine Ext.alloc ?_ _ | refine Ext.drew ?_ | refine Ext.drewN ?_ _ | refine Ext.trans ?_ (by assumption)))) hsh.out hc.out).mono ?_; rintro e1 w3 ⟨rfl, hb3⟩; have hx3 : Ext W1 w3 := (by with_reducible (repeat first | assumption | exact Ext.refl _ | refine Ext.set ?_ (by omega) _ | refine Ext.alloc ?_ _ | refine Ext.drew ?_ | refine Ext.drewN ?_ _ | refine Ext.trans ?_ (by assumption))); obtain ⟨hc3, hf3, hz3⟩ := hx3.cells; have hs3 := hb3.size) | (go_at_call 18; refine (havens18_bad I tick _ (hI.out.ext (by with_reducible (repeat first | assumption | exact Ext.refl _ | refine Ext.set ?_ (by omega) _ | refine Ext.alloc ?_ _ | refine Ext.drew ?_ | refine Ext.drewN ?_ _ | refine Ext.trans ?_ (by assumption)))) hc.out).mono ?_; rintro e1 w4 ⟨rfl, hb4⟩; have hx4 : Ext W1 w4 := (by with_reducible (repeat first | assumption | exact Ext.refl _ | refine Ext.set ?_ (by omega) _ | refine Ext.alloc ?_ _ | refine Ext.drew ?_ | refine Ext.drewN ?_ _ | refine Ext.trans ?_ (by assumption))); obtain ⟨hc4, hf4, hz4⟩ := hx4.cells; have hs4 := hb4.size) | (go_at_call 19; refine (sameHavens_19 [] none none 0 0 0 _ (Rows.nil _ _ _ _) (Rows.nil _ _ _ _)).mono ?_; rintro e1 w5 ⟨rfl, hb5⟩; have hx5 : Ext W1 w5 := (by with_reducible (repeat first | assumption | exact Ext.refl _ | refine Ext.set ?_ (by omega) _ | refine Ext.alloc ?_ _ | refine Ext.drew ?_ | refine Ext.drewN ?_ _ | refine Ext.trans ?_ (by assumption))); obtain ⟨hc5, hf5, hz5⟩ := hx5.cells; have hs5 := hb5.size))
  clear hc2 hf2 hz2 hc3 hf3 hz3 hc4 hf4 hz4
  go_upto_region 8 with (go_at_call 20; refine (Best_20 I tick _ (hI.out.ext (by with_reducible (repeat first | assumption | exact Ext.refl _ | refine Ext.set ?_ (by omega) _ | refine Ext.alloc ?_ _ | refine Ext.drew ?_ | refine Ext.drewN ?_ _ | refine Ext.trans ?_ (by assumption)))) hsh.out).mono ?_; rw [hbR.out]; rintro e1 w6 ⟨rfl, hb6⟩; have hx6 : Ext W1 w6 := (by with_reducible (repeat first | assumption | exact Ext.refl _ | refine Ext.set ?_ (by omega) _ | refine Ext.alloc ?_ _ | refine Ext.drew ?_ | refine Ext.drewN ?_ _ | refine Ext.trans ?_ (by assumption))); obtain ⟨hc6, hf6, hz6⟩ := hx6.cells; have hs6 := hb6.size)
  refine name_as (P := fun W => HvAt W w6.heap.size x ∧ Ext W1 W) (R := fun W => Code.wp _ _ _ _ W) ⟨HvAt.new w6 x, (by with_reducible (repeat first | assumption | exact Ext.refl _ | refine Ext.set ?_ (by omega) _ | refine Ext.alloc ?_ _ | refine Ext.drew ?_ | refine Ext.drewN ?_ _ | refine Ext.trans ?_ (by assumption)))⟩ fun W7 ⟨hH, hx7⟩ => ?_
  clear hc5 hf5 hz5 hc6 hf6 hz6
  obtain ⟨hc7, hf7, hz7⟩ := hx7.cells
  go_upto_region 9 with (go_at_call 21; refine (Best_21 I tick _ (hI.out.ext (by with_reducible (repeat first | assumption | exact Ext.refl _ | refine Ext.set ?_ (by omega) _ | refine Ext.alloc ?_ _ | refine Ext.drew ?_ | refine Ext.drewN ?_ _ | refine Ext.trans ?_ (by assumption))))).mono ?_; rw [hbR.out]; rintro e1 w8 ⟨rfl, hb8⟩; have hx8 : Ext W1 w8 := (by with_reducible (repeat first | assumption | exact Ext.refl _ | refine Ext.set ?_ (by omega) _ | refine Ext.alloc ?_ _ | refine Ext.drew ?_ | refine Ext.drewN ?_ _ | refine Ext.trans ?_ (by assumption))))
  refine name_as (P := fun W => HvAt W w6.heap.size x ∧ HvAt W w8.heap.size x ∧ Ext W1 W) (R := fun W => Code.wp _ _ _ _ W) ⟨(hH.ext hb8).ext ((Ext.refl _).alloc _), HvAt.new w8 x, (by with_reducible (repeat first | assumption | exact Ext.refl _ | refine Ext.set ?_ (by omega) _ | refine Ext.alloc ?_ _ | refine Ext.drew ?_ | refine Ext.drewN ?_ _ | refine Ext.trans ?_ (by assumption)))⟩ fun W9 ⟨hH1, hH2, hx9⟩ => ?_
  obtain ⟨l1, x0, x1, x2, -⟩ := hH1
  obtain ⟨l2, y0, y1, y2, -⟩ := hH2
  go_wp2_with (go_at_call 16; refine (works_16 _).mono ?_; rintro e1 w10 ⟨rfl, hb10⟩)
  go_ret
  exact ⟨rfl, (by with_reducible (repeat first | assumption | exact Ext.refl _ | refine Ext.set ?_ (by omega) _ | refine Ext.alloc ?_ _ | refine Ext.drew ?_ | refine Ext.drewN ?_ _ | refine Ext.trans ?_ (by assumption)))⟩
theorem law_3 (I : Inp) (tick : Int) (w : World) (h : I.In w) : Calls Tryz.prog 3 #[I.vp, I.vf, .int .i64 tick] w fun e w' => e = .returned (.bool true) ∧ Ext w w' := by
  rcases Bool.eq_false_or_eq_true I.long with hl | hl
  · exact law_3_long I tick w h hl
  · by_cases hc : I.code tick = 0
    · exact law_3_ok I tick w h hl (Inp.long_false hl).1 hc
    · exact law_3_bad I tick w h hl (Inp.long_false hl).1 hc
end Go.Proofs.YtmmimbcfgobnaaaGreat
