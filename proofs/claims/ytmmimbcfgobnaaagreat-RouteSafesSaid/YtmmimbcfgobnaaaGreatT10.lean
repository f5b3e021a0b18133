/- The law RouteSafes: its walk. -/
import Derived.Test.YtmmimbcfgobnaaaGreatT9
import Derived.Test.YtmmimbcfgobnaaaGreatV7
import Derived.Test.YtmmimbcfgobnaaaGreatV8
set_option linter.unusedVariables false
set_option linter.unusedSimpArgs false
namespace Go.Proofs.YtmmimbcfgobnaaaGreat
open Go.RowKit
attribute [local go_sem] stored_match isSome_setCell

theorem proof42_ok (I : Inp) (w : World) (h : I.In w) (h12 : I.Short) (hc : I.proofC = 0) : Calls Tryz.prog 42 #[I.vm, I.l.val, I.vn, I.vf] w fun e w' => ∃ A k, e = .returned (.tuple #[.slice A I.P.proofN.length k, .int .i64 0]) ∧ Rows 3 Haven.enc w' A I.P.proofN.length I.P.proofN ∧ Ext w w' :=
  (Proof_42 I w h h12).mono fun e w' hp => by obtain ⟨A, k, h1, h2⟩ := hp.1 hc; exact ⟨A, k, h1, h2, hp.2.2⟩
theorem proof42_bad (I : Inp) (w : World) (h : I.In w) (h12 : I.Short) (hc : I.proofC ≠ 0) : Calls Tryz.prog 42 #[I.vm, I.l.val, I.vn, I.vf] w fun e w' => e = .returned (.tuple #[.slice none 0 0, .int .i64 I.proofC]) ∧ Ext w w' :=
  (Proof_42 I w h h12).mono fun e w' hp => ⟨hp.2.1 hc, hp.2.2⟩
theorem proof43_ok (I : Inp) (w : World) (h : I.In w) (hc : I.proofC = 0) : Calls Tryz.prog 43 #[I.vm, I.l.val, I.vn, I.vf] w fun e w' => ∃ A k, e = .returned (.tuple #[.slice A I.P.proofN.length k, .int .i64 0]) ∧ Rows 3 Haven.enc w' A I.P.proofN.length I.P.proofN ∧ Ext w w' :=
  (Proof_43 I w h).mono fun e w' hp => by obtain ⟨A, k, h1, h2⟩ := hp.1 hc; exact ⟨A, k, h1, h2, hp.2.2⟩
theorem proof43_bad (I : Inp) (w : World) (h : I.In w) (hc : I.proofC ≠ 0) : Calls Tryz.prog 43 #[I.vm, I.l.val, I.vn, I.vf] w fun e w' => e = .returned (.tuple #[.slice none 0 0, .int .i64 I.proofC]) ∧ Ext w w' :=
  (Proof_43 I w h).mono fun e w' hp => ⟨hp.2.1 hc, hp.2.2⟩
set_option maxRecDepth 100000 in
set_option maxHeartbeats 2000000 in
theorem law_10_long (I : Inp) (w : World) (h : I.In w) (hl : I.long = true) : Calls Tryz.prog 10 #[I.vp, I.vf] w fun e w' => e = .returned (.bool true) ∧ Ext w w' := by
  simp only [Inp.vp, Inp.vf, Flight.val]
  replace hl := Lib.hid hl
  obtain ⟨d34, u34, dr, i34⟩ := desc34
  replace u34 := Lib.hid u34
  replace dr := Lib.hid dr
  replace i34 := Lib.hid i34
  go_enter Tryz.func10, Tryz.ntmps10
  go_upto_region 1 with (fail)
  refine name_world_as (P := fun W => Boxed I w.heap.size W ∧ Ext w W) (R := fun W => Code.wp _ _ _ _ W) ⟨Boxed.new I w, (by with_reducible (repeat first | assumption | exact Ext.refl _ | refine Ext.set ?_ (by omega) _ | refine Ext.alloc ?_ _ | refine Ext.drew ?_ | refine Ext.drewN ?_ _ | refine Ext.trans ?_ (by assumption)))⟩ fun W1 ⟨hB, hxw⟩ => ?_
  have hI := Lib.hid (h.ext hxw)
  have hBx := Lib.hid hB
  have hrg := Lib.hid (InRange.mk hB.range hB.lt)
  obtain ⟨p0, p1, p2, p3, p4, p5, p6, p7, p8, p9, p10, p11, p12, p13, p14, p15, p16, p17, p18, p19, f0, f1, f2, f3, f4, lb⟩ := hB
  have lb0 : w.heap.size < W1.heap.size := by omega
  go_wp2_with (first | ((with_reducible refine at_list ?_); refine wpList_load_mid rfl 34 (.tmp 2) (by rfl) w.heap.size 0 (by rfl) [.int .i64 I.m.places, .int .i64 I.m.any.w.lo, .int .i64 I.m.any.w.hi, .int .i64 I.m.any.s.lo, .int .i64 I.m.any.s.hi, .int .i64 I.m.any.c.lo, .int .i64 I.m.any.c.hi, .bool I.m.any.ice, .bool I.m.any.storm, .int .i64 I.m.wind, .int .i64 I.m.see, .int .i64 I.m.ceil, .slice I.AF I.nF I.cF, .slice I.AS I.nS I.cS, .int .i64 I.l.wind, .int .i64 I.l.see, .int .i64 I.l.ceil, .bool I.l.ice, .bool I.l.storm, .slice I.AX I.nX I.cX] d34 (hrg.out.ext (by with_reducible (repeat first | assumption | exact Ext.refl _ | refine Ext.set ?_ (by omega) _ | refine Ext.alloc ?_ _ | refine Ext.drew ?_ | refine Ext.drewN ?_ _ | refine Ext.trans ?_ (by assumption)))) u34.out dr.out i34.out ?_) | (go_at_call 15; refine (Long_15 I _ (hI.out.ext (by with_reducible (repeat first | assumption | exact Ext.refl _ | refine Ext.set ?_ (by omega) _ | refine Ext.alloc ?_ _ | refine Ext.drew ?_ | refine Ext.drewN ?_ _ | refine Ext.trans ?_ (by assumption))))).mono ?_; rw [hl.out]; rintro e1 w2 ⟨rfl, hb2⟩; have hx2 : Ext W1 w2 := (by with_reducible (repeat first | assumption | exact Ext.refl _ | refine Ext.set ?_ (by omega) _ | refine Ext.alloc ?_ _ | refine Ext.drew ?_ | refine Ext.drewN ?_ _ | refine Ext.trans ?_ (by assumption))); obtain ⟨hc2, hf2, hz2⟩ := hx2.cells; have hs2 := hb2.size) | (go_at_call 16; refine (works_16 _).mono ?_; rintro e1 w9 ⟨rfl, hb9⟩))
  go_ret
  exact ⟨rfl, (by with_reducible (repeat first | assumption | exact Ext.refl _ | refine Ext.set ?_ (by omega) _ | refine Ext.alloc ?_ _ | refine Ext.drew ?_ | refine Ext.drewN ?_ _ | refine Ext.trans ?_ (by assumption)))⟩
set_option maxRecDepth 100000 in
set_option maxHeartbeats 2000000 in
theorem law_10_ok (I : Inp) (w : World) (h : I.In w) (hl : I.long = false) (hsh : I.Short) (hc : I.proofC = 0) : Calls Tryz.prog 10 #[I.vp, I.vf] w fun e w' => e = .returned (.bool true) ∧ Ext w w' := by
  simp only [Inp.vp, Inp.vf, Flight.val]
  replace hl := Lib.hid hl
  replace hsh := Lib.hid hsh
  replace hc := Lib.hid hc
  obtain ⟨⟨s, b, c⟩, hS⟩ : ∃ y, I.safeR = y := ⟨_, rfl⟩
  replace hS := Lib.hid hS
  obtain ⟨d34, u34, dr, i34⟩ := desc34
  replace u34 := Lib.hid u34
  replace dr := Lib.hid dr
  replace i34 := Lib.hid i34
  go_enter Tryz.func10, Tryz.ntmps10
  go_upto_region 1 with (fail)
  refine name_world_as (P := fun W => Boxed I w.heap.size W ∧ Ext w W) (R := fun W => Code.wp _ _ _ _ W) ⟨Boxed.new I w, (by with_reducible (repeat first | assumption | exact Ext.refl _ | refine Ext.set ?_ (by omega) _ | refine Ext.alloc ?_ _ | refine Ext.drew ?_ | refine Ext.drewN ?_ _ | refine Ext.trans ?_ (by assumption)))⟩ fun W1 ⟨hB, hxw⟩ => ?_
  have hI := Lib.hid (h.ext hxw)
  have hBx := Lib.hid hB
  have hrg := Lib.hid (InRange.mk hB.range hB.lt)
  obtain ⟨p0, p1, p2, p3, p4, p5, p6, p7, p8, p9, p10, p11, p12, p13, p14, p15, p16, p17, p18, p19, f0, f1, f2, f3, f4, lb⟩ := hB
  have lb0 : w.heap.size < W1.heap.size := by omega
  go_upto_region 3 with (first | ((with_reducible refine at_list ?_); refine wpList_load_mid rfl 34 (.tmp 2) (by rfl) w.heap.size 0 (by rfl) [.int .i64 I.m.places, .int .i64 I.m.any.w.lo, .int .i64 I.m.any.w.hi, .int .i64 I.m.any.s.lo, .int .i64 I.m.any.s.hi, .int .i64 I.m.any.c.lo, .int .i64 I.m.any.c.hi, .bool I.m.any.ice, .bool I.m.any.storm, .int .i64 I.m.wind, .int .i64 I.m.see, .int .i64 I.m.ceil, .slice I.AF I.nF I.cF, .slice I.AS I.nS I.cS, .int .i64 I.l.wind, .int .i64 I.l.see, .int .i64 I.l.ceil, .bool I.l.ice, .bool I.l.storm, .slice I.AX I.nX I.cX] d34 (hrg.out.ext (by with_reducible (repeat first | assumption | exact Ext.refl _ | refine Ext.set ?_ (by omega) _ | refine Ext.alloc ?_ _ | refine Ext.drew ?_ | refine Ext.drewN ?_ _ | refine Ext.trans ?_ (by assumption)))) u34.out dr.out i34.out ?_) | (go_at_call 15; refine (Long_15 I _ (hI.out.ext (by with_reducible (repeat first | assumption | exact Ext.refl _ | refine Ext.set ?_ (by omega) _ | refine Ext.alloc ?_ _ | refine Ext.drew ?_ | refine Ext.drewN ?_ _ | refine Ext.trans ?_ (by assumption))))).mono ?_; rw [hl.out]; rintro e1 w2 ⟨rfl, hb2⟩; have hx2 : Ext W1 w2 := (by with_reducible (repeat first | assumption | exact Ext.refl _ | refine Ext.set ?_ (by omega) _ | refine Ext.alloc ?_ _ | refine Ext.drew ?_ | refine Ext.drewN ?_ _ | refine Ext.trans ?_ (by assumption))); obtain ⟨hc2, hf2, hz2⟩ := hx2.cells; have hs2 := hb2.size))
  go_wp2_with (first | (go_at_call 32; refine (Safe_32 I _ (hI.out.ext (by with_reducible (repeat first | assumption | exact Ext.refl _ | refine Ext.set ?_ (by omega) _ | refine Ext.alloc ?_ _ | refine Ext.drew ?_ | refine Ext.drewN ?_ _ | refine Ext.trans ?_ (by assumption)))) hsh.out).mono ?_; rw [hS.out]; rintro e1 w3 ⟨rfl, hb3⟩; have hx3 : Ext W1 w3 := (by with_reducible (repeat first | assumption | exact Ext.refl _ | refine Ext.set ?_ (by omega) _ | refine Ext.alloc ?_ _ | refine Ext.drew ?_ | refine Ext.drewN ?_ _ | refine Ext.trans ?_ (by assumption))); obtain ⟨hc3, hf3, hz3⟩ := hx3.cells; have hs3 := hb3.size) | (go_at_call 41; refine (Safe_41 I _ (hI.out.ext (by with_reducible (repeat first | assumption | exact Ext.refl _ | refine Ext.set ?_ (by omega) _ | refine Ext.alloc ?_ _ | refine Ext.drew ?_ | refine Ext.drewN ?_ _ | refine Ext.trans ?_ (by assumption))))).mono ?_; rw [hS.out]; rintro e1 w4 ⟨rfl, hb4⟩; have hx4 : Ext W1 w4 := (by with_reducible (repeat first | assumption | exact Ext.refl _ | refine Ext.set ?_ (by omega) _ | refine Ext.alloc ?_ _ | refine Ext.drew ?_ | refine Ext.drewN ?_ _ | refine Ext.trans ?_ (by assumption))); obtain ⟨hc4, hf4, hz4⟩ := hx4.cells; have hs4 := hb4.size) | (go_at_call 42; refine (proof42_ok I _ (hI.out.ext (by with_reducible (repeat first | assumption | exact Ext.refl _ | refine Ext.set ?_ (by omega) _ | refine Ext.alloc ?_ _ | refine Ext.drew ?_ | refine Ext.drewN ?_ _ | refine Ext.trans ?_ (by assumption)))) hsh.out hc.out).mono ?_; rintro e1 w5 ⟨A5, k5, rfl, hR5, hb5⟩; replace hR5 := Lib.hid hR5; have hx5 : Ext W1 w5 := (by with_reducible (repeat first | assumption | exact Ext.refl _ | refine Ext.set ?_ (by omega) _ | refine Ext.alloc ?_ _ | refine Ext.drew ?_ | refine Ext.drewN ?_ _ | refine Ext.trans ?_ (by assumption))); obtain ⟨hc5, hf5, hz5⟩ := hx5.cells) | (go_at_call 43; refine (proof43_ok I _ (hI.out.ext (by with_reducible (repeat first | assumption | exact Ext.refl _ | refine Ext.set ?_ (by omega) _ | refine Ext.alloc ?_ _ | refine Ext.drew ?_ | refine Ext.drewN ?_ _ | refine Ext.trans ?_ (by assumption)))) hc.out).mono ?_; rintro e1 w6 ⟨A6, k6, rfl, hR6, hb6⟩; replace hR6 := Lib.hid hR6; have hx6 : Ext W1 w6 := (by with_reducible (repeat first | assumption | exact Ext.refl _ | refine Ext.set ?_ (by omega) _ | refine Ext.alloc ?_ _ | refine Ext.drew ?_ | refine Ext.drewN ?_ _ | refine Ext.trans ?_ (by assumption))); obtain ⟨hc6, hf6, hz6⟩ := hx6.cells) | (go_at_call 19; refine (sameHavens_19 I.P.proofN _ _ _ _ _ _ (hR5.out.ext (by with_reducible (repeat first | assumption | exact Ext.refl _ | refine Ext.set ?_ (by omega) _ | refine Ext.alloc ?_ _ | refine Ext.drew ?_ | refine Ext.drewN ?_ _ | refine Ext.trans ?_ (by assumption)))) (hR6.out.ext (by with_reducible (repeat first | assumption | exact Ext.refl _ | refine Ext.set ?_ (by omega) _ | refine Ext.alloc ?_ _ | refine Ext.drew ?_ | refine Ext.drewN ?_ _ | refine Ext.trans ?_ (by assumption))))).mono ?_; rintro e1 w7 ⟨rfl, hb7⟩; have hx7 : Ext W1 w7 := (by with_reducible (repeat first | assumption | exact Ext.refl _ | refine Ext.set ?_ (by omega) _ | refine Ext.alloc ?_ _ | refine Ext.drew ?_ | refine Ext.drewN ?_ _ | refine Ext.trans ?_ (by assumption))); obtain ⟨hc7, hf7, hz7⟩ := hx7.cells; have hs7 := hb7.size) | (go_at_call 16; refine (works_16 _).mono ?_; rintro e1 w9 ⟨rfl, hb9⟩))
  go_ret
  exact ⟨rfl, (by with_reducible (repeat first | assumption | exact Ext.refl _ | refine Ext.set ?_ (by omega) _ | refine Ext.alloc ?_ _ | refine Ext.drew ?_ | refine Ext.drewN ?_ _ | refine Ext.trans ?_ (by assumption)))⟩
set_option maxRecDepth 100000 in
set_option maxHeartbeats 2000000 in
theorem law_10_bad (I : Inp) (w : World) (h : I.In w) (hl : I.long = false) (hsh : I.Short) (hc : I.proofC ≠ 0) : Calls Tryz.prog 10 #[I.vp, I.vf] w fun e w' => e = .returned (.bool true) ∧ Ext w w' := by
  simp only [Inp.vp, Inp.vf, Flight.val]
  replace hl := Lib.hid hl
  replace hsh := Lib.hid hsh
  replace hc := Lib.hid hc
  obtain ⟨⟨s, b, c⟩, hS⟩ : ∃ y, I.safeR = y := ⟨_, rfl⟩
  replace hS := Lib.hid hS
  obtain ⟨d34, u34, dr, i34⟩ := desc34
  replace u34 := Lib.hid u34
  replace dr := Lib.hid dr
  replace i34 := Lib.hid i34
  go_enter Tryz.func10, Tryz.ntmps10
  go_upto_region 1 with (fail)
  refine name_world_as (P := fun W => Boxed I w.heap.size W ∧ Ext w W) (R := fun W => Code.wp _ _ _ _ W) ⟨Boxed.new I w, (by with_reducible (repeat first | assumption | exact Ext.refl _ | refine Ext.set ?_ (by omega) _ | refine Ext.alloc ?_ _ | refine Ext.drew ?_ | refine Ext.drewN ?_ _ | refine Ext.trans ?_ (by assumption)))⟩ fun W1 ⟨hB, hxw⟩ => ?_
  have hI := Lib.hid (h.ext hxw)
  have hBx := Lib.hid hB
  have hrg := Lib.hid (InRange.mk hB.range hB.lt)
  obtain ⟨p0, p1, p2, p3, p4, p5, p6, p7, p8, p9, p10, p11, p12, p13, p14, p15, p16, p17, p18, p19, f0, f1, f2, f3, f4, lb⟩ := hB
  have lb0 : w.heap.size < W1.heap.size := by omega
  go_upto_region 3 with (first | ((with_reducible refine at_list ?_); refine wpList_load_mid rfl 34 (.tmp 2) (by rfl) w.heap.size 0 (by rfl) [.int .i64 I.m.places, .int .i64 I.m.any.w.lo, .int .i64 I.m.any.w.hi, .int .i64 I.m.any.s.lo, .int .i64 I.m.any.s.hi, .int .i64 I.m.any.c.lo, .int .i64 I.m.any.c.hi, .bool I.m.any.ice, .bool I.m.any.storm, .int .i64 I.m.wind, .int .i64 I.m.see, .int .i64 I.m.ceil, .slice I.AF I.nF I.cF, .slice I.AS I.nS I.cS, .int .i64 I.l.wind, .int .i64 I.l.see, .int .i64 I.l.ceil, .bool I.l.ice, .bool I.l.storm, .slice I.AX I.nX I.cX] d34 (hrg.out.ext (by with_reducible (repeat first | assumption | exact Ext.refl _ | refine Ext.set ?_ (by omega) _ | refine Ext.alloc ?_ _ | refine Ext.drew ?_ | refine Ext.drewN ?_ _ | refine Ext.trans ?_ (by assumption)))) u34.out dr.out i34.out ?_) | (go_at_call 15; refine (Long_15 I _ (hI.out.ext (by with_reducible (repeat first | assumption | exact Ext.refl _ | refine Ext.set ?_ (by omega) _ | refine Ext.alloc ?_ _ | refine Ext.drew ?_ | refine Ext.drewN ?_ _ | refine Ext.trans ?_ (by assumption))))).mono ?_; rw [hl.out]; rintro e1 w2 ⟨rfl, hb2⟩; have hx2 : Ext W1 w2 := (by with_reducible (repeat first | assumption | exact Ext.refl _ | refine Ext.set ?_ (by omega) _ | refine Ext.alloc ?_ _ | refine Ext.drew ?_ | refine Ext.drewN ?_ _ | refine Ext.trans ?_ (by assumption))); obtain ⟨hc2, hf2, hz2⟩ := hx2.cells; have hs2 := hb2.size))
  go_wp2_with (first | (go_at_call 32; refine (Safe_32 I _ (hI.out.ext (by with_reducible (repeat first | assumption | exact Ext.refl _ | refine Ext.set ?_ (by omega) _ | refine Ext.alloc ?_ _ | refine Ext.drew ?_ | refine Ext.drewN ?_ _ | refine Ext.trans ?_ (by assumption)))) hsh.out).mono ?_; rw [hS.out]; rintro e1 w3 ⟨rfl, hb3⟩; have hx3 : Ext W1 w3 := (by with_reducible (repeat first | assumption | exact Ext.refl _ | refine Ext.set ?_ (by omega) _ | refine Ext.alloc ?_ _ | refine Ext.drew ?_ | refine Ext.drewN ?_ _ | refine Ext.trans ?_ (by assumption))); obtain ⟨hc3, hf3, hz3⟩ := hx3.cells; have hs3 := hb3.size) | (go_at_call 41; refine (Safe_41 I _ (hI.out.ext (by with_reducible (repeat first | assumption | exact Ext.refl _ | refine Ext.set ?_ (by omega) _ | refine Ext.alloc ?_ _ | refine Ext.drew ?_ | refine Ext.drewN ?_ _ | refine Ext.trans ?_ (by assumption))))).mono ?_; rw [hS.out]; rintro e1 w4 ⟨rfl, hb4⟩; have hx4 : Ext W1 w4 := (by with_reducible (repeat first | assumption | exact Ext.refl _ | refine Ext.set ?_ (by omega) _ | refine Ext.alloc ?_ _ | refine Ext.drew ?_ | refine Ext.drewN ?_ _ | refine Ext.trans ?_ (by assumption))); obtain ⟨hc4, hf4, hz4⟩ := hx4.cells; have hs4 := hb4.size) | (go_at_call 42; refine (proof42_bad I _ (hI.out.ext (by with_reducible (repeat first | assumption | exact Ext.refl _ | refine Ext.set ?_ (by omega) _ | refine Ext.alloc ?_ _ | refine Ext.drew ?_ | refine Ext.drewN ?_ _ | refine Ext.trans ?_ (by assumption)))) hsh.out hc.out).mono ?_; rintro e1 w5 ⟨rfl, hb5⟩; have hx5 : Ext W1 w5 := (by with_reducible (repeat first | assumption | exact Ext.refl _ | refine Ext.set ?_ (by omega) _ | refine Ext.alloc ?_ _ | refine Ext.drew ?_ | refine Ext.drewN ?_ _ | refine Ext.trans ?_ (by assumption))); obtain ⟨hc5, hf5, hz5⟩ := hx5.cells; have hs5 := hb5.size) | (go_at_call 43; refine (proof43_bad I _ (hI.out.ext (by with_reducible (repeat first | assumption | exact Ext.refl _ | refine Ext.set ?_ (by omega) _ | refine Ext.alloc ?_ _ | refine Ext.drew ?_ | refine Ext.drewN ?_ _ | refine Ext.trans ?_ (by assumption)))) hc.out).mono ?_; rintro e1 w6 ⟨rfl, hb6⟩; have hx6 : Ext W1 w6 := (by with_reducible (repeat first | assumption | exact Ext.refl _ | refine Ext.set ?_ (by omega) _ | refine Ext.alloc ?_ _ | refine Ext.drew ?_ | refine Ext.drewN ?_ _ | refine Ext.trans ?_ (by assumption))); obtain ⟨hc6, hf6, hz6⟩ := hx6.cells; have hs6 := hb6.size) | (go_at_call 19; refine (sameHavens_19 [] none none 0 0 0 _ (Rows.nil _ _ _ _) (Rows.nil _ _ _ _)).mono ?_; rintro e1 w7 ⟨rfl, hb7⟩; have hx7 : Ext W1 w7 := (by with_reducible (repeat first | assumption | exact Ext.refl _ | refine Ext.set ?_ (by omega) _ | refine Ext.alloc ?_ _ | refine Ext.drew ?_ | refine Ext.drewN ?_ _ | refine Ext.trans ?_ (by assumption))); obtain ⟨hc7, hf7, hz7⟩ := hx7.cells; have hs7 := hb7.size) | (go_at_call 16; refine (works_16 _).mono ?_; rintro e1 w9 ⟨rfl, hb9⟩))
  go_ret
  exact ⟨rfl, (by with_reducible (repeat first | assumption | exact Ext.refl _ | refine Ext.set ?_ (by omega) _ | refine Ext.alloc ?_ _ | refine Ext.drew ?_ | refine Ext.drewN ?_ _ | refine Ext.trans ?_ (by assumption)))⟩
theorem law_10 (I : Inp) (w : World) (h : I.In w) : Calls Tryz.prog 10 #[I.vp, I.vf] w fun e w' => e = .returned (.bool true) ∧ Ext w w' := by
  rcases Bool.eq_false_or_eq_true I.long with hl | hl
  · exact law_10_long I w h hl
  · by_cases hc : I.proofC = 0
    · exact law_10_ok I w h hl (Inp.long_false hl).1 hc
    · exact law_10_bad I w h hl (Inp.long_false hl).1 hc
end Go.Proofs.YtmmimbcfgobnaaaGreat
