/- The law RouteLeast: its walk. -/
import Derived.Test.YtmmimbcfgobnaaaGreatT9
import Derived.Test.YtmmimbcfgobnaaaGreatD8
import Derived.BigRegion
set_option linter.unusedVariables false
set_option linter.unusedSimpArgs false
namespace Go.Proofs.YtmmimbcfgobnaaaGreat
open Go.RowKit
attribute [local go_sem] stored_match isSome_setCell

/-- Whether a statement looks at a plan and a flight. -/
def Inp.right (I : Inp) : Bool := decide (I.err = 0) && !I.long
theorem Inp.right_true {I : Inp} (h : I.right = true) : I.err = 0 ∧ I.Short ∧ I.f.arrival I.N.L ≤ I.f.depart + 80 := by
  unfold Inp.right at h
  simp only [Bool.and_eq_true, decide_eq_true_eq, Bool.not_eq_true'] at h
  obtain ⟨h1, h2⟩ := Inp.long_false h.2
  exact ⟨h.1, h1, h2 (Inp.err_good h.1).2.2.2⟩
theorem wpList_load_mid_g {P : Program} {ops : Array Oper} {rest : List Oper} {op : Oper} {a : Act} {w : World} {Q : Exit → Act → World → Prop} (hw : Region.wanted op (yielded ops a.tmps) = true) (ty : TypeId) (x : Operand) (ho : op.op = .load ty x)
    (b o : Nat) (hx : a.eval x = .pointer (some ⟨b, o, none⟩)) (cs : List Value) (d : TypeDesc) (hc : w.rangeAt b o cs)
    (hu : P.underlying ty = some d) (hd : d.isRow = true) (hi : (P.info? ty).map (·.size) = some cs.length)
    (h : wpList P ops Q rest (a.put op.dst (.agg cs.toArray)) w) : wpList P ops Q (op :: rest) a w :=
  wpList_step fun K hK => by rw [if_pos hw]; exact wp_load_mid ty x ho b o hx cs d hc hu hd hi (hK _ _ h)
set_option maxRecDepth 100000 in
set_option maxHeartbeats 2000000 in
theorem right_bad (I : Inp) (w : World) (h : I.In w) (hm : checkMinima I.m I.l = 0) (hc : I.err0 ≠ 0) : Calls Tryz.prog 30 #[I.vp, I.vf] w fun e w' => e = .returned (.bool false) ∧ Ext w w' := by
  simp only [Inp.vp, Inp.vf, Flight.val]
  have hbb : (I.err0 == (0 : Int)) = false := beq_eq_false_iff_ne.2 hc
  replace hc := Lib.hid hc
  replace hm := Lib.hid hm
  obtain ⟨d34, u34, dr, i34⟩ := desc34
  replace u34 := Lib.hid u34
  replace dr := Lib.hid dr
  replace i34 := Lib.hid i34
  go_enter Tryz.func30, Tryz.ntmps30
  go_upto_region 1 with (fail)
  refine name_world_as (P := fun W => Boxed I w.heap.size W ∧ Ext w W) (R := fun W => Code.wp _ _ _ _ W) ⟨Boxed.new I w, (by with_reducible (repeat first | assumption | exact Ext.refl _ | refine Ext.set ?_ (by omega) _ | refine Ext.alloc ?_ _ | refine Ext.drew ?_ | refine Ext.drewN ?_ _ | refine Ext.trans ?_ (by assumption)))⟩ fun W1 ⟨hB, hxw⟩ => ?_
  have hI := Lib.hid (h.ext hxw)
  have hBx := Lib.hid hB
  have hrg := Lib.hid (InRange.mk hB.range hB.lt)
  obtain ⟨p0, p1, p2, p3, p4, p5, p6, p7, p8, p9, p10, p11, p12, p13, p14, p15, p16, p17, p18, p19, f0, f1, f2, f3, f4, lb⟩ := hB
  have lb0 : w.heap.size < W1.heap.size := by omega
  go_wp2_with (first | (go_at_call 68; refine (checkMinima_68 I.m I.l I.AF I.AS I.nF I.cF I.nS I.cS _ (hI.out.met.ext (by with_reducible (repeat first | assumption | exact Ext.refl _ | refine Ext.set ?_ (by omega) _ | refine Ext.alloc ?_ _ | refine Ext.drew ?_ | refine Ext.drewN ?_ _ | refine Ext.trans ?_ (by assumption))))).mono ?_; rw [hm.out]; rintro e1 w2 ⟨rfl, hb2⟩; have hx2 : Ext W1 w2 := (by with_reducible (repeat first | assumption | exact Ext.refl _ | refine Ext.set ?_ (by omega) _ | refine Ext.alloc ?_ _ | refine Ext.drew ?_ | refine Ext.drewN ?_ _ | refine Ext.trans ?_ (by assumption))); obtain ⟨hc2, hf2, hz2⟩ := hx2.cells; have hs2 := hb2.size) | (go_at_call 25; refine (Check_25 I _ (hI.out.ext (by with_reducible (repeat first | assumption | exact Ext.refl _ | refine Ext.set ?_ (by omega) _ | refine Ext.alloc ?_ _ | refine Ext.drew ?_ | refine Ext.drewN ?_ _ | refine Ext.trans ?_ (by assumption))))).mono ?_; rintro e1 w3 ⟨rfl, hb3⟩; have hx3 : Ext W1 w3 := (by with_reducible (repeat first | assumption | exact Ext.refl _ | refine Ext.set ?_ (by omega) _ | refine Ext.alloc ?_ _ | refine Ext.drew ?_ | refine Ext.drewN ?_ _ | refine Ext.trans ?_ (by assumption))); obtain ⟨hc3, hf3, hz3⟩ := hx3.cells; have hs3 := hb3.size))
  go_ret
  exact ⟨rfl, (by with_reducible (repeat first | assumption | exact Ext.refl _ | refine Ext.set ?_ (by omega) _ | refine Ext.alloc ?_ _ | refine Ext.drew ?_ | refine Ext.drewN ?_ _ | refine Ext.trans ?_ (by assumption)))⟩
set_option maxRecDepth 100000 in
set_option maxHeartbeats 2000000 in
theorem right_min (I : Inp) (w : World) (h : I.In w) (hm : checkMinima I.m I.l ≠ 0) : Calls Tryz.prog 30 #[I.vp, I.vf] w fun e w' => e = .returned (.bool false) ∧ Ext w w' := by
  simp only [Inp.vp, Inp.vf, Flight.val]
  have hbb : (checkMinima I.m I.l == (0 : Int)) = false := beq_eq_false_iff_ne.2 hm
  replace hm := Lib.hid hm
  obtain ⟨d34, u34, dr, i34⟩ := desc34
  replace u34 := Lib.hid u34
  replace dr := Lib.hid dr
  replace i34 := Lib.hid i34
  go_enter Tryz.func30, Tryz.ntmps30
  go_upto_region 1 with (fail)
  refine name_world_as (P := fun W => Boxed I w.heap.size W ∧ Ext w W) (R := fun W => Code.wp _ _ _ _ W) ⟨Boxed.new I w, (by with_reducible (repeat first | assumption | exact Ext.refl _ | refine Ext.set ?_ (by omega) _ | refine Ext.alloc ?_ _ | refine Ext.drew ?_ | refine Ext.drewN ?_ _ | refine Ext.trans ?_ (by assumption)))⟩ fun W1 ⟨hB, hxw⟩ => ?_
  have hI := Lib.hid (h.ext hxw)
  have hBx := Lib.hid hB
  have hrg := Lib.hid (InRange.mk hB.range hB.lt)
  obtain ⟨p0, p1, p2, p3, p4, p5, p6, p7, p8, p9, p10, p11, p12, p13, p14, p15, p16, p17, p18, p19, f0, f1, f2, f3, f4, lb⟩ := hB
  have lb0 : w.heap.size < W1.heap.size := by omega
  go_wp2_with (first | (go_at_call 68; refine (checkMinima_68 I.m I.l I.AF I.AS I.nF I.cF I.nS I.cS _ (hI.out.met.ext (by with_reducible (repeat first | assumption | exact Ext.refl _ | refine Ext.set ?_ (by omega) _ | refine Ext.alloc ?_ _ | refine Ext.drew ?_ | refine Ext.drewN ?_ _ | refine Ext.trans ?_ (by assumption))))).mono ?_; rintro e1 w2 ⟨rfl, hb2⟩; have hx2 : Ext W1 w2 := (by with_reducible (repeat first | assumption | exact Ext.refl _ | refine Ext.set ?_ (by omega) _ | refine Ext.alloc ?_ _ | refine Ext.drew ?_ | refine Ext.drewN ?_ _ | refine Ext.trans ?_ (by assumption))); obtain ⟨hc2, hf2, hz2⟩ := hx2.cells; have hs2 := hb2.size))
  go_ret
  exact ⟨rfl, (by with_reducible (repeat first | assumption | exact Ext.refl _ | refine Ext.set ?_ (by omega) _ | refine Ext.alloc ?_ _ | refine Ext.drew ?_ | refine Ext.drewN ?_ _ | refine Ext.trans ?_ (by assumption)))⟩
set_option maxRecDepth 100000 in
set_option maxHeartbeats 2000000 in
theorem right_ok (I : Inp) (w : World) (h : I.In w) (hm : checkMinima I.m I.l = 0) (hc : I.err0 = 0) : Calls Tryz.prog 30 #[I.vp, I.vf] w fun e w' => e = .returned (.bool (!I.long)) ∧ Ext w w' := by
  simp only [Inp.vp, Inp.vf, Flight.val]
  replace hc := Lib.hid hc
  replace hm := Lib.hid hm
  obtain ⟨d34, u34, dr, i34⟩ := desc34
  replace u34 := Lib.hid u34
  replace dr := Lib.hid dr
  replace i34 := Lib.hid i34
  go_enter Tryz.func30, Tryz.ntmps30
  go_upto_region 1 with (fail)
  refine name_world_as (P := fun W => Boxed I w.heap.size W ∧ Ext w W) (R := fun W => Code.wp _ _ _ _ W) ⟨Boxed.new I w, (by with_reducible (repeat first | assumption | exact Ext.refl _ | refine Ext.set ?_ (by omega) _ | refine Ext.alloc ?_ _ | refine Ext.drew ?_ | refine Ext.drewN ?_ _ | refine Ext.trans ?_ (by assumption)))⟩ fun W1 ⟨hB, hxw⟩ => ?_
  have hI := Lib.hid (h.ext hxw)
  have hBx := Lib.hid hB
  have hrg := Lib.hid (InRange.mk hB.range hB.lt)
  obtain ⟨p0, p1, p2, p3, p4, p5, p6, p7, p8, p9, p10, p11, p12, p13, p14, p15, p16, p17, p18, p19, f0, f1, f2, f3, f4, lb⟩ := hB
  have lb0 : w.heap.size < W1.heap.size := by omega
  go_wp2_with (first | ((with_reducible refine at_list ?_); refine wpList_load_mid_g (by rfl) 34 (.tmp 2) (by rfl) w.heap.size 0 (by rfl) [.int .i64 I.m.places, .int .i64 I.m.any.w.lo, .int .i64 I.m.any.w.hi, .int .i64 I.m.any.s.lo, .int .i64 I.m.any.s.hi, .int .i64 I.m.any.c.lo, .int .i64 I.m.any.c.hi, .bool I.m.any.ice, .bool I.m.any.storm, .int .i64 I.m.wind, .int .i64 I.m.see, .int .i64 I.m.ceil, .slice I.AF I.nF I.cF, .slice I.AS I.nS I.cS, .int .i64 I.l.wind, .int .i64 I.l.see, .int .i64 I.l.ceil, .bool I.l.ice, .bool I.l.storm, .slice I.AX I.nX I.cX] d34 (hrg.out.ext (by with_reducible (repeat first | assumption | exact Ext.refl _ | refine Ext.set ?_ (by omega) _ | refine Ext.alloc ?_ _ | refine Ext.drew ?_ | refine Ext.drewN ?_ _ | refine Ext.trans ?_ (by assumption)))) u34.out dr.out i34.out ?_) | (go_at_call 68; refine (checkMinima_68 I.m I.l I.AF I.AS I.nF I.cF I.nS I.cS _ (hI.out.met.ext (by with_reducible (repeat first | assumption | exact Ext.refl _ | refine Ext.set ?_ (by omega) _ | refine Ext.alloc ?_ _ | refine Ext.drew ?_ | refine Ext.drewN ?_ _ | refine Ext.trans ?_ (by assumption))))).mono ?_; rw [hm.out]; rintro e1 w2 ⟨rfl, hb2⟩; have hx2 : Ext W1 w2 := (by with_reducible (repeat first | assumption | exact Ext.refl _ | refine Ext.set ?_ (by omega) _ | refine Ext.alloc ?_ _ | refine Ext.drew ?_ | refine Ext.drewN ?_ _ | refine Ext.trans ?_ (by assumption))); obtain ⟨hc2, hf2, hz2⟩ := hx2.cells; have hs2 := hb2.size) | (go_at_call 25; refine (Check_25 I _ (hI.out.ext (by with_reducible (repeat first | assumption | exact Ext.refl _ | refine Ext.set ?_ (by omega) _ | refine Ext.alloc ?_ _ | refine Ext.drew ?_ | refine Ext.drewN ?_ _ | refine Ext.trans ?_ (by assumption))))).mono ?_; rw [hc.out]; rintro e1 w3 ⟨rfl, hb3⟩; have hx3 : Ext W1 w3 := (by with_reducible (repeat first | assumption | exact Ext.refl _ | refine Ext.set ?_ (by omega) _ | refine Ext.alloc ?_ _ | refine Ext.drew ?_ | refine Ext.drewN ?_ _ | refine Ext.trans ?_ (by assumption))); obtain ⟨hc3, hf3, hz3⟩ := hx3.cells; have hs3 := hb3.size) | (go_at_call 15; refine (Long_15 I _ (hI.out.ext (by with_reducible (repeat first | assumption | exact Ext.refl _ | refine Ext.set ?_ (by omega) _ | refine Ext.alloc ?_ _ | refine Ext.drew ?_ | refine Ext.drewN ?_ _ | refine Ext.trans ?_ (by assumption))))).mono ?_; rintro e1 w4 ⟨rfl, hb4⟩; have hx4 : Ext W1 w4 := (by with_reducible (repeat first | assumption | exact Ext.refl _ | refine Ext.set ?_ (by omega) _ | refine Ext.alloc ?_ _ | refine Ext.drew ?_ | refine Ext.drewN ?_ _ | refine Ext.trans ?_ (by assumption))); obtain ⟨hc4, hf4, hz4⟩ := hx4.cells; have hs4 := hb4.size))
  go_ret
  exact ⟨rfl, (by with_reducible (repeat first | assumption | exact Ext.refl _ | refine Ext.set ?_ (by omega) _ | refine Ext.alloc ?_ _ | refine Ext.drew ?_ | refine Ext.drewN ?_ _ | refine Ext.trans ?_ (by assumption)))⟩
theorem right_30 (I : Inp) (w : World) (h : I.In w) : Calls Tryz.prog 30 #[I.vp, I.vf] w fun e w' => e = .returned (.bool I.right) ∧ Ext w w' := by
  unfold Inp.right
  by_cases hm : checkMinima I.m I.l = 0
  · rw [Inp.err_eq hm]
    by_cases hc : I.err0 = 0
    · rw [decide_eq_true hc, Bool.true_and]; exact right_ok I w h hm hc
    · rw [decide_eq_false hc, Bool.false_and]; exact right_bad I w h hm hc
  · rw [Inp.err_min hm, decide_eq_false hm, Bool.false_and]; exact right_min I w h hm
/-- A flight in a block of its own. -/
structure FlBox (b : Nat) (R : Value) (d fu bu re : Int) (w : World) : Prop where
  lt : b < w.heap.size
  c0 : w.cell? ⟨b, 0, none⟩ = some R
  c1 : w.cell? ⟨b, 1, none⟩ = some (.int .i64 d)
  c2 : w.cell? ⟨b, 2, none⟩ = some (.int .i64 fu)
  c3 : w.cell? ⟨b, 3, none⟩ = some (.int .i64 bu)
  c4 : w.cell? ⟨b, 4, none⟩ = some (.int .i64 re)
  f : ∀ o, w.frozen? ⟨b, o, none⟩ = false
theorem FlBox.ext {b : Nat} {R : Value} {d fu bu re : Int} {w w' : World} (h : FlBox b R d fu bu re w) (e : Ext w w') : FlBox b R d fu bu re w' := by
  obtain ⟨c, f, z⟩ := e.cells
  exact ⟨z _ h.lt, (c _ _ h.lt).trans h.c0, (c _ _ h.lt).trans h.c1, (c _ _ h.lt).trans h.c2, (c _ _ h.lt).trans h.c3, (c _ _ h.lt).trans h.c4, fun o => (f _ _ h.lt).trans (h.f o)⟩
theorem Safe_fu (I : Inp) (n : Int) (w : World) (h : I.In w) (h12 : I.Short) :
    Calls Tryz.prog 32 #[I.vm, I.l.val, I.vn, .agg #[.slice I.AR I.nR I.cR, .int .i64 I.f.depart, .int .i64 n, .int .i64 I.f.burn, .int .i64 I.f.reserve]] w fun e w' => e = .returned (.tuple #[.int .i64 (I.fu n).safeR.1, .bool (I.fu n).safeR.2.1, .int .i64 (I.fu n).safeR.2.2]) ∧ Ext w w' :=
  Safe_32 (I.fu n) w ⟨h.met, h.net, h.route⟩ ⟨h12.fcs, h12.sights⟩
theorem Safe_rs (I : Inp) (n : Int) (w : World) (h : I.In w) (h12 : I.Short) :
    Calls Tryz.prog 32 #[I.vm, I.l.val, I.vn, .agg #[.slice I.AR I.nR I.cR, .int .i64 I.f.depart, .int .i64 I.f.fuel, .int .i64 I.f.burn, .int .i64 n]] w fun e w' => e = .returned (.tuple #[.int .i64 (I.rs n).safeR.1, .bool (I.rs n).safeR.2.1, .int .i64 (I.rs n).safeR.2.2]) ∧ Ext w w' :=
  Safe_32 (I.rs n) w ⟨h.met, h.net, h.route⟩ ⟨h12.fcs, h12.sights⟩
theorem Safe_mi (I : Inp) (k : Minima) (w : World) (h : I.In w) (h12 : I.Short) :
    Calls Tryz.prog 32 #[I.vm, k.val, I.vn, I.vf] w fun e w' => e = .returned (.tuple #[.int .i64 (I.mi k).safeR.1, .bool (I.mi k).safeR.2.1, .int .i64 (I.mi k).safeR.2.2]) ∧ Ext w w' :=
  Safe_32 (I.mi k) w ⟨h.met, h.net, h.route⟩ ⟨h12.fcs, h12.sights⟩
set_option maxRecDepth 100000 in
set_option maxHeartbeats 2000000 in
theorem law_6_no (I : Inp) (w : World) (h : I.In w) (hr : I.right = false) : Calls Tryz.prog 6 #[I.vp, I.vf] w fun e w' => e = .returned (.bool true) ∧ Ext w w' := by
  simp only [Inp.vp, Inp.vf, Flight.val]
  replace hr := Lib.hid hr
  obtain ⟨d34, u34, dr, i34⟩ := desc34
  replace u34 := Lib.hid u34
  replace dr := Lib.hid dr
  replace i34 := Lib.hid i34
  go_enter Tryz.func6, Tryz.ntmps6
  go_upto_region 1 with (fail)
  refine name_world_as (P := fun W => Boxed I w.heap.size W ∧ Ext w W) (R := fun W => Code.wp _ _ _ _ W) ⟨Boxed.new I w, (by with_reducible (repeat first | assumption | exact Ext.refl _ | refine Ext.set ?_ (by omega) _ | refine Ext.alloc ?_ _ | refine Ext.drew ?_ | refine Ext.drewN ?_ _ | refine Ext.trans ?_ (by assumption)))⟩ fun W1 ⟨hB, hxw⟩ => ?_
  have hI := Lib.hid (h.ext hxw)
  have hBx := Lib.hid hB
  have hrg := Lib.hid (InRange.mk hB.range hB.lt)
  obtain ⟨p0, p1, p2, p3, p4, p5, p6, p7, p8, p9, p10, p11, p12, p13, p14, p15, p16, p17, p18, p19, f0, f1, f2, f3, f4, lb⟩ := hB
  have lb0 : w.heap.size < W1.heap.size := by omega
  go_wp2_with (first | ((with_reducible refine at_list ?_); refine wpList_load_mid rfl 34 (.tmp 2) (by rfl) w.heap.size 0 (by rfl) [.int .i64 I.m.places, .int .i64 I.m.any.w.lo, .int .i64 I.m.any.w.hi, .int .i64 I.m.any.s.lo, .int .i64 I.m.any.s.hi, .int .i64 I.m.any.c.lo, .int .i64 I.m.any.c.hi, .bool I.m.any.ice, .bool I.m.any.storm, .int .i64 I.m.wind, .int .i64 I.m.see, .int .i64 I.m.ceil, .slice I.AF I.nF I.cF, .slice I.AS I.nS I.cS, .int .i64 I.l.wind, .int .i64 I.l.see, .int .i64 I.l.ceil, .bool I.l.ice, .bool I.l.storm, .slice I.AX I.nX I.cX] d34 (hrg.out.ext (by with_reducible (repeat first | assumption | exact Ext.refl _ | refine Ext.set ?_ (by omega) _ | refine Ext.alloc ?_ _ | refine Ext.drew ?_ | refine Ext.drewN ?_ _ | refine Ext.trans ?_ (by assumption)))) u34.out dr.out i34.out ?_) | (go_at_call 30; refine (right_30 I _ (hI.out.ext (by with_reducible (repeat first | assumption | exact Ext.refl _ | refine Ext.set ?_ (by omega) _ | refine Ext.alloc ?_ _ | refine Ext.drew ?_ | refine Ext.drewN ?_ _ | refine Ext.trans ?_ (by assumption))))).mono ?_; rw [hr.out]; rintro e1 w2 ⟨rfl, hb2⟩; have hx2 : Ext W1 w2 := (by with_reducible (repeat first | assumption | exact Ext.refl _ | refine Ext.set ?_ (by omega) _ | refine Ext.alloc ?_ _ | refine Ext.drew ?_ | refine Ext.drewN ?_ _ | refine Ext.trans ?_ (by assumption))); obtain ⟨hc2, hf2, hz2⟩ := hx2.cells; have hs2 := hb2.size) | (go_at_call 16; refine (works_16 _).mono ?_; rintro e1 w9 ⟨rfl, hb9⟩))
  go_ret
  exact ⟨rfl, (by with_reducible (repeat first | assumption | exact Ext.refl _ | refine Ext.set ?_ (by omega) _ | refine Ext.alloc ?_ _ | refine Ext.drew ?_ | refine Ext.drewN ?_ _ | refine Ext.trans ?_ (by assumption)))⟩
set_option maxRecDepth 100000 in
set_option maxHeartbeats 2000000 in
theorem law_6_none (I : Inp) (w : World) (h : I.In w) (hr : I.right = true) {n : Int} {s : Int} (hsh : I.Short) (hL : I.leastR = (n, 3)) (hS : I.safeR = (s, false, 0)) : Calls Tryz.prog 6 #[I.vp, I.vf] w fun e w' => e = .returned (.bool true) ∧ Ext w w' := by
  simp only [Inp.vp, Inp.vf, Flight.val]
  replace hr := Lib.hid hr
  replace hL := Lib.hid hL
  replace hS := Lib.hid hS
  replace hsh := Lib.hid hsh
  obtain ⟨d34, u34, dr, i34⟩ := desc34
  replace u34 := Lib.hid u34
  replace dr := Lib.hid dr
  replace i34 := Lib.hid i34
  go_enter Tryz.func6, Tryz.ntmps6
  go_upto_region 1 with (fail)
  refine name_world_as (P := fun W => Boxed I w.heap.size W ∧ Ext w W) (R := fun W => Code.wp _ _ _ _ W) ⟨Boxed.new I w, (by with_reducible (repeat first | assumption | exact Ext.refl _ | refine Ext.set ?_ (by omega) _ | refine Ext.alloc ?_ _ | refine Ext.drew ?_ | refine Ext.drewN ?_ _ | refine Ext.trans ?_ (by assumption)))⟩ fun W1 ⟨hB, hxw⟩ => ?_
  have hI := Lib.hid (h.ext hxw)
  have hBx := Lib.hid hB
  have hrg := Lib.hid (InRange.mk hB.range hB.lt)
  obtain ⟨p0, p1, p2, p3, p4, p5, p6, p7, p8, p9, p10, p11, p12, p13, p14, p15, p16, p17, p18, p19, f0, f1, f2, f3, f4, lb⟩ := hB
  have lb0 : w.heap.size < W1.heap.size := by omega
  go_upto_region 3 with (first | ((with_reducible refine at_list ?_); refine wpList_load_mid rfl 34 (.tmp 2) (by rfl) w.heap.size 0 (by rfl) [.int .i64 I.m.places, .int .i64 I.m.any.w.lo, .int .i64 I.m.any.w.hi, .int .i64 I.m.any.s.lo, .int .i64 I.m.any.s.hi, .int .i64 I.m.any.c.lo, .int .i64 I.m.any.c.hi, .bool I.m.any.ice, .bool I.m.any.storm, .int .i64 I.m.wind, .int .i64 I.m.see, .int .i64 I.m.ceil, .slice I.AF I.nF I.cF, .slice I.AS I.nS I.cS, .int .i64 I.l.wind, .int .i64 I.l.see, .int .i64 I.l.ceil, .bool I.l.ice, .bool I.l.storm, .slice I.AX I.nX I.cX] d34 (hrg.out.ext (by with_reducible (repeat first | assumption | exact Ext.refl _ | refine Ext.set ?_ (by omega) _ | refine Ext.alloc ?_ _ | refine Ext.drew ?_ | refine Ext.drewN ?_ _ | refine Ext.trans ?_ (by assumption)))) u34.out dr.out i34.out ?_) | (go_at_call 30; refine (right_30 I _ (hI.out.ext (by with_reducible (repeat first | assumption | exact Ext.refl _ | refine Ext.set ?_ (by omega) _ | refine Ext.alloc ?_ _ | refine Ext.drew ?_ | refine Ext.drewN ?_ _ | refine Ext.trans ?_ (by assumption))))).mono ?_; rw [hr.out]; rintro e1 w2 ⟨rfl, hb2⟩; have hx2 : Ext W1 w2 := (by with_reducible (repeat first | assumption | exact Ext.refl _ | refine Ext.set ?_ (by omega) _ | refine Ext.alloc ?_ _ | refine Ext.drew ?_ | refine Ext.drewN ?_ _ | refine Ext.trans ?_ (by assumption))); obtain ⟨hc2, hf2, hz2⟩ := hx2.cells; have hs2 := hb2.size))
  go_wp2_with (first | (go_at_call 31; refine (Least_31 I _ (hI.out.ext (by with_reducible (repeat first | assumption | exact Ext.refl _ | refine Ext.set ?_ (by omega) _ | refine Ext.alloc ?_ _ | refine Ext.drew ?_ | refine Ext.drewN ?_ _ | refine Ext.trans ?_ (by assumption)))) hsh.out).mono ?_; rw [hL.out]; rintro e1 w3 ⟨rfl, hb3⟩; have hx3 : Ext W1 w3 := (by with_reducible (repeat first | assumption | exact Ext.refl _ | refine Ext.set ?_ (by omega) _ | refine Ext.alloc ?_ _ | refine Ext.drew ?_ | refine Ext.drewN ?_ _ | refine Ext.trans ?_ (by assumption))); obtain ⟨hc3, hf3, hz3⟩ := hx3.cells; have hs3 := hb3.size) | (go_at_call 32; refine (Safe_32 I _ (hI.out.ext (by with_reducible (repeat first | assumption | exact Ext.refl _ | refine Ext.set ?_ (by omega) _ | refine Ext.alloc ?_ _ | refine Ext.drew ?_ | refine Ext.drewN ?_ _ | refine Ext.trans ?_ (by assumption)))) hsh.out).mono ?_; rw [hS.out]; rintro e1 w4 ⟨rfl, hb4⟩; have hx4 : Ext W1 w4 := (by with_reducible (repeat first | assumption | exact Ext.refl _ | refine Ext.set ?_ (by omega) _ | refine Ext.alloc ?_ _ | refine Ext.drew ?_ | refine Ext.drewN ?_ _ | refine Ext.trans ?_ (by assumption))); obtain ⟨hc4, hf4, hz4⟩ := hx4.cells; have hs4 := hb4.size) | (go_at_call 16; refine (works_16 _).mono ?_; rintro e1 w9 ⟨rfl, hb9⟩))
  go_ret
  exact ⟨rfl, (by with_reducible (repeat first | assumption | exact Ext.refl _ | refine Ext.set ?_ (by omega) _ | refine Ext.alloc ?_ _ | refine Ext.drew ?_ | refine Ext.drewN ?_ _ | refine Ext.trans ?_ (by assumption)))⟩
set_option maxRecDepth 100000 in
set_option maxHeartbeats 2000000 in
theorem law_6_lack (I : Inp) (w : World) (h : I.In w) (hr : I.right = true) {n s s2 s3 : Int} (hsh : I.Short) (n0 : 0 < n) (n1 : n ≤ 100000) (hnf : I.f.fuel < n) (hL : I.leastR = (n, 0)) (hS : I.safeR = (s, false, 0)) (hS2 : (I.fu n).safeR = (s2, true, 0)) (hS3 : (I.fu (n - 1)).safeR = (s3, false, 0)) : Calls Tryz.prog 6 #[I.vp, I.vf] w fun e w' => e = .returned (.bool true) ∧ Ext w w' := by
  simp only [Inp.vp, Inp.vf, Flight.val]
  replace hr := Lib.hid hr
  replace hL := Lib.hid hL
  replace hS := Lib.hid hS
  replace hS2 := Lib.hid hS2
  replace hS3 := Lib.hid hS3
  replace hsh := Lib.hid hsh
  obtain ⟨d34, u34, dr, i34⟩ := desc34
  replace u34 := Lib.hid u34
  replace dr := Lib.hid dr
  replace i34 := Lib.hid i34
  go_enter Tryz.func6, Tryz.ntmps6
  go_upto_region 1 with (fail)
  refine name_world_as (P := fun W => Boxed I w.heap.size W ∧ Ext w W) (R := fun W => Code.wp _ _ _ _ W) ⟨Boxed.new I w, (by with_reducible (repeat first | assumption | exact Ext.refl _ | refine Ext.set ?_ (by omega) _ | refine Ext.alloc ?_ _ | refine Ext.drew ?_ | refine Ext.drewN ?_ _ | refine Ext.trans ?_ (by assumption)))⟩ fun W1 ⟨hB, hxw⟩ => ?_
  have hI := Lib.hid (h.ext hxw)
  have hBx := Lib.hid hB
  have hrg := Lib.hid (InRange.mk hB.range hB.lt)
  obtain ⟨p0, p1, p2, p3, p4, p5, p6, p7, p8, p9, p10, p11, p12, p13, p14, p15, p16, p17, p18, p19, f0, f1, f2, f3, f4, lb⟩ := hB
  have lb0 : w.heap.size < W1.heap.size := by omega
  go_upto_region 3 with (first | ((with_reducible refine at_list ?_); refine wpList_load_mid rfl 34 (.tmp 2) (by rfl) w.heap.size 0 (by rfl) [.int .i64 I.m.places, .int .i64 I.m.any.w.lo, .int .i64 I.m.any.w.hi, .int .i64 I.m.any.s.lo, .int .i64 I.m.any.s.hi, .int .i64 I.m.any.c.lo, .int .i64 I.m.any.c.hi, .bool I.m.any.ice, .bool I.m.any.storm, .int .i64 I.m.wind, .int .i64 I.m.see, .int .i64 I.m.ceil, .slice I.AF I.nF I.cF, .slice I.AS I.nS I.cS, .int .i64 I.l.wind, .int .i64 I.l.see, .int .i64 I.l.ceil, .bool I.l.ice, .bool I.l.storm, .slice I.AX I.nX I.cX] d34 (hrg.out.ext (by with_reducible (repeat first | assumption | exact Ext.refl _ | refine Ext.set ?_ (by omega) _ | refine Ext.alloc ?_ _ | refine Ext.drew ?_ | refine Ext.drewN ?_ _ | refine Ext.trans ?_ (by assumption)))) u34.out dr.out i34.out ?_) | (go_at_call 30; refine (right_30 I _ (hI.out.ext (by with_reducible (repeat first | assumption | exact Ext.refl _ | refine Ext.set ?_ (by omega) _ | refine Ext.alloc ?_ _ | refine Ext.drew ?_ | refine Ext.drewN ?_ _ | refine Ext.trans ?_ (by assumption))))).mono ?_; rw [hr.out]; rintro e1 w2 ⟨rfl, hb2⟩; have hx2 : Ext W1 w2 := (by with_reducible (repeat first | assumption | exact Ext.refl _ | refine Ext.set ?_ (by omega) _ | refine Ext.alloc ?_ _ | refine Ext.drew ?_ | refine Ext.drewN ?_ _ | refine Ext.trans ?_ (by assumption))); obtain ⟨hc2, hf2, hz2⟩ := hx2.cells; have hs2 := hb2.size))
  go_upto_region 5 with (first | (go_at_call 31; refine (Least_31 I _ (hI.out.ext (by with_reducible (repeat first | assumption | exact Ext.refl _ | refine Ext.set ?_ (by omega) _ | refine Ext.alloc ?_ _ | refine Ext.drew ?_ | refine Ext.drewN ?_ _ | refine Ext.trans ?_ (by assumption)))) hsh.out).mono ?_; rw [hL.out]; rintro e1 w3 ⟨rfl, hb3⟩; have hx3 : Ext W1 w3 := (by with_reducible (repeat first | assumption | exact Ext.refl _ | refine Ext.set ?_ (by omega) _ | refine Ext.alloc ?_ _ | refine Ext.drew ?_ | refine Ext.drewN ?_ _ | refine Ext.trans ?_ (by assumption))); obtain ⟨hc3, hf3, hz3⟩ := hx3.cells; have hs3 := hb3.size) | (go_at_call 32; refine (Safe_32 I _ (hI.out.ext (by with_reducible (repeat first | assumption | exact Ext.refl _ | refine Ext.set ?_ (by omega) _ | refine Ext.alloc ?_ _ | refine Ext.drew ?_ | refine Ext.drewN ?_ _ | refine Ext.trans ?_ (by assumption)))) hsh.out).mono ?_; rw [hS.out]; rintro e1 w4 ⟨rfl, hb4⟩; have hx4 : Ext W1 w4 := (by with_reducible (repeat first | assumption | exact Ext.refl _ | refine Ext.set ?_ (by omega) _ | refine Ext.alloc ?_ _ | refine Ext.drew ?_ | refine Ext.drewN ?_ _ | refine Ext.trans ?_ (by assumption))); obtain ⟨hc4, hf4, hz4⟩ := hx4.cells; have hs4 := hb4.size))
  go_upto_region 10 with (fail)
  refine name_world_as (P := fun W => FlBox w4.heap.size (.slice I.AR I.nR I.cR) I.f.depart n I.f.burn I.f.reserve W ∧ Ext W1 W) (R := fun W => Code.wp _ _ _ _ W) ⟨⟨by simp, by go_simp, by go_simp, by go_simp, by go_simp, by go_simp, fun o => by go_simp⟩, (by with_reducible (repeat first | assumption | exact Ext.refl _ | refine Ext.set ?_ (by omega) _ | refine Ext.alloc ?_ _ | refine Ext.drew ?_ | refine Ext.drewN ?_ _ | refine Ext.trans ?_ (by assumption)))⟩ fun W5 ⟨hF, hx5⟩ => ?_
  obtain ⟨l5, b0, b1, b2, b3, b4, bf⟩ := hF
  obtain ⟨hc5, hf5, hz5⟩ := hx5.cells
  clear hc2 hf2 hz2 hc3 hf3 hz3 hc4 hf4 hz4
  go_upto_region 11 with (go_at_call 32; refine (Safe_fu I n _ (hI.out.ext (by with_reducible (repeat first | assumption | exact Ext.refl _ | refine Ext.set ?_ (by omega) _ | refine Ext.alloc ?_ _ | refine Ext.drew ?_ | refine Ext.drewN ?_ _ | refine Ext.trans ?_ (by assumption)))) hsh.out).mono ?_; rw [hS2.out]; rintro e1 w6 ⟨rfl, hb6⟩; have hx6 : Ext W1 w6 := (by with_reducible (repeat first | assumption | exact Ext.refl _ | refine Ext.set ?_ (by omega) _ | refine Ext.alloc ?_ _ | refine Ext.drew ?_ | refine Ext.drewN ?_ _ | refine Ext.trans ?_ (by assumption))); have k0 := (hb6.cells.1 _ _ l5).trans b0; have k1 := (hb6.cells.1 _ _ l5).trans b1; have k2 := (hb6.cells.1 _ _ l5).trans b2; have k3 := (hb6.cells.1 _ _ l5).trans b3; have k4 := (hb6.cells.1 _ _ l5).trans b4; have kf := fun o => (hb6.cells.2.1 _ o l5).trans (bf o); have kl := hb6.cells.2.2 _ l5; clear hc5 hf5 hz5 b0 b1 b2 b3 b4 bf; obtain ⟨hc6, hf6, hz6⟩ := hx6.cells)
  have z4 := hx4.size
  go_upto_region 14 with (fail)
  refine name_world_as (P := fun W => FlBox w4.heap.size (.slice I.AR I.nR I.cR) I.f.depart (n - 1) I.f.burn I.f.reserve W ∧ Ext W1 W) (R := fun W => Code.wp _ _ _ _ W) ⟨⟨by simpa using kl, by go_simp, by go_simp, by go_simp, by go_simp, by go_simp, fun o => by go_simp⟩, (by with_reducible (repeat first | assumption | exact Ext.refl _ | refine Ext.set ?_ (by omega) _ | refine Ext.alloc ?_ _ | refine Ext.drew ?_ | refine Ext.drewN ?_ _ | refine Ext.trans ?_ (by assumption)))⟩ fun W7 ⟨hF, hx7⟩ => ?_
  clear hc6 hf6 hz6 k0 k1 k2 k3 k4 kf kl
  obtain ⟨l7, b0, b1, b2, b3, b4, bf⟩ := hF
  obtain ⟨hc7, hf7, hz7⟩ := hx7.cells
  go_upto_region 15 with (go_at_call 32; refine (Safe_fu I (n - 1) _ (hI.out.ext (by with_reducible (repeat first | assumption | exact Ext.refl _ | refine Ext.set ?_ (by omega) _ | refine Ext.alloc ?_ _ | refine Ext.drew ?_ | refine Ext.drewN ?_ _ | refine Ext.trans ?_ (by assumption)))) hsh.out).mono ?_; rw [hS3.out]; rintro e1 w8 ⟨rfl, hb8⟩; have hx8 : Ext W1 w8 := (by with_reducible (repeat first | assumption | exact Ext.refl _ | refine Ext.set ?_ (by omega) _ | refine Ext.alloc ?_ _ | refine Ext.drew ?_ | refine Ext.drewN ?_ _ | refine Ext.trans ?_ (by assumption))); clear hc7 hf7 hz7 b0 b1 b2 b3 b4 bf; obtain ⟨hc8, hf8, hz8⟩ := hx8.cells)
  go_wp2_with (go_at_call 16; refine (works_16 _).mono ?_; rintro e1 w9 ⟨rfl, hb9⟩)
  go_ret
  exact ⟨rfl, (by with_reducible (repeat first | assumption | exact Ext.refl _ | refine Ext.set ?_ (by omega) _ | refine Ext.alloc ?_ _ | refine Ext.drew ?_ | refine Ext.drewN ?_ _ | refine Ext.trans ?_ (by assumption)))⟩
end Go.Proofs.YtmmimbcfgobnaaaGreat
