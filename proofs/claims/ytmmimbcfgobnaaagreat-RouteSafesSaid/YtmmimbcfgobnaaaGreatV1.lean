/- The reference's weather: cutting a sky. -/
import Derived.Test.YtmmimbcfgobnaaaGreatQ1
import Derived.Test.YtmmimbcfgobnaaaGreatW7
set_option linter.unusedVariables false
set_option linter.unusedSimpArgs false
namespace Go.Proofs.YtmmimbcfgobnaaaGreat
open Go.RowKit
attribute [local go_sem] stored_match isSome_setCell

/-- The error of two spans. -/
def twoErr (a b : Span) : Int := if (a.valid && b.valid) = true then 0 else 10
set_option maxRecDepth 100000 in
set_option maxHeartbeats 2000000 in
theorem two_188 (a b : Span) (w : World) : Calls Tryz.prog 188 #[a.val, b.val] w fun e w' => e = .returned (.int .i64 (twoErr a b)) ∧ Ext w w' := by
  simp only [Span.val]
  rcases Bool.eq_false_or_eq_true a.valid with ha | ha
  · rcases Bool.eq_false_or_eq_true b.valid with hb | hb
    all_goals
      go_enter Tryz.func188, Tryz.ntmps188
      go_wp2_with fail
      refine (valid_134 a _).mono ?_
      rw [ha]
      rintro e1 w1 ⟨rfl, hb1⟩
      obtain ⟨hc1, hf1, hz1⟩ := hb1.cells
      have hs1 := hb1.size
      simp at hs1
      go_wp2_with fail
      refine (valid_134 b _).mono ?_
      rw [hb]
      rintro e1 w2 ⟨rfl, hb2⟩
      go_wp2_with fail
      go_ret
      exact ⟨by unfold twoErr; rw [ha, hb]; rfl, (by with_reducible (repeat first | assumption | exact Ext.refl _ | refine Ext.set ?_ (by omega) _ | refine Ext.alloc ?_ _ | refine Ext.drew ?_ | refine Ext.drewN ?_ _ | refine Ext.trans ?_ (by assumption)))⟩
  · go_enter Tryz.func188, Tryz.ntmps188
    go_wp2_with fail
    refine (valid_134 a _).mono ?_
    rw [ha]
    rintro e1 w1 ⟨rfl, hb1⟩
    go_wp2_with fail
    go_ret
    exact ⟨by unfold twoErr; rw [ha]; rfl, (by with_reducible (repeat first | assumption | exact Ext.refl _ | refine Ext.set ?_ (by omega) _ | refine Ext.alloc ?_ _ | refine Ext.drew ?_ | refine Ext.drewN ?_ _ | refine Ext.trans ?_ (by assumption)))⟩
set_option maxRecDepth 100000 in
set_option maxHeartbeats 2000000 in
theorem meet_181 (a b : Span) (w : World) : Calls Tryz.prog 181 #[a.val, b.val] w fun e w' => e = .returned (.tuple #[(meet a b).1.val, .int .i64 (meet a b).2]) ∧ Ext w w' := by
  simp only [Span.val]
  by_cases hv : (a.valid && b.valid) = true
  · have h0 := Lib.hid (show twoErr a b = 0 by unfold twoErr; rw [if_pos hv])
    replace hv := Lib.hid hv
    by_cases h1 : a.lo < b.lo <;> by_cases h2 : b.hi < a.hi
    all_goals
      go_enter Tryz.func181, Tryz.ntmps181
      go_wp2_with fail
      refine (two_188 a b _).mono ?_
      rw [h0.out]
      rintro e1 w1 ⟨rfl, hb1⟩
      obtain ⟨hc1, hf1, hz1⟩ := hb1.cells
      have hs1 := hb1.size
      simp at hs1
      go_wp2
    all_goals
      refine bodyPost_ret (v := .tuple #[(meet a b).1.val, .int .i64 (meet a b).2]) ?_ rfl ⟨rfl, (by with_reducible (repeat first | assumption | exact Ext.refl _ | refine Ext.set ?_ (by omega) _ | refine Ext.alloc ?_ _ | refine Ext.drew ?_ | refine Ext.drewN ?_ _ | refine Ext.trans ?_ (by assumption)))⟩
      first | rw [meet_none hv.out (by simp only [mx, mn]; omega)] | rw [meet_some hv.out (by simp only [mx, mn]; omega)]
      first | (simp [results, go_sem, mx, mn, *]; done) | (simp [results, go_sem, mx, mn, *]; omega)
  · have h0 := Lib.hid (show twoErr a b = 10 by unfold twoErr; rw [if_neg hv])
    replace hv := Lib.hid hv
    go_enter Tryz.func181, Tryz.ntmps181
    go_wp2_with fail
    refine (two_188 a b _).mono ?_
    rw [h0.out]
    rintro e1 w1 ⟨rfl, hb1⟩
    obtain ⟨hc1, hf1, hz1⟩ := hb1.cells
    have hs1 := hb1.size
    simp at hs1
    go_wp2
    refine bodyPost_ret (v := .tuple #[(meet a b).1.val, .int .i64 (meet a b).2]) ?_ rfl ⟨rfl, (by with_reducible (repeat first | assumption | exact Ext.refl _ | refine Ext.set ?_ (by omega) _ | refine Ext.alloc ?_ _ | refine Ext.drew ?_ | refine Ext.drewN ?_ _ | refine Ext.trans ?_ (by assumption)))⟩
    rw [meet_bad hv.out]
    simp [results, go_sem, *]
set_option maxRecDepth 100000 in
set_option maxHeartbeats 2000000 in
theorem cut_169 (a b : Span) (w : World) : Calls Tryz.prog 169 #[a.val, b.val] w fun e w' => e = .returned (.tuple #[(cut a b).1.val, .bool (cut a b).2]) ∧ Ext w w' := by
  simp only [Span.val]
  obtain ⟨⟨x, c⟩, hm⟩ : ∃ y, meet a b = y := ⟨_, rfl⟩
  by_cases hc : c = 0
  · have hcut := Lib.hid (show cut a b = (x, false) by unfold cut; rw [hm, if_pos hc])
    subst hc
    replace hm := Lib.hid hm
    go_enter Tryz.func169, Tryz.ntmps169
    go_wp2_with fail
    refine (meet_181 a b _).mono ?_
    rw [hm.out]
    rintro e1 w1 ⟨rfl, hb1⟩
    obtain ⟨hc1, hf1, hz1⟩ := hb1.cells
    have hs1 := hb1.size
    simp at hs1
    go_wp2
    refine bodyPost_ret (v := .tuple #[x.val, .bool false]) ?_ rfl ⟨by rw [hcut.out], (by with_reducible (repeat first | assumption | exact Ext.refl _ | refine Ext.set ?_ (by omega) _ | refine Ext.alloc ?_ _ | refine Ext.drew ?_ | refine Ext.drewN ?_ _ | refine Ext.trans ?_ (by assumption)))⟩
    simp [results, go_sem, *]
  · have hcut := Lib.hid (show cut a b = (b, true) by unfold cut; rw [hm, if_neg hc])
    have hbn : (c == (0 : Int)) = false := beq_eq_false_iff_ne.2 hc
    replace hm := Lib.hid hm
    replace hc := Lib.hid hc
    go_enter Tryz.func169, Tryz.ntmps169
    go_wp2_with fail
    refine (meet_181 a b _).mono ?_
    rw [hm.out]
    rintro e1 w1 ⟨rfl, hb1⟩
    obtain ⟨hc1, hf1, hz1⟩ := hb1.cells
    have hs1 := hb1.size
    simp at hs1
    go_wp2
    refine bodyPost_ret (v := .tuple #[b.val, .bool true]) ?_ rfl ⟨by rw [hcut.out], (by with_reducible (repeat first | assumption | exact Ext.refl _ | refine Ext.set ?_ (by omega) _ | refine Ext.alloc ?_ _ | refine Ext.drew ?_ | refine Ext.drewN ?_ _ | refine Ext.trans ?_ (by assumption)))⟩
    simp [results, go_sem, *]
set_option maxRecDepth 100000 in
set_option maxHeartbeats 2000000 in
theorem around_170 (n b most : Int) (w : World) (h0 : 0 ≤ n) (h1 : n ≤ most) (h2 : 0 ≤ b) (h3 : b ≤ 40000000) (h4 : most ≤ 1000000) : Calls Tryz.prog 170 #[.int .i64 n, .int .i64 b, .int .i64 most] w fun e w' => e = .returned (near n b most).val ∧ Ext w w' := by
  have hn := Lib.hid (show near n b most = ⟨max 0 (n - b), min most (n + b)⟩ from rfl)
  by_cases k1 : 0 < n - b <;> by_cases k2 : n + b < most
  all_goals
    go_enter Tryz.func170, Tryz.ntmps170
    go_wp2
    refine bodyPost_ret (v := (near n b most).val) ?_ rfl ⟨rfl, (by with_reducible (repeat first | assumption | exact Ext.refl _ | refine Ext.set ?_ (by omega) _ | refine Ext.alloc ?_ _ | refine Ext.drew ?_ | refine Ext.drewN ?_ _ | refine Ext.trans ?_ (by assumption)))⟩
    rw [hn.out]
    first | rw [show max 0 (n - b) = n - b by omega] | rw [show max 0 (n - b) = 0 by omega]
    first | rw [show min most (n + b) = n + b by omega] | rw [show min most (n + b) = most by omega]
    first | (simp [results, go_sem, *]; done) | (simp [results, go_sem, *]; omega)
theorem name_as {R : World → Prop} {W : World} {P : World → Prop} (hP : P W) (h : ∀ W, P W → R W) : R W := h W hP
theorem post_as {Q : Program} {fn : Func} {R : Ending → World → Prop} {x : Exit} {a : Act} {w : World} (P : World → Prop) (hP : P w) (h : ∀ W, P W → bodyPost Q fn R x a W) : bodyPost Q fn R x a w := h w hP
/-- A sky cut by a forecast's. -/
def Sky.cutI (a b : Sky) : Sky := { a.cut b with ice := a.ice && b.ice, storm := a.storm && b.storm }
set_option maxRecDepth 100000 in
set_option maxHeartbeats 2000000 in
theorem cutSky_167 (a b : Sky) (w : World) : Calls Tryz.prog 167 #[a.val, b.val] w fun e w' => e = .returned (.tuple #[(a.cutI b).val, .bool (a.cuts b)]) ∧ Ext w w' := by
  obtain ⟨⟨x, p⟩, hx⟩ : ∃ y, cut a.w b.w = y := ⟨_, rfl⟩
  obtain ⟨⟨y, q⟩, hy⟩ : ∃ y, cut a.s b.s = y := ⟨_, rfl⟩
  obtain ⟨⟨z, r⟩, hz⟩ : ∃ y, cut a.c b.c = y := ⟨_, rfl⟩
  have e1 := Lib.hid (show a.cutI b = ⟨x, y, z, a.ice && b.ice, a.storm && b.storm⟩ by unfold Sky.cutI Sky.cut; rw [hx, hy, hz])
  have e2 := Lib.hid (show a.cuts b = (p || q || r) by unfold Sky.cuts; rw [hx, hy, hz])
  replace hx := Lib.hid hx
  replace hy := Lib.hid hy
  replace hz := Lib.hid hz
  simp only [Sky.val]
  go_enter Tryz.func167, Tryz.ntmps167
  go_upto_region 1 with (fail)
  refine name_world (R := fun W => Code.wp _ _ _ _ W) fun W0 hx0 hc0 hf0 hz0 => ?_
  simp at hz0
  have hA : SkyAt W0 w.heap.size a := ⟨by omega, by go_simp, by go_simp, by go_simp, by go_simp, by go_simp, by go_simp, by go_simp, by go_simp, fun o => by go_simp⟩
  have hB : SkyAt W0 (w.heap.size + 1) b := ⟨by omega, by go_simp, by go_simp, by go_simp, by go_simp, by go_simp, by go_simp, by go_simp, by go_simp, fun o => by go_simp⟩
  have hR : SkyAt W0 (w.heap.size + 1 + 1) ⟨⟨0, 0⟩, ⟨0, 0⟩, ⟨0, 0⟩, false, false⟩ := ⟨by omega, by go_simp, by go_simp, by go_simp, by go_simp, by go_simp, by go_simp, by go_simp, by go_simp, fun o => by go_simp⟩
  have hxw : Ext w W0 := (by with_reducible (repeat first | assumption | exact Ext.refl _ | refine Ext.set ?_ (by omega) _ | refine Ext.alloc ?_ _ | refine Ext.drew ?_ | refine Ext.drewN ?_ _ | refine Ext.trans ?_ (by assumption)))
  clear hc0 hf0 hx0 hz0
  replace hA := Lib.hid hA
  replace hB := Lib.hid hB
  replace hR := Lib.hid hR
  obtain ⟨l0, a0, a1, a2, a3, a4, a5, a6, a7, -⟩ := hA.out
  obtain ⟨l1, b0, b1, b2, b3, b4, b5, b6, b7, -⟩ := hB.out
  go_wp2_with fail
  refine (cut_169 a.w b.w _).mono ?_
  rw [hx.out]
  rintro e1' w1 ⟨rfl, hb1⟩
  have hs1 := hb1.size
  go_upto_region 2 with (fail)
  refine name_as (P := fun W => Ext W0 W ∧ w1.heap.size < W.heap.size ∧ W.cell? ⟨w1.heap.size, 0, none⟩ = some (.int .i64 x.lo) ∧ W.cell? ⟨w1.heap.size, 1, none⟩ = some (.int .i64 x.hi)) (R := fun W => Code.wp _ _ _ _ W) ⟨(by with_reducible (repeat first | assumption | exact Ext.refl _ | refine Ext.set ?_ (by omega) _ | refine Ext.alloc ?_ _ | refine Ext.drew ?_ | refine Ext.drewN ?_ _ | refine Ext.trans ?_ (by assumption))), by simp, by simp, by simp⟩ fun W1 ⟨hx1, lv1, v10, v11⟩ => ?_
  replace hA := Lib.hid (hA.out.ext hx1)
  replace hB := Lib.hid (hB.out.ext hx1)
  replace hR := Lib.hid (hR.out.ext hx1)
  clear l0 a0 a1 a2 a3 a4 a5 a6 a7 l1 b0 b1 b2 b3 b4 b5 b6 b7
  obtain ⟨l0, a0, a1, a2, a3, a4, a5, a6, a7, -⟩ := hA.out
  obtain ⟨l1, b0, b1, b2, b3, b4, b5, b6, b7, -⟩ := hB.out
  go_wp2_with fail
  refine (cut_169 a.s b.s _).mono ?_
  rw [hy.out]
  rintro e1' w2 ⟨rfl, hb2⟩
  have hs2 := hb2.size
  go_upto_region 3 with (fail)
  refine name_as (P := fun W => Ext W1 W ∧ w2.heap.size < W.heap.size ∧ W.cell? ⟨w2.heap.size, 0, none⟩ = some (.int .i64 y.lo) ∧ W.cell? ⟨w2.heap.size, 1, none⟩ = some (.int .i64 y.hi)) (R := fun W => Code.wp _ _ _ _ W) ⟨(by with_reducible (repeat first | assumption | exact Ext.refl _ | refine Ext.set ?_ (by omega) _ | refine Ext.alloc ?_ _ | refine Ext.drew ?_ | refine Ext.drewN ?_ _ | refine Ext.trans ?_ (by assumption))), by simp, by simp, by simp⟩ fun W2 ⟨hx2, lv2, v20, v21⟩ => ?_
  replace hA := Lib.hid (hA.out.ext hx2)
  replace hB := Lib.hid (hB.out.ext hx2)
  replace hR := Lib.hid (hR.out.ext hx2)
  clear l0 a0 a1 a2 a3 a4 a5 a6 a7 l1 b0 b1 b2 b3 b4 b5 b6 b7
  obtain ⟨l0, a0, a1, a2, a3, a4, a5, a6, a7, -⟩ := hA.out
  obtain ⟨l1, b0, b1, b2, b3, b4, b5, b6, b7, -⟩ := hB.out
  replace v10 := (hx2.cells.1 _ _ lv1).trans v10
  replace v11 := (hx2.cells.1 _ _ lv1).trans v11
  replace lv1 := hx2.cells.2.2 _ lv1
  go_wp2_with fail
  refine (cut_169 a.c b.c _).mono ?_
  rw [hz.out]
  rintro e1' w3 ⟨rfl, hb3⟩
  have hs3 := hb3.size
  go_upto_region 4 with (fail)
  refine name_as (P := fun W => Ext W2 W ∧ w3.heap.size < W.heap.size ∧ W.cell? ⟨w3.heap.size, 0, none⟩ = some (.int .i64 z.lo) ∧ W.cell? ⟨w3.heap.size, 1, none⟩ = some (.int .i64 z.hi)) (R := fun W => Code.wp _ _ _ _ W) ⟨(by with_reducible (repeat first | assumption | exact Ext.refl _ | refine Ext.set ?_ (by omega) _ | refine Ext.alloc ?_ _ | refine Ext.drew ?_ | refine Ext.drewN ?_ _ | refine Ext.trans ?_ (by assumption))), by simp, by simp, by simp⟩ fun W3 ⟨hx3, lv3, v30, v31⟩ => ?_
  replace hA := Lib.hid (hA.out.ext hx3)
  replace hB := Lib.hid (hB.out.ext hx3)
  replace hR := Lib.hid (hR.out.ext hx3)
  clear l0 a0 a1 a2 a3 a4 a5 a6 a7 l1 b0 b1 b2 b3 b4 b5 b6 b7
  obtain ⟨l0, a0, a1, a2, a3, a4, a5, a6, a7, -⟩ := hA.out
  obtain ⟨l1, b0, b1, b2, b3, b4, b5, b6, b7, -⟩ := hB.out
  replace v10 := (hx3.cells.1 _ _ lv1).trans v10
  replace v11 := (hx3.cells.1 _ _ lv1).trans v11
  replace lv1 := hx3.cells.2.2 _ lv1
  replace v20 := (hx3.cells.1 _ _ lv2).trans v20
  replace v21 := (hx3.cells.1 _ _ lv2).trans v21
  replace lv2 := hx3.cells.2.2 _ lv2
  obtain ⟨l2, r0, r1, r2, r3, r4, r5, r6, r7, rf⟩ := hR.out
  have hxw3 : Ext w W3 := hxw.trans (hx1.trans (hx2.trans hx3))
  clear hx1 hx2 hx3
  go_wp2
  all_goals
    refine post_as (fun W => ∃ i t, SkyAt W (w.heap.size + 1 + 1) ⟨x, y, z, i, t⟩ ∧ i = (a.ice && b.ice) ∧ t = (a.storm && b.storm) ∧ Ext w W) ⟨_, _, hR.out.put ⟨x, y, z, _, _⟩, by simp [*], by simp [*], (by with_reducible (repeat first | assumption | exact Ext.refl _ | refine Ext.set ?_ (by omega) _ | refine Ext.alloc ?_ _ | refine Ext.drew ?_ | refine Ext.drewN ?_ _ | refine Ext.trans ?_ (by assumption)))⟩ fun W => ?_
    rintro ⟨i, t, ⟨p0, p1, p2, p3, p4, p5, p6, p7, p8, pf⟩, ei, et, hEW⟩
    refine bodyPost_ret (v := .tuple #[Sky.val ⟨x, y, z, i, t⟩, .bool (p || q || r)]) ?_ rfl ⟨by rw [e1.out, e2.out, ei, et], hEW⟩
    simp [results, go_sem, p1, p2, p3, p4, p5, p6, p7, p8, *]
set_option maxRecDepth 100000 in
set_option maxHeartbeats 2000000 in
theorem worst_50 (s : Sky) (w : World) : Calls Tryz.prog 50 #[s.val] w fun e w' => e = .returned s.worst.val ∧ Ext w w' := by
  simp only [Sky.val]
  go_enter Tryz.func50, Tryz.ntmps50
  go_wp2
  refine bodyPost_ret (v := s.worst.val) ?_ rfl ⟨rfl, (by with_reducible (repeat first | assumption | exact Ext.refl _ | refine Ext.set ?_ (by omega) _ | refine Ext.alloc ?_ _ | refine Ext.drew ?_ | refine Ext.drewN ?_ _ | refine Ext.trans ?_ (by assumption)))⟩
  simp [results, go_sem, Sky.worst]
set_option maxRecDepth 100000 in
set_option maxHeartbeats 2000000 in
theorem flyable_49 (x : Wx) (l : Minima) (w : World) : Calls Tryz.prog 49 #[x.val, l.val] w fun e w' => e = .returned (.bool (flyable x l)) ∧ Ext w w' := by
  simp only [Wx.val, Minima.val]
  go_enter Tryz.func49, Tryz.ntmps49
  go_wp2
  all_goals
    go_ret
    exact ⟨by first | (simp [flyable, *]; done) | (simp [flyable, *]; omega), (by with_reducible (repeat first | assumption | exact Ext.refl _ | refine Ext.set ?_ (by omega) _ | refine Ext.alloc ?_ _ | refine Ext.drew ?_ | refine Ext.drewN ?_ _ | refine Ext.trans ?_ (by assumption)))⟩
/-- Whether a weather is in a sky. -/
def Wx.inside (x : Wx) (s : Sky) : Bool := within x.wind s.w.lo s.w.hi && within x.see s.s.lo s.s.hi && within x.ceil s.c.lo s.c.hi && (!x.ice || s.ice) && (!x.storm || s.storm)
set_option maxRecDepth 100000 in
set_option maxHeartbeats 2000000 in
theorem in_51 (x : Wx) (s : Sky) (w : World) : Calls Tryz.prog 51 #[x.val, s.val] w fun e w' => e = .returned (.bool (x.inside s)) ∧ Ext w w' := by
  simp only [Wx.val, Sky.val]
  go_enter Tryz.func51, Tryz.ntmps51
  go_wp2_with (go_at_call 71; refine (from_71 _ _ _ _).mono ?_; rintro e1 w1 ⟨rfl, rfl⟩)
  all_goals
    go_ret
    exact ⟨by first | (simp [Wx.inside, *]; done) | (simp [Wx.inside, *]; omega), (by with_reducible (repeat first | assumption | exact Ext.refl _ | refine Ext.set ?_ (by omega) _ | refine Ext.alloc ?_ _ | refine Ext.drew ?_ | refine Ext.drewN ?_ _ | refine Ext.trans ?_ (by assumption)))⟩
end Go.Proofs.YtmmimbcfgobnaaaGreat
