import Derived.Test.YtmmimbcfgobnaaaGreatS1
namespace Go.Proofs.YtmmimbcfgobnaaaGreat
open Go.RowKit
set_option linter.unusedVariables false
set_option linter.unusedSimpArgs false
attribute [local go_sem] stored_match isSome_setCell

theorem spanned_two (a b : Span) : spanned [a, b] = if (a.valid && b.valid) = true then 0 else 10 := by
  unfold spanned
  cases ha : a.valid <;> cases hb : b.valid <;> simp [ha, hb]
theorem Rows.two {w : World} {b : Nat} {x y : Span} (hb : b < w.heap.size) (h0 : w.cell? ⟨b, 0, none⟩ = some (.int .i64 x.lo)) (h1 : w.cell? ⟨b, 1, none⟩ = some (.int .i64 x.hi)) (h2 : w.cell? ⟨b, 2, none⟩ = some (.int .i64 y.lo)) (h3 : w.cell? ⟨b, 3, none⟩ = some (.int .i64 y.hi)) :
    Rows 2 Span.enc w (some ⟨b, 0, none⟩) 2 [x, y] := ⟨rfl, by omega, fun _ => ⟨b, 0, rfl, hb, fun j hj i hi => by
    have hj0 : j = 0 ∨ j = 1 := by simp at hj; omega
    rcases hj0 with rfl | rfl
    · match i, hi with
      | 0, _ => exact h0
      | 1, _ => exact h1
    · match i, hi with
      | 0, _ => exact h2
      | 1, _ => exact h3⟩⟩

theorem meet_none {a b : Span} (hv : (a.valid && b.valid) = true) (h : mn a.hi b.hi < mx a.lo b.lo) : meet a b = (⟨0, 0⟩, 3) := by unfold meet; rw [if_pos hv, if_pos h]
theorem meet_some {a b : Span} (hv : (a.valid && b.valid) = true) (h : mx a.lo b.lo ≤ mn a.hi b.hi) : meet a b = (⟨mx a.lo b.lo, mn a.hi b.hi⟩, 0) := by unfold meet; rw [if_pos hv, if_neg (by omega)]
theorem meet_bad {a b : Span} (hv : ¬ (a.valid && b.valid) = true) : meet a b = (⟨0, 0⟩, 10) := by unfold meet; rw [if_neg hv]

set_option maxRecDepth 100000 in
set_option maxHeartbeats 2000000 in
theorem meet_154 (a b : Span) (w : World) : Calls Tryz.prog 154 #[a.val, b.val] w fun e w' => e = .returned (.tuple #[(meet a b).1.val, .int .i64 (meet a b).2]) ∧ Ext w w' := by
  simp only [Span.val]
  have hs := spanned_two a b
  by_cases hv : (a.valid && b.valid) = true
  · rw [if_pos hv] at hs
    have hv := Lib.hid hv
    by_cases h1 : a.lo < b.lo <;> by_cases h2 : b.hi < a.hi
    all_goals


      go_enter Tryz.func154, Tryz.ntmps154
      go_wp2_with fail
      refine (spanned_175 [a, b] _ _ _ _ (Rows.two (by simp) (by go_simp) (by go_simp) (by go_simp) (by go_simp))).mono ?_
      rintro e1 w1 ⟨rfl, hb1⟩
      obtain ⟨hc1, hf1, hz1⟩ := hb1.cells
      go_wp2_with fail
      go_quiet (fail)
      go_wp2
    all_goals
      refine bodyPost_ret (v := .tuple #[(meet a b).1.val, .int .i64 (meet a b).2]) ?_ rfl ⟨rfl, (by with_reducible (repeat first | assumption | exact Ext.refl _ | refine Ext.set ?_ (by omega) _ | refine Ext.alloc ?_ _ | refine Ext.drew ?_ | refine Ext.drewN ?_ _ | refine Ext.trans ?_ (by assumption)))⟩
      first | rw [meet_none hv.out (by simp only [mx, mn]; omega)] | rw [meet_some hv.out (by simp only [mx, mn]; omega)]
      first | (simp [results, go_sem, mx, mn, *]; done) | (simp [results, go_sem, mx, mn, *]; omega)
  · rw [if_neg hv] at hs
    have hv := Lib.hid hv
    go_enter Tryz.func154, Tryz.ntmps154
    go_wp2_with fail
    refine (spanned_175 [a, b] _ _ _ _ (Rows.two (by simp) (by go_simp) (by go_simp) (by go_simp) (by go_simp))).mono ?_
    rintro e1 w1 ⟨rfl, hb1⟩
    obtain ⟨hc1, hf1, hz1⟩ := hb1.cells
    go_wp2
    refine bodyPost_ret (v := .tuple #[(meet a b).1.val, .int .i64 (meet a b).2]) ?_ rfl ⟨rfl, (by with_reducible (repeat first | assumption | exact Ext.refl _ | refine Ext.set ?_ (by omega) _ | refine Ext.alloc ?_ _ | refine Ext.drew ?_ | refine Ext.drewN ?_ _ | refine Ext.trans ?_ (by assumption)))⟩
    rw [meet_bad hv.out]
    simp [results, go_sem, *]
end Go.Proofs.YtmmimbcfgobnaaaGreat
