/- The references: spans, weather.Check, net and leg. -/
import Derived.Test.YtmmimbcfgobnaaaGreatR2
import Derived.Test.YtmmimbcfgobnaaaGreatW4
namespace Go.Proofs.YtmmimbcfgobnaaaGreat
open Go.RowKit
set_option linter.unusedVariables false
set_option linter.unusedSimpArgs false
attribute [local go_sem] stored_match isSome_setCell

set_option maxRecDepth 100000 in
set_option maxHeartbeats 2000000 in
theorem from_151 (n lo hi : Int) (w : World) : Calls Tryz.prog 151 #[.int .i64 n, .int .i64 lo, .int .i64 hi] w fun e w' => e = .returned (.bool (within n lo hi)) ∧ w = w' := by
  unfold within
  go_enter Tryz.func151, Tryz.ntmps151
  go_wp2
  all_goals
    go_ret
    exact ⟨by first | rfl | (simp [*]; done) | (simp; omega), rfl⟩
set_option maxRecDepth 100000 in
set_option maxHeartbeats 2000000 in
theorem from_71 (n lo hi : Int) (w : World) : Calls Tryz.prog 71 #[.int .i64 n, .int .i64 lo, .int .i64 hi] w fun e w' => e = .returned (.bool (within n lo hi)) ∧ w = w' := by
  unfold within
  go_enter Tryz.func71, Tryz.ntmps71
  go_wp2
  all_goals
    go_ret
    exact ⟨by first | rfl | (simp [*]; done) | (simp; omega), rfl⟩
set_option maxRecDepth 100000 in
set_option maxHeartbeats 2000000 in
theorem within_62 (n lo hi : Int) (w : World) : Calls Tryz.prog 62 #[.int .i64 n, .int .i64 lo, .int .i64 hi] w fun e w' => e = .returned (.bool (within n lo hi)) ∧ w = w' := by
  unfold within
  go_enter Tryz.func62, Tryz.ntmps62
  go_wp2
  all_goals
    go_ret
    exact ⟨by first | rfl | (simp [*]; done) | (simp; omega), rfl⟩
theorem Span.valid_ref (x : Span) : x.valid = (within x.lo (-1000000) 1000000 && within x.hi x.lo 1000000) := by
  unfold Span.valid
  rw [Bool.eq_iff_iff]
  simp only [Bool.and_eq_true, within_true, decide_eq_true_eq]
  omega
set_option maxRecDepth 100000 in
set_option maxHeartbeats 2000000 in
theorem valid_134 (x : Span) (w : World) : Calls Tryz.prog 134 #[x.val] w fun e w' => e = .returned (.bool x.valid) ∧ Ext w w' := by
  have hv := Lib.hid x.valid_ref
  simp only [Span.val]
  go_enter Tryz.func134, Tryz.ntmps134
  go_wp2_with (go_at_call 151; refine (from_151 _ _ _ _).mono ?_; rintro e1 w1 ⟨rfl, rfl⟩)
  all_goals
    go_ret
    exact ⟨by rw [hv.out]; simp [*], (by with_reducible (repeat first | assumption | exact Ext.refl _ | refine Ext.set ?_ (by omega) _ | refine Ext.alloc ?_ _ | refine Ext.drew ?_ | refine Ext.drewN ?_ _ | refine Ext.trans ?_ (by assumption)))⟩
theorem Span.ok_ref (x : Span) {most : Int} (hm : most ≤ 1000000) : x.ok most = (x.valid && decide (0 ≤ x.lo) && decide (x.hi ≤ most)) := by
  rw [Span.valid_ref]
  unfold Span.ok
  rw [Bool.eq_iff_iff]
  simp only [Bool.and_eq_true, within_true, decide_eq_true_eq]
  omega
set_option maxRecDepth 100000 in
set_option maxHeartbeats 2000000 in
theorem ranged_104 (x : Span) (most : Int) (hm : most ≤ 1000000) (w : World) : Calls Tryz.prog 104 #[x.val, .int .i64 most] w fun e w' => e = .returned (.bool (x.ok most)) ∧ Ext w w' := by
  have hv := Lib.hid (x.ok_ref hm)
  simp only [Span.val]
  go_enter Tryz.func104, Tryz.ntmps104
  go_wp2_with (go_at_call 134; refine (valid_134 x _).mono ?_; rintro e1 w1 ⟨rfl, hb1⟩; obtain ⟨hc1, hf1, hz1⟩ := hb1.cells; have hs1 := hb1.size; (try simp at hs1))
  all_goals
    go_ret
    exact ⟨by rw [hv.out]; first | (simp [*]; done) | (simp [*]; omega), (by with_reducible (repeat first | assumption | exact Ext.refl _ | refine Ext.set ?_ (by omega) _ | refine Ext.alloc ?_ _ | refine Ext.drew ?_ | refine Ext.drewN ?_ _ | refine Ext.trans ?_ (by assumption)))⟩
set_option maxRecDepth 100000 in
set_option maxHeartbeats 2000000 in
theorem validSky_72 (s : Sky) (w : World) : Calls Tryz.prog 72 #[s.val] w fun e w' => e = .returned (.bool s.ok) ∧ Ext w w' := by
  simp only [Sky.val]
  go_enter Tryz.func72, Tryz.ntmps72
  go_wp2_with (first | (go_at_call_of 104 (Value.int .i64 300); refine (ranged_104 s.w 300 (by decide) _).mono ?_; rintro e1 w1 ⟨rfl, hb1⟩; obtain ⟨hc1, hf1, hz1⟩ := hb1.cells; have hs1 := hb1.size; (try simp at hs1)) | (go_at_call 104; refine (ranged_104 ⟨_, _⟩ 20000 (by decide) _).mono ?_; rintro e1 w1 ⟨rfl, hb1⟩; obtain ⟨hc1, hf1, hz1⟩ := hb1.cells; have hs1 := hb1.size; (try simp at hs1)))
  all_goals
    go_ret
    exact ⟨by simp [Sky.ok, *], (by with_reducible (repeat first | assumption | exact Ext.refl _ | refine Ext.set ?_ (by omega) _ | refine Ext.alloc ?_ _ | refine Ext.drew ?_ | refine Ext.drewN ?_ _ | refine Ext.trans ?_ (by assumption)))⟩
end Go.Proofs.YtmmimbcfgobnaaaGreat
