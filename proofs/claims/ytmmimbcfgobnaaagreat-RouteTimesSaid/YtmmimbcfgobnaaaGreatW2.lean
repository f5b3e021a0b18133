/- Contracts of package weather: small functions. -/
import Derived.Test.YtmmimbcfgobnaaaGreatW1
namespace Go.Proofs.YtmmimbcfgobnaaaGreat
open Go.RowKit
set_option linter.unusedVariables false
set_option linter.unusedSimpArgs false
attribute [local go_sem] stored_match isSome_setCell

set_option maxRecDepth 100000 in
set_option maxHeartbeats 2000000 in
theorem near_110 (n b most : Int) (w : World) (h0 : 0 ≤ n) (h1 : n ≤ most) (h2 : 0 ≤ b) (h3 : b ≤ 40000000) (h4 : most ≤ 1000000) : Calls Tryz.prog 110 #[.int .i64 n, .int .i64 b, .int .i64 most] w fun e w' => e = .returned (near n b most).val ∧ Ext w w' := by
  by_cases g1 : n - b < 0 <;> by_cases g2 : most < n + b
  all_goals
    go_enter Tryz.func110, Tryz.ntmps110
    go_wp2
  all_goals
    refine bodyPost_ret (v := (near n b most).val) ?_ rfl ⟨rfl, (by with_reducible (repeat first | assumption | exact Ext.refl _ | refine Ext.set ?_ (by omega) _ | refine Ext.alloc ?_ _ | refine Ext.drew ?_ | refine Ext.drewN ?_ _ | refine Ext.trans ?_ (by assumption)))⟩
    simp [results, go_sem, near]
    omega

set_option maxRecDepth 100000 in
set_option maxHeartbeats 2000000 in
theorem worst_149 (s : Sky) (w : World) : Calls Tryz.prog 149 #[s.val] w fun e w' => e = .returned s.worst.val ∧ Ext w w' := by
  simp only [Sky.val]
  go_enter Tryz.func149, Tryz.ntmps149
  go_wp2
  refine bodyPost_ret (v := s.worst.val) ?_ rfl ⟨rfl, (by with_reducible (repeat first | assumption | exact Ext.refl _ | refine Ext.set ?_ (by omega) _ | refine Ext.alloc ?_ _ | refine Ext.drew ?_ | refine Ext.drewN ?_ _ | refine Ext.trans ?_ (by assumption)))⟩
  simp [results, go_sem, Sky.worst]

set_option maxRecDepth 100000 in
set_option maxHeartbeats 2000000 in
theorem flyable_148 (x : Wx) (l : Minima) (w : World) : Calls Tryz.prog 148 #[x.val, l.val] w fun e w' => e = .returned (.bool (flyable x l)) ∧ Ext w w' := by
  simp only [Wx.val, Minima.val]
  go_enter Tryz.func148, Tryz.ntmps148
  go_wp2
  all_goals
    go_ret
    exact ⟨by first | (simp [flyable, *]; done) | (simp [flyable, *]; omega), (by with_reducible (repeat first | assumption | exact Ext.refl _ | refine Ext.set ?_ (by omega) _ | refine Ext.alloc ?_ _ | refine Ext.drew ?_ | refine Ext.drewN ?_ _ | refine Ext.trans ?_ (by assumption)))⟩
end Go.Proofs.YtmmimbcfgobnaaaGreat
