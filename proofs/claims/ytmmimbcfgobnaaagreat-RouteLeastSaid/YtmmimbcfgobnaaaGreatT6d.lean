/- The law RouteLeast: its walk, joined. -/
import Derived.Test.YtmmimbcfgobnaaaGreatT6b
import Derived.Test.YtmmimbcfgobnaaaGreatT6c
set_option linter.unusedVariables false
set_option linter.unusedSimpArgs false
namespace Go.Proofs.YtmmimbcfgobnaaaGreat
theorem law_6 (I : Inp) (w : World) (h : I.In w) : Calls Tryz.prog 6 #[I.vp, I.vf] w fun e w' => e = .returned (.bool true) ∧ Ext w w' := by
  rcases Bool.eq_false_or_eq_true I.right with hr | hr
  · obtain ⟨he, hsh, -⟩ := Inp.right_true hr
    obtain ⟨-, hlg, hfg, -⟩ := Inp.err_good he
    obtain ⟨-, -, ⟨u1, u2⟩, ⟨v1, v2⟩, -⟩ := Flight.plain_parts (Flight.good_parts hfg).1
    unfold Minima.good at hlg
    simp only [Bool.and_eq_true, within_true] at hlg
    obtain ⟨⟨⟨k1, k2⟩, ⟨k3, k4⟩⟩, ⟨k5, k6⟩⟩ := hlg
    have hmore := Inp.more_law he
    rcases Inp.least_law he with ⟨l1, l2, l3, l4, l5, l6⟩ | ⟨l1, l2⟩
    · have hL : I.leastR = (I.leastR.1, 0) := by rw [← l1]
      have hS2 : (I.fu I.leastR.1).safeR = ((I.fu I.leastR.1).safeR.1, true, 0) := by rw [← l5]
      by_cases hn : I.leastR.1 ≤ I.f.fuel
      · rw [decide_eq_true hn] at l4
        have hS : I.safeR = (I.safeR.1, true, 0) := by rw [← l4]
        obtain ⟨m1, m2, m3⟩ := hmore (by rw [l4]) _ rfl
        have hS4 : (I.fu (min 100000 (I.f.fuel + 1))).safeR = ((I.fu (min 100000 (I.f.fuel + 1))).safeR.1, true, 0) := by rw [← m1]
        have hS5 : (I.rs (I.f.reserve / 2)).safeR = ((I.rs (I.f.reserve / 2)).safeR.1, true, 0) := by rw [← m2]
        have hS6 : (I.mi ⟨min 300 (I.l.wind + 1), I.l.see / 2, I.l.ceil / 2, true, I.l.storm⟩).safeR = ((I.mi ⟨min 300 (I.l.wind + 1), I.l.see / 2, I.l.ceil / 2, true, I.l.storm⟩).safeR.1, true, 0) := by rw [← m3]
        by_cases e0 : I.leastR.1 = 0
        · exact law_6_safe0 I w h hr hsh l2 l3 hn hL hS hS2 (s3 := (I.fu (I.leastR.1 - 1)).safeR.1) (is3 := (I.fu (I.leastR.1 - 1)).safeR.2.1) (g3 := (I.fu (I.leastR.1 - 1)).safeR.2.2) rfl e0 rfl rfl rfl u1 u2 v1 v2 k1 k2 k3 k4 k5 k6 hS4 hS5 hS6
        · have hS3 : (I.fu (I.leastR.1 - 1)).safeR = ((I.fu (I.leastR.1 - 1)).safeR.1, false, 0) := by rw [← l6 (by omega)]
          exact law_6_safe1 I w h hr hsh (by omega) l3 hn hL hS hS2 hS3 rfl rfl rfl u1 u2 v1 v2 k1 k2 k3 k4 k5 k6 hS4 hS5 hS6
      · rw [decide_eq_false hn] at l4
        have hS : I.safeR = (I.safeR.1, false, 0) := by rw [← l4]
        have hS3 : (I.fu (I.leastR.1 - 1)).safeR = ((I.fu (I.leastR.1 - 1)).safeR.1, false, 0) := by rw [← l6 (by omega)]
        exact law_6_lack I w h hr hsh (by omega) l3 (by omega) hL hS hS2 hS3
    · exact law_6_none I w h hr hsh (n := I.leastR.1) (s := I.safeR.1) (by rw [← l1]) (by rw [← l2])
  · exact law_6_no I w h hr
end Go.Proofs.YtmmimbcfgobnaaaGreat
