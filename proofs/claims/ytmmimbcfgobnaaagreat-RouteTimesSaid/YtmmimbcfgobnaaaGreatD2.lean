/- Plain laws of the weather. -/
import Derived.Test.YtmmimbcfgobnaaaGreatD1
set_option linter.unusedSimpArgs false
namespace Go.Proofs.YtmmimbcfgobnaaaGreat

theorem Met.good_parts {m : Met} (h : m.good = true) : (1 ≤ m.places ∧ m.places ≤ 8) ∧ m.any.ok = true ∧ (0 ≤ m.wind ∧ m.wind ≤ 20000) ∧ (0 ≤ m.see ∧ m.see ≤ 20000) ∧ (0 ≤ m.ceil ∧ m.ceil ≤ 20000) ∧
    (∀ f ∈ m.fcs, Fc.ok m.places f = true) ∧ (∀ s ∈ m.sights, Sight.ok m.places s = true) := by
  unfold Met.good at h
  simp only [Bool.and_eq_true, decide_eq_true_eq, List.all_eq_true] at h
  obtain ⟨⟨⟨⟨⟨⟨⟨⟨h1, h2⟩, h3⟩, h4⟩, h5⟩, _⟩, h7⟩, _⟩, h9⟩ := h
  exact ⟨within_true.1 h1, h2, within_true.1 h3, within_true.1 h4, within_true.1 h5, h7, h9⟩
theorem Fc.ok_parts {p : Int} {f : Fc} (h : Fc.ok p f = true) : (0 ≤ f.place ∧ f.place ≤ p - 1) ∧ (0 ≤ f.fr ∧ f.fr < f.to ∧ f.to ≤ 2000) ∧ (0 ≤ f.issued ∧ f.issued ≤ 2000) ∧ f.sky.ok = true := by
  unfold Fc.ok at h
  simp only [Bool.and_eq_true, decide_eq_true_eq] at h
  exact ⟨within_true.1 h.1.1.1, h.1.1.2, within_true.1 h.1.2, h.2⟩
theorem Sight.ok_parts {p : Int} {s : Sight} (h : Sight.ok p s = true) : (0 ≤ s.place ∧ s.place ≤ p - 1) ∧ (0 ≤ s.at_ ∧ s.at_ ≤ 2000) ∧ (0 ≤ s.now.wind ∧ s.now.wind ≤ 300) ∧ (0 ≤ s.now.see ∧ s.now.see ≤ 20000) ∧ (0 ≤ s.now.ceil ∧ s.now.ceil ≤ 20000) := by
  unfold Sight.ok Wx.ok at h
  simp only [Bool.and_eq_true] at h
  exact ⟨within_true.1 h.1.1, within_true.1 h.1.2, within_true.1 h.2.1.1, within_true.1 h.2.1.2, within_true.1 h.2.2⟩
theorem Met.fc_eq {m : Met} {k : Nat} {x : Fc} (h : m.fcs[k]? = some x) : m.fc k = x := by simp [Met.fc, List.getD, h]
theorem Met.si_eq {m : Met} {k : Nat} {x : Sight} (h : m.sights[k]? = some x) : m.si k = x := by simp [Met.si, List.getD, h]
theorem Met.coversOf_eq {m : Met} {place tick : Int} {k : Nat} {x : Fc} (h : m.fcs[k]? = some x) : m.coversOf place tick k = (decide (x.place = place) && within tick x.fr (x.to - 1)) := by
  rw [Met.coversOf, Met.fc_eq h, Bool.eq_iff_iff]
  simp only [decide_eq_true_eq, Bool.and_eq_true, within_true]
  omega
theorem Met.seenOf_eq {m : Met} {place tick : Int} {k : Nat} {x : Sight} (h : m.sights[k]? = some x) : m.seenOf place tick k = (decide (x.place = place) && decide (x.at_ ≤ tick)) := by
  rw [Met.seenOf, Met.si_eq h, Bool.eq_iff_iff]
  simp
theorem Met.covers0_succ (m : Met) (place tick : Int) (k : Nat) : m.covers0 place tick (k + 1) = m.covers0 place tick k ++ if m.coversOf place tick k = true then [k] else [] := by
  unfold Met.covers0
  rw [List.range_succ, List.filter_append]
  congr 1
  simp only [List.filter_cons, List.filter_nil]
theorem Met.seen0_succ (m : Met) (place tick : Int) (k : Nat) : m.seen0 place tick (k + 1) = m.seen0 place tick k ++ if m.seenOf place tick k = true then [k] else [] := by
  unfold Met.seen0
  rw [List.range_succ, List.filter_append]
  congr 1
  simp only [List.filter_cons, List.filter_nil]
theorem Met.covers0_length (m : Met) (place tick : Int) (k : Nat) : (m.covers0 place tick k).length ≤ k := by
  unfold Met.covers0
  exact Nat.le_trans (List.length_filter_le _ _) (by simp)
theorem Met.seen0_length (m : Met) (place tick : Int) (k : Nat) : (m.seen0 place tick k).length ≤ k := by
  unfold Met.seen0
  exact Nat.le_trans (List.length_filter_le _ _) (by simp)
theorem Met.covers0_mem {m : Met} {place tick : Int} {k i : Nat} (h : i ∈ m.covers0 place tick k) : i < k := by
  unfold Met.covers0 at h
  simpa using (List.mem_filter.1 h).1
theorem Met.seen0_mem {m : Met} {place tick : Int} {k i : Nat} (h : i ∈ m.seen0 place tick k) : i < k := by
  unfold Met.seen0 at h
  simpa using (List.mem_filter.1 h).1
theorem prod_bd {n a : Int} (h0 : 0 ≤ n) (h1 : n ≤ 2000) (h2 : 0 ≤ a) (h3 : a ≤ 20000) : 0 ≤ n * a ∧ n * a ≤ 40000000 := by
  refine ⟨Int.mul_nonneg h0 h2, ?_⟩
  calc n * a ≤ 2000 * 20000 := Int.mul_le_mul h1 h3 h2 (by omega)
    _ = 40000000 := by decide
theorem Met.seen0_of {m : Met} {place tick : Int} {k i : Nat} (h : i ∈ m.seen0 place tick k) : m.seenOf place tick i = true := (List.mem_filter.1 h).2
theorem Met.siStep_eq {m : Met} {i : Nat} {x : Sight} (hx : m.si i = x) (tick : Int) (sk : Sky) : m.siStep tick sk i = if tick - x.at_ = 0 then { sk.cut (m.around tick x) with ice := x.now.ice, storm := x.now.storm } else sk.cut (m.around tick x) := by subst hx; rfl
end Go.Proofs.YtmmimbcfgobnaaaGreat
