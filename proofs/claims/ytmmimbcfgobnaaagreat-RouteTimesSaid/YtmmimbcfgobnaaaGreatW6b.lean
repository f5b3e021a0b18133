/- The sorts at rows of the call's own, nil let in. -/
import Derived.Test.YtmmimbcfgobnaaaGreatW6
import Derived.Test.YtmmimbcfgobnaaaGreatA1
import Derived.Test.YtmmimbcfgobnaaaGreatD2
namespace Go.Proofs.YtmmimbcfgobnaaaGreat
open Go.RowKit
set_option linter.unusedVariables false
set_option linter.unusedSimpArgs false
def encNs (i : Nat) : List Value := [encN i]
theorem encNs_one : ∀ (x : Nat), ∀ u ∈ encNs x, u.oneCell' = true := fun x u hu => by
  simp only [encNs, List.mem_singleton] at hu; subst hu; rfl
theorem cellsOf_Ns (L : List Nat) : cellsOf encNs L = L.map encN := cellsOf_N L
theorem ExtBut.of_ge {p : Nat} {B w w' : World} (h : Ext B w) (k : ExtBut p w w') (hp : B.heap.size ≤ p) : Ext B w' := ExtBut.ext h k hp

theorem sortO_fc (m : Met) (A : Option Addr) (c bm base : Nat) (v : Value) (L : List Nat) (wB w : World) (hO : Owns 3 1 encNs w base v L) (hbase : wB.heap.size ≤ base) (hr : ∀ i ∈ L, i < m.fcs.length) (hn : L.length ≤ 19) (hB : Ext wB w) (hF : Rows 12 Fc.enc wB A m.fcs.length m.fcs) (hbm : wB.cell? ⟨bm, 12, none⟩ = some (.slice A m.fcs.length c)) (lbm : bm < wB.heap.size) :
    Calls Tryz.prog 106 #[v, .func (.func 107) #[] #[.pointer (some ⟨bm, 0, none⟩)]] w fun e w' => e = .returned (.tuple #[]) ∧ Owns 3 1 encNs w' base v (isort m.fcLt L) ∧ Ext wB w' := by
  rcases hO.form with ⟨rfl, rfl⟩ | ⟨g, cap, rfl, hg, hgl⟩
  · refine (sort_nil _ w).mono ?_
    rintro e w' ⟨rfl, rfl⟩
    exact ⟨rfl, hO, hB⟩
  · by_cases hL : L = []
    · subst hL
      rcases hO.2 with ⟨h0, _⟩ | ⟨g', cap', cur, he, hg', hh, hn2, hm, hs, ht⟩
      · simp at h0
      · simp only [Value.slice.injEq, Option.some.injEq, Addr.mk.injEq, and_true] at he
        obtain ⟨rfl, _, rfl⟩ := he
        have hN : OwnN w g cap [] := ⟨⟨cur, hh, by omega, by simp⟩, by simp, hm⟩
        refine (sort_fc m A c bm g cap [] wB w hN hr hn hB (by omega) hF hbm lbm).mono ?_
        rintro e w' ⟨rfl, hO', hE⟩
        exact ⟨rfl, by
          have := hO'.owns hg
          unfold Owns; rw [cellsOf_Ns]
          exact this, ExtBut.ext hB hE (by omega)⟩
    · have hO2 : w.ownsRow base 3 1 (.slice (some ⟨g, 0, none⟩) L.length cap) L.length (L.map encN) := by rw [← cellsOf_Ns]; exact hO
      obtain ⟨g', cap', he, hg', hN⟩ := OwnN.of_owns hO2 hL
      simp only [Value.slice.injEq, Option.some.injEq, Addr.mk.injEq, and_true, true_and] at he
      obtain ⟨rfl, rfl⟩ := he
      refine (sort_fc m A c bm g cap L wB w hN hr hn hB (by omega) hF hbm lbm).mono ?_
      rintro e w' ⟨rfl, hO', hE⟩
      exact ⟨rfl, by
        have := hO'.owns hg
        rw [isort_length] at this
        unfold Owns; rw [cellsOf_Ns, isort_length]
        exact this, ExtBut.ext hB hE (by omega)⟩

theorem sortO_si (m : Met) (A : Option Addr) (c bm base : Nat) (v : Value) (L : List Nat) (wB w : World) (hO : Owns 3 1 encNs w base v L) (hbase : wB.heap.size ≤ base) (hr : ∀ i ∈ L, i < m.sights.length) (hn : L.length ≤ 19) (hB : Ext wB w) (hF : Rows 7 Sight.enc wB A m.sights.length m.sights) (hbm : wB.cell? ⟨bm, 13, none⟩ = some (.slice A m.sights.length c)) (lbm : bm < wB.heap.size) :
    Calls Tryz.prog 106 #[v, .func (.func 109) #[] #[.pointer (some ⟨bm, 0, none⟩)]] w fun e w' => e = .returned (.tuple #[]) ∧ Owns 3 1 encNs w' base v (isort m.siLt L) ∧ Ext wB w' := by
  rcases hO.form with ⟨rfl, rfl⟩ | ⟨g, cap, rfl, hg, hgl⟩
  · refine (sort_nil _ w).mono ?_
    rintro e w' ⟨rfl, rfl⟩
    exact ⟨rfl, hO, hB⟩
  · by_cases hL : L = []
    · subst hL
      rcases hO.2 with ⟨h0, _⟩ | ⟨g', cap', cur, he, hg', hh, hn2, hm, hs, ht⟩
      · simp at h0
      · simp only [Value.slice.injEq, Option.some.injEq, Addr.mk.injEq, and_true] at he
        obtain ⟨rfl, _, rfl⟩ := he
        have hN : OwnN w g cap [] := ⟨⟨cur, hh, by omega, by simp⟩, by simp, hm⟩
        refine (sort_si m A c bm g cap [] wB w hN hr hn hB (by omega) hF hbm lbm).mono ?_
        rintro e w' ⟨rfl, hO', hE⟩
        exact ⟨rfl, by
          have := hO'.owns hg
          unfold Owns; rw [cellsOf_Ns]
          exact this, ExtBut.ext hB hE (by omega)⟩
    · have hO2 : w.ownsRow base 3 1 (.slice (some ⟨g, 0, none⟩) L.length cap) L.length (L.map encN) := by rw [← cellsOf_Ns]; exact hO
      obtain ⟨g', cap', he, hg', hN⟩ := OwnN.of_owns hO2 hL
      simp only [Value.slice.injEq, Option.some.injEq, Addr.mk.injEq, and_true, true_and] at he
      obtain ⟨rfl, rfl⟩ := he
      refine (sort_si m A c bm g cap L wB w hN hr hn hB (by omega) hF hbm lbm).mono ?_
      rintro e w' ⟨rfl, hO', hE⟩
      exact ⟨rfl, by
        have := hO'.owns hg
        rw [isort_length] at this
        unfold Owns; rw [cellsOf_Ns, isort_length]
        exact this, ExtBut.ext hB hE (by omega)⟩

theorem grownBy_refl (w : World) (r : Option Nat) : w.grownBy w r := ⟨rfl, rfl, rfl, Nat.le_refl _, fun _ _ _ => rfl⟩
theorem ExtBut.grownBy {p : Nat} {w w' : World} (h : ExtBut p w w') : w.grownBy w' (some p) := ⟨h.os, h.tape, h.output, h.size, fun k hk hp => h.block k hk (fun e => hp (by rw [e]))⟩
theorem sortO_111 (base : Nat) (v : Value) (L : List Nat) (w : World) (hO : Owns 3 1 encNs w base v L) (hn : L.length ≤ 12) :
    Calls Tryz.prog 111 #[v] w fun e w' => e = .returned (.tuple #[]) ∧ Owns 3 1 encNs w' base v (isort natLt L) ∧ w.grownBy w' v.ownBlock := by
  rcases hO.form with ⟨rfl, rfl⟩ | ⟨g, cap, rfl, hg, hgl⟩
  · refine (sort_nil_111 w).mono ?_
    rintro e w' ⟨rfl, rfl⟩
    exact ⟨rfl, hO, grownBy_refl _ _⟩
  · rcases hO.2 with ⟨h0, _⟩ | ⟨g', cap', cur, he, hg', hh, hn2, hm, hs, ht⟩
    · simp at h0
    · simp only [Value.slice.injEq, Option.some.injEq, Addr.mk.injEq, and_true] at he
      obtain ⟨rfl, _, rfl⟩ := he
      have hN : OwnN w g cap L := ⟨⟨cur, hh, by omega, by rw [← cellsOf_Ns]; rw [Nat.mul_one] at ht; exact ht⟩, hn2, hm⟩
      refine (sort_111 g cap L w hN hn).mono ?_
      rintro e w' ⟨rfl, hO', hE⟩
      exact ⟨rfl, by
        have := hO'.owns hg
        rw [isort_length] at this
        unfold Owns; rw [cellsOf_Ns, isort_length]
        exact this, hE.grownBy⟩
end Go.Proofs.YtmmimbcfgobnaaaGreat
