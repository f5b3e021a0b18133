/- The reference: tables whose rows are made by append. -/
import Derived.Test.YtmmimbcfgobnaaaGreatQ6
namespace Go.Proofs.YtmmimbcfgobnaaaGreat
open Go.RowKit
set_option linter.unusedVariables false
set_option linter.unusedSimpArgs false
attribute [local go_sem] stored_match isSome_setCell

/-- A table of n rows of n numbers as TabOwn, its rows of capacities cp. -/
structure TabC (w : World) (lo hi g n : Nat) (r cp : Nat → Nat) (f : Tab) : Prop where
  g1 : lo ≤ g
  g2 : g < hi
  r1 : ∀ i, i < n → lo ≤ r i
  r2 : ∀ i, i < n → r i < hi
  rg : ∀ i, i < n → r i ≠ g
  inj : ∀ i j, i < n → j < n → r i = r j → i = j
  row : ∀ i, i < n → w.cell? ⟨g, i, none⟩ = some (.slice (some ⟨r i, 0, none⟩) n (cp i))
  cell : ∀ i j : Nat, i < n → j < n → w.cell? ⟨r i, j, none⟩ = some (.int .i64 (f i j))
  free : ∀ i o, i < n → w.frozen? ⟨r i, o, none⟩ = false
  hi_ : hi ≤ w.heap.size
theorem TabC.ext {w w' : World} {lo hi g n : Nat} {r cp : Nat → Nat} {f : Tab} (h : TabC w lo hi g n r cp f) (e : Ext w w') : TabC w' lo hi g n r cp f := by
  obtain ⟨c, fr, z⟩ := e.cells
  exact ⟨h.g1, h.g2, h.r1, h.r2, h.rg, h.inj, fun i hi' => (c _ _ (Nat.lt_of_lt_of_le h.g2 h.hi_)).trans (h.row i hi'), fun i j hi' hj => (c _ _ (Nat.lt_of_lt_of_le (h.r2 i hi') h.hi_)).trans (h.cell i j hi' hj), fun i o hi' => (fr _ _ (Nat.lt_of_lt_of_le (h.r2 i hi') h.hi_)).trans (h.free i o hi'), Nat.le_trans h.hi_ e.size⟩
theorem TabC.congr {w : World} {lo hi g n : Nat} {r cp : Nat → Nat} {f f' : Tab} (h : TabC w lo hi g n r cp f) (e : ∀ i j : Nat, i < n → j < n → f i j = f' i j) : TabC w lo hi g n r cp f' :=
  ⟨h.g1, h.g2, h.r1, h.r2, h.rg, h.inj, h.row, fun i j hi hj => by rw [← e i j hi hj]; exact h.cell i j hi hj, h.free, h.hi_⟩
theorem TabC.set {w : World} {lo hi g n : Nat} {r cp : Nat → Nat} {f : Tab} (h : TabC w lo hi g n r cp f) {a b : Nat} (ha : a < n) (hb : b < n) (v : Int) : TabC (w.setCell ⟨r a, b, none⟩ (.int .i64 v)) lo hi g n r cp (f.set a b v) := by
  have hx : ExtBut (r a) w (w.setCell ⟨r a, b, none⟩ (.int .i64 v)) := (ExtBut.refl _ _).set _ _
  refine ⟨h.g1, h.g2, h.r1, h.r2, h.rg, h.inj, fun i hi' => ?_, fun i j hi' hj => ?_, fun i o hi' => ?_, ?_⟩
  · rw [cell_set_ne _ _ (Or.inl (fun e => h.rg a ha e.symm))]; exact h.row i hi'
  · by_cases hia : i = a
    · subst hia
      by_cases hjb : j = b
      · subst hjb
        rw [cell_set_eq _ _ (by rw [h.cell i j hi' hj]; rfl)]
        simp [Tab.set]
      · rw [cell_set_ne _ _ (Or.inr hjb), h.cell i j hi' hj]
        unfold Tab.set
        rw [if_neg (by omega)]
    · rw [cell_set_ne _ _ (Or.inl (fun e => hia (h.inj _ _ hi' ha e))), h.cell i j hi' hj]
      unfold Tab.set
      rw [if_neg (by omega)]
  · rw [hx.cells.2.1 _ _ (Nat.lt_of_lt_of_le (h.r2 i hi') h.hi_)]; exact h.free i o hi'
  · simpa [World.setCell] using h.hi_
def encRowC (n : Nat) (g : Nat × Nat) : List Value := [.slice (some ⟨g.1, 0, none⟩) n g.2]
theorem encRowC_one (n : Nat) : ∀ x, ∀ u ∈ encRowC n x, u.oneCell' = true := by
  intro x u hu
  simp only [encRowC, List.mem_singleton] at hu
  subst hu; rfl
def rowOf (f : Tab) (i : Int) (n : Nat) : List Int := (List.range n).map fun (j : Nat) => f i j
theorem rowOf_succ (f : Tab) (i : Int) (n : Nat) : rowOf f i (n + 1) = rowOf f i n ++ [f i n] := by simp [rowOf, List.range_succ]
theorem rowOf_length (f : Tab) (i : Int) (n : Nat) : (rowOf f i n).length = n := by simp [rowOf]
/-- The rows made so far. -/
structure Grid (n : Nat) (f : Tab) (w : World) (k : Nat) (v : Value) (gs : List (Nat × Nat)) (wr : World) : Prop where
  len : gs.length = k
  own : Owns 35 1 (encRowC n) wr w.heap.size v gs
  fill : ∀ i (h : i < gs.length), Owns 3 1 encInt wr w.heap.size (.slice (some ⟨gs[i].1, 0, none⟩) n gs[i].2) (rowOf f i n)
  nodup : (gs.map (·.1)).Nodup
  ext : Ext w wr
theorem Owns.apart {α β : Type} {k k' : Nat} {enc : α → List Value} {enc' : β → List Value} {w : World} {base base' : Nat} {v v' : Value} {L : List α} {L' : List β} (h : Owns 35 k enc w base v L) (h' : Owns 3 k' enc' w base' v' L') {g : Nat} (hg : v'.ownBlock = some g) : ¬ (some g = v.ownBlock) := by
  intro e
  rcases h.2 with ⟨rfl, _⟩ | ⟨g1, cap, cur, rfl, _, hh, _⟩
  · simp [Value.ownBlock] at e
  · rcases h'.2 with ⟨rfl, _⟩ | ⟨g2, cap', cur', rfl, _, hh', _⟩
    · simp [Value.ownBlock] at hg
    · simp only [Value.ownBlock, Option.some.injEq] at e hg
      subst e hg
      rw [hh] at hh'
      simp at hh'
theorem Grid.step {n : Nat} {f : Tab} {w : World} {k : Nat} {v v' : Value} {gs : List (Nat × Nat)} {wr w1 w2 : World} {g c : Nat} {o : Obj} (h : Grid n f w k v gs wr) (e1 : Ext wr w1) (hg : wr.heap.size ≤ g) (hF : Owns 3 1 encInt w1 wr.heap.size (.slice (some ⟨g, 0, none⟩) n c) (rowOf f k n))
    (ho : Owns 35 1 (encRowC n) w2 w.heap.size v' (gs ++ [(g, c)])) (hgr : (w1.alloc o).grownBy w2 v.ownBlock) : Grid n f w (k + 1) v' (gs ++ [(g, c)]) w2 := by
  have hO1 : Owns 35 1 (encRowC n) (w1.alloc o) w.heap.size v gs := h.own.ext (e1.alloc o)
  have hk : ∀ {b : Nat} {u : Value} {L : List Int}, Owns 3 1 encInt w1 b u L → Owns 3 1 encInt w2 b u L := fun {b u L} hf => by
    have h1 : Owns 3 1 encInt (w1.alloc o) b u L := hf.ext ((Ext.refl w1).alloc o)
    exact h1.kept fun g' hg' => hgr.block g' (h1.lt hg').2 (hO1.apart h1 hg')
  have hwe := h.ext.size
  refine ⟨by simp [h.len], ho, fun i hi => ?_, ?_, ?_⟩
  · by_cases hlt : i < gs.length
    · rw [List.getElem_append_left hlt]
      exact hk ((h.fill i hlt).ext e1)
    · have : i = gs.length := by simp at hi; omega
      subst this
      rw [List.getElem_append_right (Nat.le_refl _)]
      simp only [Nat.sub_self, List.getElem_cons_zero]
      rw [h.len]
      have h2 := hk hF
      exact ⟨h2.1, by
        rcases h2.2 with h0 | ⟨g', cap, cur, e, hg', r⟩
        · exact .inl h0
        · exact .inr ⟨g', cap, cur, e, Nat.le_trans hwe hg', r⟩⟩
  · rw [List.map_append, List.nodup_append]
    refine ⟨h.nodup, by simp, fun a ha b hb => ?_⟩
    simp only [List.map_cons, List.map_nil, List.mem_singleton] at hb
    obtain ⟨x, hx, rfl⟩ := List.mem_map.1 ha
    obtain ⟨i, hi, rfl⟩ := List.mem_iff_getElem.1 hx
    have := ((h.fill i hi).lt (g := gs[i].1) rfl).2
    omega
  · exact grown_ext w (h.ext.trans e1) (Nat.le_refl _) (fun g' hg' => (h.own.lt hg').1) hgr
theorem Grid.done {n : Nat} {f : Tab} {w : World} {v : Value} {gs : List (Nat × Nat)} {wr : World} (h : Grid n f w n v gs wr) (hn : 1 ≤ n) : ∃ g c r cp, v = .slice (some ⟨g, 0, none⟩) n c ∧ Ext w wr ∧ TabC wr w.heap.size wr.heap.size g n r cp f := by
  have hl := h.len
  rcases h.own.form with ⟨e, _⟩ | ⟨g, cap, rfl, hg1, hg2⟩
  · rw [e] at hl; simp at hl; omega
  · have hd : ∀ i (hi : i < n), gs.getD i (0, 0) = gs[i]'(by omega) := fun i hi => by
      rw [List.getD_eq_getElem?_getD, List.getElem?_eq_getElem (by omega)]; rfl
    have hf : ∀ i, i < n → Owns 3 1 encInt wr w.heap.size (.slice (some ⟨(gs.getD i (0, 0)).1, 0, none⟩) n (gs.getD i (0, 0)).2) (rowOf f i n) := fun i hi => by
      rw [hd i hi]; exact h.fill i (by omega)
    refine ⟨g, cap, fun i => (gs.getD i (0, 0)).1, fun i => (gs.getD i (0, 0)).2, by rw [hl], h.ext, hg1, hg2, fun i hi' => ((hf i hi').lt rfl).1, fun i hi' => ((hf i hi').lt rfl).2, fun i hi' e => ?_, fun i j hi' hj e => ?_, fun i hi' => ?_, fun i j hi' hj => ?_, fun i o hi' => ?_, Nat.le_refl _⟩
    · exact h.own.apart (hf i hi') (g := (gs.getD i (0, 0)).1) rfl (by show some _ = some g; rw [e])
    · have e : (gs.getD i (0, 0)).1 = (gs.getD j (0, 0)).1 := e
      rw [hd i hi', hd j hj] at e
      have h1 : (gs.map (·.1))[i]'(by simp; omega) = (gs.map (·.1))[j]'(by simp; omega) := by simpa using e
      exact (List.getElem_inj h.nodup).1 h1
    · have := (h.own.cell (fun _ => rfl) (j := i) (i := 0) (by omega) (by omega)).1
      rw [Nat.mul_one, Nat.add_zero] at this
      rw [this, hd i hi']
      rfl
    · have := ((hf i hi').cell (fun _ => rfl) (j := j) (i := 0) (by rw [rowOf_length]; exact hj) (by omega)).1
      rw [Nat.mul_one, Nat.add_zero] at this
      rw [this]
      simp [encInt, rowOf]
    · rcases (hf i hi').2 with ⟨e, _⟩ | ⟨g', cap', cur, e, _, hh, _⟩
      · cases e
      · simp only [Value.slice.injEq, Option.some.injEq, Addr.mk.injEq, and_true] at e
        obtain ⟨e, _⟩ := e
        show wr.frozen? ⟨(gs.getD i (0, 0)).1, o, none⟩ = false
        rw [e]
        unfold World.frozen?
        simp only [hh]
        simp
end Go.Proofs.YtmmimbcfgobnaaaGreat
