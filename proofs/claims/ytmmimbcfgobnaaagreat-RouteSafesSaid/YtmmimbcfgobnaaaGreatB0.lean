/- The world's words for this seat's walks: the world has only grown (Ext); what a region that draws its order may count on (Holds); a slice that reads as a list (Rows). -/
import Derived.Test.YtmmimbcfgobnaaaGreatProg
import Derived.Test.YtmmimbcfgobnaaaGreatD0
import Derived.Below
import Derived.OwnWalk
import Derived.WalkKit
import Derived.KernelRfl
import Derived.RowKit3
import Derived.Deep.LoopGhost
import Derived.Deep.QuietTactic
import Derived.BigQuiet
import Derived.WideLaws
import Derived.Outline
import Derived.Lib.Hide
import Derived.BigGuardPart
import Derived.Deep.RegionHeld3
import Derived.Deep.DeepCutAuto
import Derived.Deep.DeepFit
import Derived.Deep.DeepMust
import Derived.Laws.EntriesVeiled
set_option linter.unusedVariables false
set_option linter.unusedSimpArgs false
namespace Go.Proofs.YtmmimbcfgobnaaaGreat
open Go.RowKit

/-- The world has grown: all that was there is as it was. -/
structure Ext (w w' : World) : Prop where
  mk :: (below : Below w.heap.size w w')

theorem Ext.refl (w : World) : Ext w w := ⟨Below.refl _ _⟩
theorem Ext.trans {a b c : World} (h : Ext a b) (k : Ext b c) : Ext a c :=
  ⟨h.below.trans (k.below.mono h.below.size)⟩
theorem Ext.alloc {a w : World} (h : Ext a w) (o : Obj) : Ext a (w.alloc o) := ⟨h.below.alloc h.below.size o⟩
theorem Ext.drew {a w : World} (h : Ext a w) : Ext a w.drew := ⟨h.below.drew⟩
theorem Ext.drewN {a w : World} (h : Ext a w) (n : Nat) : Ext a (w.drewN n) := ⟨⟨h.below.os, h.below.tape, h.below.output, h.below.size, h.below.block⟩⟩
theorem Ext.setCell {a w : World} (h : Ext a w) {p : Addr} (hp : a.heap.size ≤ p.block) (u : Value) : Ext a (w.setCell p u) := ⟨h.below.setCell hp u⟩
theorem Ext.set {a w : World} (h : Ext a w) {b o : Nat} (hp : a.heap.size ≤ b) (u : Value) : Ext a (w.setCell ⟨b, o, none⟩ u) := h.setCell hp u
theorem Ext.size {a w : World} (h : Ext a w) : a.heap.size ≤ w.heap.size := h.below.size
theorem Ext.cells {W w1 : World} (hb : Ext W w1) : (∀ b o, b < W.heap.size → w1.cell? ⟨b, o, none⟩ = W.cell? ⟨b, o, none⟩) ∧ (∀ b o, b < W.heap.size → w1.frozen? ⟨b, o, none⟩ = W.frozen? ⟨b, o, none⟩) ∧ (∀ b, b < W.heap.size → b < w1.heap.size) :=
  ⟨fun b o h => hb.below.cell (p := ⟨b, o, none⟩) h, fun b o h => hb.below.frozen (p := ⟨b, o, none⟩) h, fun _ h => Nat.lt_of_lt_of_le h hb.size⟩

/-- What a region that draws its order may count on: all blocks but 'st' are as they were at its beginning; 'st' has its cells. -/
@[reducible] def Holds (W : World) (st : Nat) (w : World) : Prop :=
  (∀ b, b < W.heap.size → b < w.heap.size) ∧ (∀ b o, b < W.heap.size → b ≠ st → w.cell? ⟨b, o, none⟩ = W.cell? ⟨b, o, none⟩) ∧
  (∀ o, st < W.heap.size → (w.cell? ⟨st, o, none⟩).isSome = (W.cell? ⟨st, o, none⟩).isSome) ∧ (∀ b o, b < W.heap.size → w.frozen? ⟨b, o, none⟩ = W.frozen? ⟨b, o, none⟩)
theorem Holds.refl (W : World) (st : Nat) : Holds W st W := ⟨fun _ h => h, fun _ _ _ _ => rfl, fun _ _ => rfl, fun _ _ _ => rfl⟩
theorem Holds.ext {W w w1 : World} {st : Nat} (h : Holds W st w) (k : Ext w w1) : Holds W st w1 := by
  obtain ⟨c, f, z⟩ := k.cells
  exact ⟨fun b hb => z b (h.1 b hb), fun b o hb hs => (c b o (h.1 b hb)).trans (h.2.1 b o hb hs), fun o hs => by rw [c st o (h.1 _ hs)]; exact h.2.2.1 o hs, fun b o hb => (f b o (h.1 b hb)).trans (h.2.2.2 b o hb)⟩
theorem Holds.alloc {W w : World} {st : Nat} (h : Holds W st w) (o : Obj) : Holds W st (w.alloc o) := h.ext ((Ext.refl w).alloc o)
theorem Holds.drew {W w : World} {st : Nat} (h : Holds W st w) : Holds W st w.drew := h.ext (Ext.refl w).drew
theorem Holds.set {W w : World} {st o : Nat} (h : Holds W st w) (v : Value) : Holds W st (w.setCell ⟨st, o, none⟩ v) := by
  have hz : (w.setCell ⟨st, o, none⟩ v).heap.size = w.heap.size := by simp [World.setCell]
  refine ⟨fun b hb => by rw [hz]; exact h.1 b hb, fun b o' hb hs => ?_, fun o' hs => ?_, fun b o' hb => ?_⟩
  · rw [← h.2.1 b o' hb hs]; exact World.cell?_of_block (w := w) (Below.heap_setCell _ _ _ _ (by exact hs))
  · rw [← h.2.2.1 o' hs]
    unfold World.cell? World.setCell
    simp only [Array.getElem?_modify, if_true]
    cases w.heap[st]? with
    | none => rfl
    | some ob =>
      cases ob <;> simp [Array.getElem?_setIfInBounds]
      split
      · rename_i c _ _ ho
        subst ho
        by_cases hc : o < c.size <;> simp [hc]
      · rfl
  · rw [← h.2.2.2 b o' hb]
    by_cases hs : b = st
    · subst hs
      unfold World.frozen? World.setCell
      simp only [Array.getElem?_modify, if_true]
      cases w.heap[b]? with
      | none => rfl
      | some ob => cases ob <;> simp
    · exact World.frozen?_of_block (w := w) (Below.heap_setCell _ _ _ _ (by exact hs))

theorem name_world {R : World → Prop} {w : World} (h : ∀ W, Ext w W → (∀ b o, W.cell? ⟨b, o, none⟩ = w.cell? ⟨b, o, none⟩) → (∀ b o, W.frozen? ⟨b, o, none⟩ = w.frozen? ⟨b, o, none⟩) → W.heap.size = w.heap.size → R W) : R w := h w (Ext.refl w) (fun _ _ => rfl) (fun _ _ => rfl) rfl
/-- A store into a cell that is there. -/
theorem stored_there {P : Program} {w : World} {a : Addr} {v : Value} {m : Mode} (h : (w.cell? a).isSome = true) (hf : w.frozen? a = false) : stored P w a v m = .ok () (w.setCell a v) := by
  obtain ⟨u, hu⟩ := Option.isSome_iff_exists.1 h
  simp [stored, hu, hf]
/-- The same, behind the walk's own unfolding. -/
theorem stored_match {x : Option Value} {r : Result Unit} {g : Unit → Result Unit} (h : x.isSome = true) : stored.match_2 (fun _ => Result Unit) x (fun _ => r) g = r := by
  obtain ⟨u, rfl⟩ := Option.isSome_iff_exists.1 h
  rfl
/-- A cell of a block is there behind a store, too. -/
theorem isSome_setCell (w : World) (p q : Addr) (v : Value) : ((w.setCell p v).cell? q).isSome = (w.cell? q).isSome := by
  unfold World.cell? World.setCell
  simp only [Array.getElem?_modify]
  by_cases h : p.block = q.block
  · rw [if_pos h]
    cases w.heap[q.block]? with
    | none => rfl
    | some ob =>
      cases ob <;> simp only [Option.map_some]
      by_cases hq : q.spot.isSome = true
      · simp [hq]
      · simp only [hq]
        by_cases hp : p.spot.isSome = true
        · simp [hp]
        · simp only [hp, Bool.false_eq_true, if_false, Array.getElem?_setIfInBounds]
          rename_i c _ _
          by_cases ho : p.off = q.off
          · rw [if_pos ho]
            by_cases hc : q.off < c.size <;> simp [ho, hc]
          · rw [if_neg ho]
  · rw [if_neg h]

/-- A slice value of a world, at address A with n elements, reads as a list whose elements take k cells each. -/
structure Rows {α : Type} (k : Nat) (enc : α → List Value) (w : World) (A : Option Addr) (n : Nat) (xs : List α) : Prop where
  len : xs.length = n
  small : n ≤ 140737488351232
  cells : 0 < n → ∃ b off, A = some ⟨b, off, none⟩ ∧ b < w.heap.size ∧ ∀ j (h : j < xs.length) i, i < k → w.cell? ⟨b, off + j * k + i, none⟩ = (enc xs[j])[i]?
theorem Rows.ext {α : Type} {k : Nat} {enc : α → List Value} {w w' : World} {A : Option Addr} {n : Nat} {xs : List α} (h : Rows k enc w A n xs) (e : Ext w w') : Rows k enc w' A n xs := by
  refine ⟨h.len, h.small, fun hn => ?_⟩
  obtain ⟨b, off, rfl, hb, hc⟩ := h.cells hn
  obtain ⟨ec, _, ez⟩ := e.cells
  exact ⟨b, off, rfl, ez b hb, fun j hj i hi => (ec _ _ hb).trans (hc j hj i hi)⟩
theorem Rows.nil {α : Type} (k : Nat) (enc : α → List Value) (w : World) (A : Option Addr) : Rows k enc w A 0 [] := ⟨rfl, by omega, fun h => absurd h (by omega)⟩

section
variable {w : World} {A : Option Addr} {n : Nat}
theorem Rows.int {xs : List Int} (h : Rows 1 encInt w A n xs) {j : Nat} (hj : j < n) : ∃ b off, A = some ⟨b, off, none⟩ ∧ b < w.heap.size ∧ w.cell? ⟨b, off + j, none⟩ = some (.int .i64 (xs[j]'(by rw [h.len]; exact hj))) := by
  obtain ⟨b, off, e, hb, hc⟩ := h.cells (by omega)
  exact ⟨b, off, e, hb, by have := hc j (by rw [h.len]; exact hj) 0 (by omega); rw [Nat.mul_one, Nat.add_zero] at this; exact this⟩
theorem Rows.span {xs : List Span} (h : Rows 2 Span.enc w A n xs) {j : Nat} (hj : j < n) {x : Span} (hx : xs[j]? = some x) : ∃ b off, A = some ⟨b, off, none⟩ ∧ b < w.heap.size ∧
    w.cell? ⟨b, off + j * 2, none⟩ = some (.int .i64 x.lo) ∧ w.cell? ⟨b, off + j * 2 + 1, none⟩ = some (.int .i64 x.hi) := by
  obtain ⟨b, off, e, hb, hc⟩ := h.cells (by omega)
  obtain ⟨hj', rfl⟩ := List.getElem?_eq_some_iff.1 hx
  exact ⟨b, off, e, hb, hc j hj' 0 (by omega), hc j hj' 1 (by omega)⟩
theorem Rows.leg {xs : List Leg} (h : Rows 3 Leg.enc w A n xs) {j : Nat} (hj : j < n) {x : Leg} (hx : xs[j]? = some x) : ∃ b off, A = some ⟨b, off, none⟩ ∧ b < w.heap.size ∧
    w.cell? ⟨b, off + j * 3, none⟩ = some (.int .i64 x.a) ∧ w.cell? ⟨b, off + j * 3 + 1, none⟩ = some (.int .i64 x.b) ∧ w.cell? ⟨b, off + j * 3 + 2, none⟩ = some (.int .i64 x.t) := by
  obtain ⟨b, off, e, hb, hc⟩ := h.cells (by omega)
  obtain ⟨hj', rfl⟩ := List.getElem?_eq_some_iff.1 hx
  exact ⟨b, off, e, hb, hc j hj' 0 (by omega), hc j hj' 1 (by omega), hc j hj' 2 (by omega)⟩
theorem Rows.haven {xs : List Haven} (h : Rows 3 Haven.enc w A n xs) {j : Nat} (hj : j < n) {x : Haven} (hx : xs[j]? = some x) : ∃ b off, A = some ⟨b, off, none⟩ ∧ b < w.heap.size ∧
    w.cell? ⟨b, off + j * 3, none⟩ = some (.int .i64 x.place) ∧ w.cell? ⟨b, off + j * 3 + 1, none⟩ = some (.int .i64 x.at_) ∧ w.cell? ⟨b, off + j * 3 + 2, none⟩ = some (.bool x.back) := by
  obtain ⟨b, off, e, hb, hc⟩ := h.cells (by omega)
  obtain ⟨hj', rfl⟩ := List.getElem?_eq_some_iff.1 hx
  exact ⟨b, off, e, hb, hc j hj' 0 (by omega), hc j hj' 1 (by omega), hc j hj' 2 (by omega)⟩
theorem Rows.fc {xs : List Fc} (h : Rows 12 Fc.enc w A n xs) {j : Nat} (hj : j < n) {x : Fc} (hx : xs[j]? = some x) : ∃ b off, A = some ⟨b, off, none⟩ ∧ b < w.heap.size ∧
    w.cell? ⟨b, off + j * 12, none⟩ = some (.int .i64 x.place) ∧ w.cell? ⟨b, off + j * 12 + 1, none⟩ = some (.int .i64 x.fr) ∧ w.cell? ⟨b, off + j * 12 + 2, none⟩ = some (.int .i64 x.to) ∧ w.cell? ⟨b, off + j * 12 + 3, none⟩ = some (.int .i64 x.issued) ∧
    w.cell? ⟨b, off + j * 12 + 4, none⟩ = some (.int .i64 x.sky.w.lo) ∧ w.cell? ⟨b, off + j * 12 + 5, none⟩ = some (.int .i64 x.sky.w.hi) ∧ w.cell? ⟨b, off + j * 12 + 6, none⟩ = some (.int .i64 x.sky.s.lo) ∧ w.cell? ⟨b, off + j * 12 + 7, none⟩ = some (.int .i64 x.sky.s.hi) ∧
    w.cell? ⟨b, off + j * 12 + 8, none⟩ = some (.int .i64 x.sky.c.lo) ∧ w.cell? ⟨b, off + j * 12 + 9, none⟩ = some (.int .i64 x.sky.c.hi) ∧ w.cell? ⟨b, off + j * 12 + 10, none⟩ = some (.bool x.sky.ice) ∧ w.cell? ⟨b, off + j * 12 + 11, none⟩ = some (.bool x.sky.storm) := by
  obtain ⟨b, off, e, hb, hc⟩ := h.cells (by omega)
  obtain ⟨hj', rfl⟩ := List.getElem?_eq_some_iff.1 hx
  exact ⟨b, off, e, hb, hc j hj' 0 (by omega), hc j hj' 1 (by omega), hc j hj' 2 (by omega), hc j hj' 3 (by omega), hc j hj' 4 (by omega), hc j hj' 5 (by omega), hc j hj' 6 (by omega), hc j hj' 7 (by omega), hc j hj' 8 (by omega), hc j hj' 9 (by omega), hc j hj' 10 (by omega), hc j hj' 11 (by omega)⟩
theorem Rows.sight {xs : List Sight} (h : Rows 7 Sight.enc w A n xs) {j : Nat} (hj : j < n) {x : Sight} (hx : xs[j]? = some x) : ∃ b off, A = some ⟨b, off, none⟩ ∧ b < w.heap.size ∧
    w.cell? ⟨b, off + j * 7, none⟩ = some (.int .i64 x.place) ∧ w.cell? ⟨b, off + j * 7 + 1, none⟩ = some (.int .i64 x.at_) ∧ w.cell? ⟨b, off + j * 7 + 2, none⟩ = some (.int .i64 x.now.wind) ∧ w.cell? ⟨b, off + j * 7 + 3, none⟩ = some (.int .i64 x.now.see) ∧
    w.cell? ⟨b, off + j * 7 + 4, none⟩ = some (.int .i64 x.now.ceil) ∧ w.cell? ⟨b, off + j * 7 + 5, none⟩ = some (.bool x.now.ice) ∧ w.cell? ⟨b, off + j * 7 + 6, none⟩ = some (.bool x.now.storm) := by
  obtain ⟨b, off, e, hb, hc⟩ := h.cells (by omega)
  obtain ⟨hj', rfl⟩ := List.getElem?_eq_some_iff.1 hx
  exact ⟨b, off, e, hb, hc j hj' 0 (by omega), hc j hj' 1 (by omega), hc j hj' 2 (by omega), hc j hj' 3 (by omega), hc j hj' 4 (by omega), hc j hj' 5 (by omega), hc j hj' 6 (by omega)⟩
end

/-- A met in a world: its forecasts and its sights. -/
structure MetIn (w : World) (m : Met) (AF : Option Addr) (nF : Nat) (AS : Option Addr) (nS : Nat) : Prop where
  fcs : Rows 12 Fc.enc w AF nF m.fcs
  sights : Rows 7 Sight.enc w AS nS m.sights
theorem MetIn.ext {w w' : World} {m : Met} {AF AS : Option Addr} {nF nS : Nat} (h : MetIn w m AF nF AS nS) (e : Ext w w') : MetIn w' m AF nF AS nS := ⟨h.fcs.ext e, h.sights.ext e⟩

/-- The world has grown, and at most the cells of block p have turned. -/
structure ExtBut (p : Nat) (w w' : World) : Prop where
  os : w'.os = w.os
  tape : w'.tape = w.tape
  output : w'.output = w.output
  size : w.heap.size ≤ w'.heap.size
  block : ∀ k, k < w.heap.size → k ≠ p → w'.heap[k]? = w.heap[k]?
  frozen : p < w.heap.size → ∀ o, w'.frozen? ⟨p, o, none⟩ = w.frozen? ⟨p, o, none⟩
theorem Ext.but {w w' : World} (h : Ext w w') (p : Nat) : ExtBut p w w' := ⟨h.below.os, h.below.tape, h.below.output, h.below.size, fun k hk _ => h.below.block k hk, fun hp o => h.below.frozen (p := ⟨p, o, none⟩) hp⟩
theorem ExtBut.refl (p : Nat) (w : World) : ExtBut p w w := (Ext.refl w).but p
theorem ExtBut.trans {p : Nat} {a b c : World} (h : ExtBut p a b) (k : ExtBut p b c) : ExtBut p a c :=
  ⟨k.os.trans h.os, k.tape.trans h.tape, k.output.trans h.output, Nat.le_trans h.size k.size, fun i hi hp => (k.block i (Nat.lt_of_lt_of_le hi h.size) hp).trans (h.block i hi hp), fun hp o => (k.frozen (Nat.lt_of_lt_of_le hp h.size) o).trans (h.frozen hp o)⟩
theorem ExtBut.ext {p : Nat} {a b c : World} (h : Ext a b) (k : ExtBut p b c) (hp : a.heap.size ≤ p) : Ext a c :=
  ⟨⟨k.os.trans h.below.os, k.tape.trans h.below.tape, k.output.trans h.below.output, Nat.le_trans h.size k.size, fun i hi => (k.block i (Nat.lt_of_lt_of_le hi h.size) (by omega)).trans (h.below.block i hi)⟩⟩
theorem ExtBut.set {p : Nat} {a w : World} (h : ExtBut p a w) (o : Nat) (v : Value) : ExtBut p a (w.setCell ⟨p, o, none⟩ v) := by
  refine h.trans ⟨rfl, rfl, rfl, by simp [World.setCell], fun k _ hp => Below.heap_setCell _ _ _ _ hp, fun _ o' => ?_⟩
  unfold World.frozen? World.setCell
  simp only [Array.getElem?_modify, if_true]
  cases w.heap[p]? with
  | none => rfl
  | some ob => cases ob <;> simp
theorem ExtBut.drew {p : Nat} {a w : World} (h : ExtBut p a w) : ExtBut p a w.drew := h.trans ((Ext.refl w).drew.but p)
theorem ExtBut.drewN {p : Nat} {a w : World} (h : ExtBut p a w) (n : Nat) : ExtBut p a (w.drewN n) := h.trans (((Ext.refl w).drewN n).but p)
theorem ExtBut.alloc {p : Nat} {a w : World} (h : ExtBut p a w) (o : Obj) : ExtBut p a (w.alloc o) := h.trans (((Ext.refl w).alloc o).but p)
theorem ExtBut.set' {p : Nat} {a w : World} (h : ExtBut p a w) {b : Nat} (o : Nat) (v : Value) (hb : a.heap.size ≤ b) (hp : p < a.heap.size) : ExtBut p a (w.setCell ⟨b, o, none⟩ v) := by
  refine ⟨h.os, h.tape, h.output, by simp [World.setCell]; exact h.size, fun k hk hkp => (Below.heap_setCell _ _ _ _ (by show k ≠ b; omega)).trans (h.block k hk hkp), fun hq o' => ?_⟩
  rw [← h.frozen hq o']
  exact World.frozen?_of_block (w := w) (Below.heap_setCell _ _ _ _ (by show p ≠ b; omega))
theorem ExtBut.cells {p : Nat} {W w1 : World} (hb : ExtBut p W w1) : (∀ b o, b < W.heap.size → b ≠ p → w1.cell? ⟨b, o, none⟩ = W.cell? ⟨b, o, none⟩) ∧ (∀ b o, b < W.heap.size → w1.frozen? ⟨b, o, none⟩ = W.frozen? ⟨b, o, none⟩) ∧ (∀ b, b < W.heap.size → b < w1.heap.size) := by
  refine ⟨fun b o h hp => World.cell?_of_block (w := W) (hb.block b h hp), fun b o h => ?_, fun _ h => Nat.lt_of_lt_of_le h hb.size⟩
  by_cases hp : b = p
  · subst hp; exact hb.frozen h o
  · exact World.frozen?_of_block (w := W) (hb.block b h hp)
theorem Holds.but {W w w1 : World} {st : Nat} (h : Holds W st w) (k : ExtBut st w w1) (hs : ∀ o, st < W.heap.size → (w1.cell? ⟨st, o, none⟩).isSome = (w.cell? ⟨st, o, none⟩).isSome) : Holds W st w1 := by
  obtain ⟨c, f, z⟩ := k.cells
  exact ⟨fun b hb => z b (h.1 b hb), fun b o hb hp => (c b o (h.1 b hb) hp).trans (h.2.1 b o hb hp), fun o ho => (hs o ho).trans (h.2.2.1 o ho), fun b o hb => (f b o (h.1 b hb)).trans (h.2.2.2 b o hb)⟩
theorem Holds.fresh {W w : World} {st b o : Nat} (h : Holds W st w) (hb : W.heap.size ≤ b) (v : Value) : Holds W st (w.setCell ⟨b, o, none⟩ v) := by
  have hz : (w.setCell ⟨b, o, none⟩ v).heap.size = w.heap.size := by simp [World.setCell]
  have hk : ∀ k, k < W.heap.size → (w.setCell ⟨b, o, none⟩ v).heap[k]? = w.heap[k]? := fun k hk => Below.heap_setCell _ _ _ _ (by show k ≠ b; omega)
  exact ⟨fun b hb => by rw [hz]; exact h.1 b hb, fun b' o' hb' hs => by rw [← h.2.1 b' o' hb' hs]; exact World.cell?_of_block (w := w) (hk _ hb'), fun o' hs => by rw [← h.2.2.1 o' hs]; rw [World.cell?_of_block (w := w) (hk _ hs)], fun b' o' hb' => by rw [← h.2.2.2 b' o' hb']; exact World.frozen?_of_block (w := w) (hk _ hb')⟩

/-- The same without such a block. -/
@[reducible] def HoldsAll (W w : World) : Prop :=
  (∀ b, b < W.heap.size → b < w.heap.size) ∧ (∀ b o, b < W.heap.size → w.cell? ⟨b, o, none⟩ = W.cell? ⟨b, o, none⟩) ∧ (∀ b o, b < W.heap.size → w.frozen? ⟨b, o, none⟩ = W.frozen? ⟨b, o, none⟩)
theorem HoldsAll.refl (W : World) : HoldsAll W W := ⟨fun _ h => h, fun _ _ _ => rfl, fun _ _ _ => rfl⟩
theorem HoldsAll.ext {W w w1 : World} (h : HoldsAll W w) (k : Ext w w1) : HoldsAll W w1 := by
  obtain ⟨c, f, z⟩ := k.cells
  exact ⟨fun b hb => z b (h.1 b hb), fun b o hb => (c b o (h.1 b hb)).trans (h.2.1 b o hb), fun b o hb => (f b o (h.1 b hb)).trans (h.2.2 b o hb)⟩
theorem HoldsAll.alloc {W w : World} (h : HoldsAll W w) (o : Obj) : HoldsAll W (w.alloc o) := h.ext ((Ext.refl w).alloc o)
theorem HoldsAll.drew {W w : World} (h : HoldsAll W w) : HoldsAll W w.drew := h.ext (Ext.refl w).drew
theorem HoldsAll.fresh {W w : World} {b o : Nat} (h : HoldsAll W w) (hb : W.heap.size ≤ b) (v : Value) : HoldsAll W (w.setCell ⟨b, o, none⟩ v) := by
  have hz : (w.setCell ⟨b, o, none⟩ v).heap.size = w.heap.size := by simp [World.setCell]
  have hk : ∀ k, k < W.heap.size → (w.setCell ⟨b, o, none⟩ v).heap[k]? = w.heap[k]? := fun k hk => Below.heap_setCell _ _ _ _ (by show k ≠ b; omega)
  exact ⟨fun b hb => by rw [hz]; exact h.1 b hb, fun b' o' hb' => by rw [← h.2.1 b' o' hb']; exact World.cell?_of_block (w := w) (hk _ hb'), fun b' o' hb' => by rw [← h.2.2 b' o' hb']; exact World.frozen?_of_block (w := w) (hk _ hb')⟩

theorem HoldsAll.realloc {W w : World} {o o' : Obj} (h : HoldsAll W (w.alloc o)) (hs : W.heap.size ≤ w.heap.size) : HoldsAll W (w.alloc o') := by
  have hk : ∀ k, k < W.heap.size → (w.alloc o').heap[k]? = (w.alloc o).heap[k]? := fun k hk => by rw [Below.heap_alloc _ _ _ (by omega), Below.heap_alloc _ _ _ (by omega)]
  exact ⟨fun b hb => by have := h.1 b hb; simp at this ⊢; exact this, fun b o hb => by rw [← h.2.1 b o hb]; exact World.cell?_of_block (w := w.alloc _) (hk b hb), fun b o hb => by rw [← h.2.2 b o hb]; exact World.frozen?_of_block (w := w.alloc _) (hk b hb)⟩
theorem Holds.realloc {W w : World} {st : Nat} {o o' : Obj} (h : Holds W st (w.alloc o)) (hs : W.heap.size ≤ w.heap.size) : Holds W st (w.alloc o') := by
  have hk : ∀ k, k < W.heap.size → (w.alloc o').heap[k]? = (w.alloc o).heap[k]? := fun k hk => by rw [Below.heap_alloc _ _ _ (by omega), Below.heap_alloc _ _ _ (by omega)]
  exact ⟨fun b hb => by have := h.1 b hb; simp at this ⊢; exact this, fun b o hb hn => by rw [← h.2.1 b o hb hn]; exact World.cell?_of_block (w := w.alloc _) (hk b hb), fun o hb => by rw [← h.2.2.1 o hb]; rw [World.cell?_of_block (w := w.alloc _) (hk st hb)], fun b o hb => by rw [← h.2.2.2 b o hb]; exact World.frozen?_of_block (w := w.alloc _) (hk b hb)⟩

theorem HoldsAll.of_drew {W w : World} (h : HoldsAll W w.drew) : HoldsAll W w := h
theorem Holds.of_drew {W w : World} {st : Nat} (h : Holds W st w.drew) : Holds W st w := h

/-- Two cells of block p have been written; nothing else that was there has turned. -/
structure Put2 (p o : Nat) (x : Span) (w w' : World) : Prop where
  lo : w'.cell? ⟨p, o, none⟩ = some (.int .i64 x.lo)
  hi : w'.cell? ⟨p, o + 1, none⟩ = some (.int .i64 x.hi)
  same : ∀ o', o' ≠ o → o' ≠ o + 1 → w'.cell? ⟨p, o', none⟩ = w.cell? ⟨p, o', none⟩
  but : ExtBut p w w'
  some_ : p < w.heap.size → ∀ o', (w'.cell? ⟨p, o', none⟩).isSome = (w.cell? ⟨p, o', none⟩).isSome
theorem Holds.put {W w w1 : World} {st o : Nat} {x : Span} (h : Holds W st w) (k : Put2 st o x w w1) : Holds W st w1 := h.but k.but (fun o' ho => k.some_ (h.1 _ ho) o')
theorem cell_set_ne (w : World) {p o b o' : Nat} (v : Value) (h : b ≠ p ∨ o' ≠ o) : (w.setCell ⟨p, o, none⟩ v).cell? ⟨b, o', none⟩ = w.cell? ⟨b, o', none⟩ := by
  by_cases hb : b = p
  · subst hb
    unfold World.cell? World.setCell
    simp only [Array.getElem?_modify, if_true]
    cases w.heap[b]? with
    | none => rfl
    | some ob =>
      cases ob <;> simp
      rw [Array.getElem?_setIfInBounds, if_neg (by omega)]
  · exact World.cell?_of_block (w := w) (Below.heap_setCell _ _ _ _ hb)
theorem cell_set_eq (w : World) {p o : Nat} (v : Value) (h : (w.cell? ⟨p, o, none⟩).isSome = true) : (w.setCell ⟨p, o, none⟩ v).cell? ⟨p, o, none⟩ = some v := by
  obtain ⟨u, hu⟩ := Option.isSome_iff_exists.1 h
  exact World.cell?_setCell_same w _ v hu
theorem Put2.of {p o : Nat} {x : Span} {w w2 : World} (e : Ext w w2) (hp : p < w.heap.size) (h0 : (w.cell? ⟨p, o, none⟩).isSome = true) (h1 : (w.cell? ⟨p, o + 1, none⟩).isSome = true) :
    Put2 p o x w ((w2.setCell ⟨p, o, none⟩ (.int .i64 x.lo)).setCell ⟨p, o + 1, none⟩ (.int .i64 x.hi)) := by
  obtain ⟨c, _, _⟩ := e.cells
  refine ⟨?_, ?_, fun o' h2 h3 => ?_, ((e.but p).set _ _).set _ _, fun _ o' => by rw [isSome_setCell, isSome_setCell, c _ _ hp]⟩
  · rw [cell_set_ne _ _ (Or.inr (by omega)), cell_set_eq _ _ (by rw [c _ _ hp]; exact h0)]
  · rw [cell_set_eq _ _ (by rw [isSome_setCell, c _ _ hp]; exact h1)]
  · rw [cell_set_ne _ _ (Or.inr h3), cell_set_ne _ _ (Or.inr h2), c _ _ hp]

abbrev encN (i : Nat) : Value := .int .i64 (i : Int)
/-- A row of whole numbers that the call itself has made: block g, with room for cap. -/
structure OwnN (w : World) (g cap : Nat) (L : List Nat) : Prop where
  blk : ∃ cur, w.heap[g]? = some (.cells cur 3 (0, 0)) ∧ cur.size = cap ∧ cur.toList.take L.length = L.map encN
  len : L.length ≤ cap
  small : cap ≤ maxLen
theorem OwnN.lt {w : World} {g cap : Nat} {L : List Nat} (h : OwnN w g cap L) : g < w.heap.size := by
  obtain ⟨cur, hh, _⟩ := h.blk
  exact (Array.getElem?_eq_some_iff.1 hh).1
theorem OwnN.cell {w : World} {g cap : Nat} {L : List Nat} (h : OwnN w g cap L) {j v : Nat} (hj : L[j]? = some v) : w.cell? ⟨g, j, none⟩ = some (.int .i64 v) := by
  obtain ⟨cur, hh, _, ht⟩ := h.blk
  have hl : j < L.length := (List.getElem?_eq_some_iff.1 hj).1
  have e : (cur.toList.take L.length)[j]? = some (iv v) := by rw [ht, List.getElem?_map, hj]; rfl
  rw [List.getElem?_take_of_lt hl] at e
  simp only [World.cell?, hh]
  simpa using e
theorem OwnN.free {w : World} {g cap : Nat} {L : List Nat} (h : OwnN w g cap L) (j : Nat) : w.frozen? ⟨g, j, none⟩ = false := by
  obtain ⟨cur, hh, _⟩ := h.blk
  simp [World.frozen?, hh]
theorem OwnN.of_block {w w' : World} {g cap : Nat} {L : List Nat} (h : OwnN w g cap L) (e : w'.heap[g]? = w.heap[g]?) : OwnN w' g cap L := by
  obtain ⟨cur, hh, r⟩ := h.blk
  exact ⟨⟨cur, e.trans hh, r⟩, h.len, h.small⟩
theorem OwnN.ext {w w' : World} {g cap : Nat} {L : List Nat} (h : OwnN w g cap L) (e : Ext w w') : OwnN w' g cap L := h.of_block (e.below.block g h.lt)
theorem OwnN.drewN {w : World} {g cap : Nat} {L : List Nat} (h : OwnN w g cap L) (n : Nat) : OwnN (w.drewN n) g cap L := h.of_block rfl
theorem OwnN.set {w : World} {g cap : Nat} {L : List Nat} (h : OwnN w g cap L) {j : Nat} (hj : j < L.length) (v : Nat) : OwnN (w.setCell ⟨g, j, none⟩ (.int .i64 v)) g cap (L.set j v) := by
  obtain ⟨cur, hh, hs, ht⟩ := h.blk
  refine ⟨⟨cur.setIfInBounds j (iv v), ?_, by simpa using hs, ?_⟩, by simpa using h.len, h.small⟩
  · unfold World.setCell
    simp only [Array.getElem?_modify, if_true, hh]
    rfl
  · simp only [Array.toList_setIfInBounds, List.length_set]
    rw [List.take_set, ht, List.map_set]
theorem OwnN.of_owns {w : World} {base : Nat} {v : Value} {L : List Nat} (h : w.ownsRow base 3 1 v L.length (L.map encN)) (hL : L ≠ []) :
    ∃ g cap, v = .slice (some ⟨g, 0, none⟩) L.length cap ∧ base ≤ g ∧ OwnN w g cap L := by
  rcases h.2 with ⟨rfl, h0⟩ | ⟨g, cap, cur, rfl, hb, hh, hn, hm, hs, ht⟩
  · exact absurd (List.length_eq_zero_iff.1 h0) hL
  · exact ⟨g, cap, rfl, hb, ⟨cur, hh, by omega, by rw [Nat.mul_one] at ht; exact ht⟩, hn, hm⟩
theorem OwnN.owns {w : World} {base g cap : Nat} {L : List Nat} (h : OwnN w g cap L) (hb : base ≤ g) : w.ownsRow base 3 1 (.slice (some ⟨g, 0, none⟩) L.length cap) L.length (L.map encN) := by
  obtain ⟨cur, hh, hs, ht⟩ := h.blk
  exact ⟨by simp, .inr ⟨g, cap, cur, rfl, hb, hh, h.len, h.small, by omega, by rw [Nat.mul_one]; exact ht⟩⟩

theorem ret_int {k : IntKind} {a b : Int} (h : a = b) : Ending.returned (.int k a) = .returned (.int k b) := by rw [h]
theorem ret_bool {a b : Bool} (h : a = b) : Ending.returned (.bool a) = .returned (.bool b) := by rw [h]
end Go.Proofs.YtmmimbcfgobnaaaGreat
