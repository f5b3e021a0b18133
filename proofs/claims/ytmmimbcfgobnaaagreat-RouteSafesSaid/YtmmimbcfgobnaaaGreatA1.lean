/- append(v, x) of one element to a row of the call's own, for elements of any number of cells. -/
import Derived.Test.YtmmimbcfgobnaaaGreatB0
import Derived.Maps.AppendAt
set_option linter.unusedVariables false
set_option linter.unusedSimpArgs false
namespace Go.Proofs.YtmmimbcfgobnaaaGreat
open Go.RowKit
set_option linter.unusedVariables false
set_option linter.unusedSimpArgs false

/-- A slice type t of elements of type e, of k cells and so many bytes each. -/
structure ElemT (t e : TypeId) (k bytes : Nat) : Prop where
  slice : Tryz.prog.underlying t = some (.slice e)
  info : ∃ i z, Tryz.prog.info? e = some i ∧ i.zero = some z ∧ i.size = k ∧ i.bytes = bytes ∧ z.cells.size = k
  pos : 0 < k
  few : bytes ≤ 1000
theorem ElemT.mk' {t e : TypeId} {k bytes : Nat} {z : Value} (hs : Tryz.prog.underlying t = some (.slice e)) (h : (Tryz.prog.info? e).map (fun i => (i.zero, i.size, i.bytes)) = some (some z, k, bytes)) (hz : z.cells.size = k) (hk : 0 < k) (hb : bytes ≤ 1000) : ElemT t e k bytes := by
  obtain ⟨i, h1, h2, h3, h4⟩ := info_parts h
  exact ⟨hs, ⟨i, z, h1, h2, h3, h4, hz⟩, hk, hb⟩
theorem e_int : ElemT 35 3 1 8 := ElemT.mk' (z := .int .i64 0) (by kernel_rfl) (by kernel_rfl) rfl (by omega) (by omega)
theorem e_haven : ElemT 40 46 3 24 := ElemT.mk' (z := .agg #[.int .i64 0, .int .i64 0, .bool false]) (by kernel_rfl) (by kernel_rfl) rfl (by omega) (by omega)

/-- The list of cells of a row. -/
def cellsOf {α : Type} (enc : α → List Value) (L : List α) : List Value := L.flatMap enc
theorem cellsOf_append {α : Type} (enc : α → List Value) (L M : List α) : cellsOf enc (L ++ M) = cellsOf enc L ++ cellsOf enc M := by simp [cellsOf]
theorem cellsOf_one {α : Type} (enc : α → List Value) (x : α) : cellsOf enc [x] = enc x := by simp [cellsOf]
theorem cellsOf_N (L : List Nat) : cellsOf (fun i => [encN i]) L = L.map encN := by
  induction L with
  | nil => rfl
  | cons a t ih => simp only [cellsOf, List.flatMap_cons, List.map_cons] at *; rw [ih]; rfl
theorem cellsOf_length {α : Type} {k : Nat} (enc : α → List Value) (hk : ∀ x, (enc x).length = k) (L : List α) : (cellsOf enc L).length = L.length * k := by
  induction L with
  | nil => simp [cellsOf]
  | cons a t ih => simp only [cellsOf, List.flatMap_cons, List.length_append, List.length_cons] at *; rw [ih, hk, Nat.add_mul]; omega
theorem cellsOf_at {α : Type} {k : Nat} (enc : α → List Value) (hk : ∀ x, (enc x).length = k) : ∀ (L : List α) (j : Nat) (h : j < L.length) (i : Nat), i < k → (cellsOf enc L)[j * k + i]? = (enc L[j])[i]?
  | a :: t, 0, _, i, hi => by
    simp only [cellsOf, List.flatMap_cons, Nat.zero_mul, Nat.zero_add, List.getElem_cons_zero]
    rw [List.getElem?_append_left (by rw [hk]; exact hi)]
  | a :: t, j + 1, h, i, hi => by
    have ih := cellsOf_at enc hk t j (by simpa using h) i hi
    simp only [cellsOf, List.flatMap_cons, List.getElem_cons_succ] at *
    rw [List.getElem?_append_right (by rw [hk, Nat.add_mul]; omega), hk, ← ih]
    congr 1
    rw [Nat.add_mul]; omega

/-- A slice that the call owns: blocks from base on. -/
def Owns {α : Type} (e : TypeId) (k : Nat) (enc : α → List Value) (w : World) (base : Nat) (v : Value) (L : List α) : Prop := w.ownsRow base e k v L.length (cellsOf enc L)
theorem Owns.nil {α : Type} (e : TypeId) (k : Nat) (enc : α → List Value) (w : World) (base : Nat) : Owns e k enc w base (.slice none 0 0) ([] : List α) := by
  have := w.ownsRow_nil base e k
  exact this
theorem Owns.kept {α : Type} {e : TypeId} {k : Nat} {enc : α → List Value} {w w' : World} {base : Nat} {v : Value} {L : List α} (h : Owns e k enc w base v L) (hb : ∀ g, v.ownBlock = some g → w'.heap[g]? = w.heap[g]?) : Owns e k enc w' base v L := by
  obtain ⟨h1, h2⟩ := h
  refine ⟨h1, ?_⟩
  rcases h2 with h2 | ⟨g, cap, cur, rfl, hg, hh, r⟩
  · exact .inl h2
  · exact .inr ⟨g, cap, cur, rfl, hg, by rw [hb g rfl]; exact hh, r⟩
theorem Owns.lt {α : Type} {e : TypeId} {k : Nat} {enc : α → List Value} {w : World} {base : Nat} {v : Value} {L : List α} (h : Owns e k enc w base v L) {g : Nat} (hg : v.ownBlock = some g) : base ≤ g ∧ g < w.heap.size := World.ownsRow.lt h g hg
theorem Owns.ext {α : Type} {e : TypeId} {k : Nat} {enc : α → List Value} {w w' : World} {base : Nat} {v : Value} {L : List α} (h : Owns e k enc w base v L) (x : Ext w w') : Owns e k enc w' base v L :=
  h.kept fun g hg => x.below.block g (h.lt hg).2
theorem Owns.but {α : Type} {e : TypeId} {k : Nat} {enc : α → List Value} {w w' : World} {base p : Nat} {v : Value} {L : List α} (h : Owns e k enc w base v L) (x : ExtBut p w w') (hp : p < base) : Owns e k enc w' base v L :=
  h.kept fun g hg => x.block g (h.lt hg).2 (by have := (h.lt hg).1; omega)
theorem Owns.form {α : Type} {e : TypeId} {k : Nat} {enc : α → List Value} {w : World} {base : Nat} {v : Value} {L : List α} (h : Owns e k enc w base v L) :
    (L = [] ∧ v = .slice none 0 0) ∨ ∃ g cap, v = .slice (some ⟨g, 0, none⟩) L.length cap ∧ base ≤ g ∧ g < w.heap.size := by
  rcases h.2 with ⟨rfl, h0⟩ | ⟨g, cap, cur, rfl, hg, hh, r⟩
  · exact .inl ⟨List.length_eq_zero_iff.1 h0, rfl⟩
  · exact .inr ⟨g, cap, rfl, hg, (Array.getElem?_eq_some_iff.1 hh).1⟩
theorem Owns.rows {α : Type} {e : TypeId} {k : Nat} {enc : α → List Value} {w : World} {base : Nat} {v : Value} {L : List α} (h : Owns e k enc w base v L) (hk : ∀ x, (enc x).length = k) (hn : L.length ≤ 140737488351232) :
    ∃ A c, v = .slice A L.length c ∧ Rows k enc w A L.length L := by
  rcases h.2 with ⟨rfl, h0⟩ | ⟨g, cap, cur, rfl, hg, hh, hn2, hm, hs, ht⟩
  · have hL := List.length_eq_zero_iff.1 h0
    subst hL
    exact ⟨none, 0, rfl, Rows.nil _ _ _ _⟩
  · refine ⟨_, cap, rfl, rfl, hn, fun _ => ⟨g, 0, rfl, (Array.getElem?_eq_some_iff.1 hh).1, fun j hj i hi => ?_⟩⟩
    have h1 := cellsOf_at enc hk L j hj i hi
    rw [← h1, ← ht]
    have hlt : j * k + i < L.length * k := by
      have : (j + 1) * k ≤ L.length * k := Nat.mul_le_mul_right k hj
      rw [Nat.add_mul] at this; omega
    rw [List.getElem?_take_of_lt hlt]
    simp only [World.cell?, hh, Nat.zero_add]
    simp
theorem Owns.cell {α : Type} {e : TypeId} {k : Nat} {enc : α → List Value} {w : World} {base g cap n : Nat} {L : List α} (h : Owns e k enc w base (.slice (some ⟨g, 0, none⟩) n cap) L) (hk : ∀ x, (enc x).length = k) {j i : Nat} (hj : j < L.length) (hi : i < k) :
    w.cell? ⟨g, j * k + i, none⟩ = (enc L[j])[i]? ∧ w.frozen? ⟨g, j * k + i, none⟩ = false := by
  rcases h.2 with ⟨h0, _⟩ | ⟨g', cap', cur, he, hg, hh, hn2, hm, hs, ht⟩
  · simp at h0
  · simp only [Value.slice.injEq, Option.some.injEq, Addr.mk.injEq, and_true] at he
    obtain ⟨rfl, _, rfl⟩ := he
    have h1 := cellsOf_at enc hk L j hj i hi
    have hlt : j * k + i < L.length * k := by
      have : (j + 1) * k ≤ L.length * k := Nat.mul_le_mul_right k hj
      rw [Nat.add_mul] at this; omega
    refine ⟨?_, by simp [World.frozen?, hh]⟩
    rw [← h1, ← ht, List.getElem?_take_of_lt hlt]
    simp [World.cell?, hh]

/-- append(v, x): the new element lies in the block that has just been made. -/
theorem append_one {α : Type} {t e : TypeId} {k bytes : Nat} (E : ElemT t e k bytes) (enc : α → List Value) (hk : ∀ x, (enc x).length = k) (h1 : ∀ x, ∀ u ∈ enc x, u.oneCell' = true)
    {ops : Array Oper} {rest : List Oper} {o : Oper} {a : Act} {w : World} {Q : Exit → Act → World → Prop} (hgd : o.guard = none) (s x : Operand) (ho : o.op = .call { callee := .builtin .append, args := #[s, x], argTypes := #[t, t] })
    (base : Nat) (v : Value) (L : List α) (hs : a.eval s = v) (y : α) (cs : Array Value) (hcs : cs.toList = enc y) (g : Nat) (hx : a.eval x = .slice (some ⟨g, 0, none⟩) 1 1) (hgs : g = w.heap.size) (hown : Owns e k enc w base v L) (hb : base ≤ w.heap.size) (hn : L.length ≤ 1000000000)
    (h : ∀ v' w', Owns e k enc w' base v' (L ++ [y]) → (w.alloc (.cells cs e)).grownBy w' v.ownBlock → wpList Tryz.prog ops Q rest (a.put o.dst v') w') : wpList Tryz.prog ops Q (o :: rest) a (w.alloc (.cells cs e)) := by
  subst hgs
  obtain ⟨i, z, hi, hz, hsz, hby, hzs⟩ := E.info
  have hown' : (w.alloc (.cells cs e)).ownsRow base e k v L.length (cellsOf enc L) := Owns.ext (w' := w.alloc (.cells cs e)) hown ((Ext.refl w).alloc _)
  refine wpList_append_own (P := Tryz.prog) _ hgd s x t ho base e i z k bytes E.slice hi hz hsz hby hzs E.pos v L.length (cellsOf enc L) hs hown' ⟨w.heap.size, 0, none⟩ 1 1 (enc y) hx (by rw [hk]; omega) (fun j u hj => ?_) (h1 y) (by unfold maxLen; omega) ?_ (by simp; omega) fun v' w' h2 h3 h4 => h v' w' (by
      unfold Owns
      rw [cellsOf_append, cellsOf_one, List.length_append]
      exact h2) h3
  · have : (w.alloc (.cells cs e)).heap[w.heap.size]? = some (.cells cs e) := by show (w.heap.push _)[w.heap.size]? = _; simp
    have e1 : (⟨w.heap.size, 0, none⟩ : Addr).add j = ⟨w.heap.size, j, none⟩ := by unfold Addr.add; split <;> simp_all
    rw [e1]
    simp only [World.cell?, this]
    rw [← hj, ← hcs]
    simp
  · have := E.few
    calc (L.length + 1) * bytes ≤ (1000000000 + 1) * 1000 := Nat.mul_le_mul (by omega) this
      _ ≤ 140737488355328 := by omega
/-- What an append leaves: all below base but for the row itself. -/
theorem grown_ext {w w' : World} {base : Nat} {v : Value} {o : Obj} (B : World) (hB : Ext B w) (hbase : B.heap.size ≤ base) (hv : ∀ g, v.ownBlock = some g → base ≤ g) (h : (w.alloc o).grownBy w' v.ownBlock) : Ext B w' := by
  refine ⟨?_⟩
  have h1 : Below B.heap.size B (w.alloc o) := (hB.alloc o).below
  refine h1.grown h ?_ fun k hk => by have := hv k hk; omega
  have := hB.size
  simp; omega
theorem Rows.but {α : Type} {k : Nat} {enc : α → List Value} {w w' : World} {A : Option Addr} {n p : Nat} {xs : List α} (h : Rows k enc w A n xs) (e : ExtBut p w w') (hA : 0 < n → ∀ b off, A = some ⟨b, off, none⟩ → b ≠ p) : Rows k enc w' A n xs := by
  refine ⟨h.len, h.small, fun hn => ?_⟩
  obtain ⟨b, off, rfl, hb, hc⟩ := h.cells hn
  obtain ⟨ec, _, ez⟩ := e.cells
  exact ⟨b, off, rfl, ez b hb, fun j hj i hi => (ec _ _ hb (hA hn _ _ rfl)).trans (hc j hj i hi)⟩
theorem Rows.nat {w : World} {A : Option Addr} {n : Nat} {xs : List Nat} (h : Rows 1 (fun i => [encN i]) w A n xs) {j : Nat} (hj : j < n) {x : Nat} (hx : xs[j]? = some x) : ∃ b off, A = some ⟨b, off, none⟩ ∧ b < w.heap.size ∧ w.cell? ⟨b, off + j, none⟩ = some (.int .i64 (x : Int)) := by
  obtain ⟨b, off, e, hb, hc⟩ := h.cells (by omega)
  obtain ⟨hj', rfl⟩ := List.getElem?_eq_some_iff.1 hx
  exact ⟨b, off, e, hb, by have := hc j hj' 0 (by omega); rw [Nat.mul_one, Nat.add_zero] at this; exact this⟩
theorem grown_cells {w w' : World} {r : Option Nat} (h : w.grownBy w' r) : (∀ b o, b < w.heap.size → ¬ (some b = r) → w'.cell? ⟨b, o, none⟩ = w.cell? ⟨b, o, none⟩) ∧ (∀ b o, b < w.heap.size → ¬ (some b = r) → w'.frozen? ⟨b, o, none⟩ = w.frozen? ⟨b, o, none⟩) ∧ (∀ b, b < w.heap.size → b < w'.heap.size) :=
  ⟨fun b o hb hr => World.cell?_of_block (w := w) (h.block b hb hr), fun b o hb hr => World.frozen?_of_block (w := w) (h.block b hb hr), fun _ hb => Nat.lt_of_lt_of_le hb h.size⟩
theorem grown_but {w w' B : World} {p : Nat} {r : Option Nat} (h : w.grownBy w' r) (hB : ExtBut p B w) (hr : ∀ g, r = some g → B.heap.size ≤ g) (hp : ¬ (some p = r)) (hpl : p < w.heap.size) : ExtBut p B w' := by
  refine ⟨h.os.trans hB.os, h.tape.trans hB.tape, h.output.trans hB.output, Nat.le_trans hB.size h.size, fun k hk hkp => ?_, fun hq o => ?_⟩
  · rw [← hB.block k hk hkp]
    exact h.block k (Nat.lt_of_lt_of_le hk hB.size) (fun e => by have := hr k e.symm; omega)
  · rw [← hB.frozen hq o]
    exact World.frozen?_of_block (w := w) (h.block p hpl hp)
theorem Rows.block {α : Type} {k : Nat} {enc : α → List Value} {w : World} {A : Option Addr} {n : Nat} {xs : List α} (h : Rows k enc w A n xs) (hn : 0 < n) {b off : Nat} (hA : A = some ⟨b, off, none⟩) : b < w.heap.size := by
  obtain ⟨b', off', rfl, hb, _⟩ := h.cells hn
  simp only [Option.some.injEq, Addr.mk.injEq, and_true] at hA
  omega
/-- What a region may count on where one block is written by a callee. -/
@[reducible] def HoldsBut (W : World) (p : Nat) (w : World) : Prop :=
  (∀ b, b < W.heap.size → b < w.heap.size) ∧ (∀ b o, b < W.heap.size → b ≠ p → w.cell? ⟨b, o, none⟩ = W.cell? ⟨b, o, none⟩) ∧ (∀ b o, b < W.heap.size → w.frozen? ⟨b, o, none⟩ = W.frozen? ⟨b, o, none⟩)
theorem HoldsBut.refl (W : World) (p : Nat) : HoldsBut W p W := ⟨fun _ h => h, fun _ _ _ _ => rfl, fun _ _ _ => rfl⟩
theorem HoldsBut.but {W w w1 : World} {p : Nat} (h : HoldsBut W p w) (k : ExtBut p w w1) : HoldsBut W p w1 := by
  obtain ⟨c, f, z⟩ := k.cells
  exact ⟨fun b hb => z b (h.1 b hb), fun b o hb hp => (c b o (h.1 b hb) hp).trans (h.2.1 b o hb hp), fun b o hb => (f b o (h.1 b hb)).trans (h.2.2 b o hb)⟩
theorem HoldsBut.ext {W w w1 : World} {p : Nat} (h : HoldsBut W p w) (k : Ext w w1) : HoldsBut W p w1 := h.but (k.but p)
theorem HoldsBut.alloc {W w : World} {p : Nat} (h : HoldsBut W p w) (o : Obj) : HoldsBut W p (w.alloc o) := h.ext ((Ext.refl w).alloc o)
theorem HoldsBut.drew {W w : World} {p : Nat} (h : HoldsBut W p w) : HoldsBut W p w.drew := h.ext (Ext.refl w).drew
theorem HoldsBut.of_drew {W w : World} {p : Nat} (h : HoldsBut W p w.drew) : HoldsBut W p w := h
end Go.Proofs.YtmmimbcfgobnaaaGreat
