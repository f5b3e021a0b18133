/- Tables of the route: square, the closures of newNet. -/
import Derived.Test.YtmmimbcfgobnaaaGreatR0
import Derived.Test.YtmmimbcfgobnaaaGreatD0
set_option linter.unusedVariables false
set_option linter.unusedSimpArgs false
namespace Go.Proofs.YtmmimbcfgobnaaaGreat
open Go.RowKit
set_option linter.unusedVariables false
set_option linter.unusedSimpArgs false
attribute [local go_sem] stored_match isSome_setCell

/-- A table of n rows of n numbers, each row in a block of its own, all in blocks from lo to hi. -/
structure TabOwn (w : World) (lo hi g n : Nat) (r : Nat → Nat) (f : Tab) : Prop where
  g1 : lo ≤ g
  g2 : g < hi
  r1 : ∀ i, i < n → lo ≤ r i
  r2 : ∀ i, i < n → r i < hi
  rg : ∀ i, i < n → r i ≠ g
  inj : ∀ i j, i < n → j < n → r i = r j → i = j
  row : ∀ i, i < n → w.cell? ⟨g, i, none⟩ = some (.slice (some ⟨r i, 0, none⟩) n n)
  cell : ∀ i j : Nat, i < n → j < n → w.cell? ⟨r i, j, none⟩ = some (.int .i64 (f i j))
  free : ∀ i o, i < n → w.frozen? ⟨r i, o, none⟩ = false
  hi_ : hi ≤ w.heap.size
theorem TabOwn.ext {w w' : World} {lo hi g n : Nat} {r : Nat → Nat} {f : Tab} (h : TabOwn w lo hi g n r f) (e : Ext w w') : TabOwn w' lo hi g n r f := by
  obtain ⟨c, fr, z⟩ := e.cells
  exact ⟨h.g1, h.g2, h.r1, h.r2, h.rg, h.inj, fun i hi' => (c _ _ (Nat.lt_of_lt_of_le h.g2 h.hi_)).trans (h.row i hi'), fun i j hi' hj => (c _ _ (Nat.lt_of_lt_of_le (h.r2 i hi') h.hi_)).trans (h.cell i j hi' hj), fun i o hi' => (fr _ _ (Nat.lt_of_lt_of_le (h.r2 i hi') h.hi_)).trans (h.free i o hi'), Nat.le_trans h.hi_ e.size⟩
theorem TabOwn.congr {w : World} {lo hi g n : Nat} {r : Nat → Nat} {f f' : Tab} (h : TabOwn w lo hi g n r f) (e : ∀ i j : Nat, i < n → j < n → f i j = f' i j) : TabOwn w lo hi g n r f' :=
  ⟨h.g1, h.g2, h.r1, h.r2, h.rg, h.inj, h.row, fun i j hi hj => by rw [← e i j hi hj]; exact h.cell i j hi hj, h.free, h.hi_⟩
theorem TabOwn.set {w : World} {lo hi g n : Nat} {r : Nat → Nat} {f : Tab} (h : TabOwn w lo hi g n r f) {a b : Nat} (ha : a < n) (hb : b < n) (v : Int) : TabOwn (w.setCell ⟨r a, b, none⟩ (.int .i64 v)) lo hi g n r (f.set a b v) := by
  have hx : ExtBut (r a) w (w.setCell ⟨r a, b, none⟩ (.int .i64 v)) := (ExtBut.refl _ _).set _ _
  refine ⟨h.g1, h.g2, h.r1, h.r2, h.rg, h.inj, fun i hi' => ?_, fun i j hi' hj => ?_, fun i o hi' => ?_, ?_⟩
  · rw [cell_set_ne _ _ (Or.inl (fun e => h.rg a ha e.symm))]; exact h.row i hi'
  · by_cases hia : i = a
    · subst hia
      by_cases hjb : j = b
      · subst hjb
        rw [cell_set_eq _ _ (by rw [h.cell i j hi' hj]; rfl)]
        simp [Tab.set]
      · rw [cell_set_ne _ _ (Or.inr hjb), h.cell i j hi' hj]
        unfold Tab.set
        rw [if_neg (by omega)]
    · rw [cell_set_ne _ _ (Or.inl (fun e => hia (h.inj _ _ hi' ha e))), h.cell i j hi' hj]
      unfold Tab.set
      rw [if_neg (by omega)]
  · rw [hx.cells.2.1 _ _ (Nat.lt_of_lt_of_le (h.r2 i hi') h.hi_)]; exact h.free i o hi'
  · simpa [World.setCell] using h.hi_
/-- A store into another table. -/
theorem TabOwn.other {w : World} {lo hi g n : Nat} {r : Nat → Nat} {f : Tab} (h : TabOwn w lo hi g n r f) {b o : Nat} (hb : b < lo ∨ hi ≤ b) (v : Value) : TabOwn (w.setCell ⟨b, o, none⟩ v) lo hi g n r f := by
  have hr : ∀ i, i < n → r i ≠ b := fun i hi' => by have := h.r1 i hi'; have := h.r2 i hi'; omega
  have hg : g ≠ b := by have := h.g1; have := h.g2; omega
  refine ⟨h.g1, h.g2, h.r1, h.r2, h.rg, h.inj, fun i hi' => ?_, fun i j hi' hj => ?_, fun i o' hi' => ?_, ?_⟩
  · rw [cell_set_ne _ _ (Or.inl hg)]; exact h.row i hi'
  · rw [cell_set_ne _ _ (Or.inl (hr i hi'))]; exact h.cell i j hi' hj
  · rw [← h.free i o' hi']; exact World.frozen?_of_block (w := w) (Below.heap_setCell _ _ _ _ (hr i hi'))
  · simpa [World.setCell] using h.hi_

theorem e_rows : ElemT 51 35 1 24 := ElemT.mk' (z := .slice none 0 0) (by kernel_rfl) (by kernel_rfl) rfl (by omega) (by omega)
def encRow (n : Nat) (g : Nat) : List Value := [.slice (some ⟨g, 0, none⟩) n n]
theorem encRow_one (n : Nat) : ∀ x, ∀ u ∈ encRow n x, u.oneCell' = true := by
  intro x u hu
  simp only [encRow, List.mem_singleton] at hu
  subst hu; rfl
def SquarePost (n : Nat) (x : Int) (w : World) (e : Ending) (w' : World) : Prop :=
  ∃ g c r, e = .returned (.slice (some ⟨g, 0, none⟩) n c) ∧ Ext w w' ∧ TabOwn w' w.heap.size w'.heap.size g n r (fun _ _ => x)
/-- The rows made so far. -/
structure Squares (n : Nat) (x : Int) (w : World) (k : Nat) (v : Value) (gs : List Nat) (wr : World) : Prop where
  len : gs.length = k
  own : Owns 35 1 (encRow n) wr w.heap.size v gs
  fill : ∀ g ∈ gs, w.heap.size ≤ g ∧ Filled wr g n n x
  nodup : gs.Nodup
  ext : Ext w wr
theorem Filled.lt {w : World} {g k n : Nat} {x : Int} (h : Filled w g k n x) : g < w.heap.size := by
  obtain ⟨cur, hh, _⟩ := h
  exact (Array.getElem?_eq_some_iff.1 hh).1
theorem Filled.of_block {w w' : World} {g k n : Nat} {x : Int} (h : Filled w g k n x) (e : w'.heap[g]? = w.heap[g]?) : Filled w' g k n x := by
  obtain ⟨cur, hh, r⟩ := h
  exact ⟨cur, e.trans hh, r⟩
theorem Owns.not_filled {α : Type} {k : Nat} {enc : α → List Value} {w : World} {base : Nat} {v : Value} {L : List α} (h : Owns 35 k enc w base v L) {g j n : Nat} {x : Int} (hf : Filled w g j n x) : ¬ (some g = v.ownBlock) := by
  intro e
  obtain ⟨cur, hh, _⟩ := hf
  rcases h.2 with ⟨rfl, _⟩ | ⟨g', cap, cur', rfl, hg, hh', r⟩
  · simp [Value.ownBlock] at e
  · simp only [Value.ownBlock, Option.some.injEq] at e
    subst e
    rw [hh'] at hh
    simp at hh
theorem Squares.step {n : Nat} {x : Int} {w : World} {k : Nat} {v v' : Value} {gs : List Nat} {wr w1 w2 : World} {g : Nat} {o : Obj} (h : Squares n x w k v gs wr) (e1 : Ext wr w1) (hg : wr.heap.size ≤ g) (hF : Filled w1 g n n x)
    (ho : Owns 35 1 (encRow n) w2 w.heap.size v' (gs ++ [g])) (hgr : (w1.alloc o).grownBy w2 v.ownBlock) : Squares n x w (k + 1) v' (gs ++ [g]) w2 := by
  have hO1 : Owns 35 1 (encRow n) (w1.alloc o) w.heap.size v gs := h.own.ext (e1.alloc o)
  have hk : ∀ g', Filled w1 g' n n x → Filled w2 g' n n x := fun g' hf => by
    have h1 : Filled (w1.alloc o) g' n n x := hf.of_block (Below.heap_alloc _ _ _ hf.lt)
    exact h1.of_block (hgr.block g' h1.lt (hO1.not_filled h1))
  refine ⟨by simp [h.len], ho, fun g' hg' => ?_, ?_, ?_⟩
  · rw [List.mem_append, List.mem_singleton] at hg'
    rcases hg' with hg' | rfl
    · obtain ⟨a, b⟩ := h.fill g' hg'
      exact ⟨a, hk _ (b.of_block (e1.below.block g' b.lt))⟩
    · exact ⟨Nat.le_trans h.ext.size hg, hk _ hF⟩
  · rw [List.nodup_append]
    refine ⟨h.nodup, by simp, fun a ha b hb => ?_⟩
    rw [List.mem_singleton] at hb
    have := (h.fill a ha).2.lt
    omega
  · exact grown_ext w (h.ext.trans e1) (Nat.le_refl _) (fun g' hg' => (h.own.lt hg').1) hgr
theorem Squares.done {n : Nat} {x : Int} {w : World} {v : Value} {gs : List Nat} {wr : World} (h : Squares n x w n v gs wr) (hn : 1 ≤ n) : ∃ g c r, v = .slice (some ⟨g, 0, none⟩) n c ∧ Ext w wr ∧ TabOwn wr w.heap.size wr.heap.size g n r (fun _ _ => x) := by
  have hl := h.len
  rcases h.own.form with ⟨e, _⟩ | ⟨g, cap, rfl, hg1, hg2⟩
  · rw [e] at hl; simp at hl; omega
  · have hr : ∀ i, i < n → gs.getD i 0 ∈ gs := fun i hi' => by
      rw [List.getD_eq_getElem?_getD, List.getElem?_eq_getElem (by omega)]
      exact List.getElem_mem _
    refine ⟨g, cap, fun i => gs.getD i 0, by rw [hl], h.ext, hg1, hg2, fun i hi' => (h.fill _ (hr i hi')).1, fun i hi' => (h.fill _ (hr i hi')).2.lt, fun i hi' e => ?_, fun i j hi' hj e => ?_, fun i hi' => ?_, fun i j hi' hj => ?_, fun i o hi' => ?_, Nat.le_refl _⟩
    · exact h.own.not_filled (h.fill _ (hr i hi')).2 (by show some _ = some g; rw [e])
    · have hi2 : i < gs.length := by omega
      have hj2 : j < gs.length := by omega
      have e' : gs[i] = gs[j] := by simpa [List.getD_eq_getElem?_getD, List.getElem?_eq_getElem hi2, List.getElem?_eq_getElem hj2] using e
      exact (List.getElem_inj h.nodup).1 e'
    · have := (h.own.cell (fun _ => rfl) (j := i) (i := 0) (by omega) (by omega)).1
      rw [Nat.mul_one, Nat.add_zero] at this
      rw [this, List.getD_eq_getElem?_getD, List.getElem?_eq_getElem (show i < gs.length by omega)]
      rfl
    · obtain ⟨cur, hh, hs, ht⟩ := (h.fill _ (hr i hi')).2
      simp only [World.cell?, hh]
      have : (cur.toList.take n)[j]? = some (iv x) := by rw [ht, List.getElem?_replicate, if_pos hj]
      rw [List.getElem?_take_of_lt hj] at this
      simpa using this
    · obtain ⟨cur, hh, hs, ht⟩ := (h.fill _ (hr i hi')).2
      show wr.frozen? ⟨gs.getD i 0, o, none⟩ = false
      unfold World.frozen?
      simp only [hh]
      simp

set_option maxRecDepth 100000 in
set_option maxHeartbeats 2000000 in
theorem square_100 (n : Nat) (x : Int) (hn : 1 ≤ n ∧ n ≤ 8) (w : World) :
    Calls Tryz.prog 100 #[.int .i64 n, .int .i64 x] w (SquarePost n x w) := by
  go_enter Tryz.func100, Tryz.ntmps100
  go_wp2
  go_loopw [4, 6] (fun v i wr => ∃ k : Nat, k ≤ n ∧ i = .int .i64 k ∧ ∃ gs, Squares n x w k v gs wr) (fun _ i _ => n - (intOf i).toNat)
  case atStart => exact ⟨0, Nat.zero_le _, rfl, [], rfl, Owns.nil _ _ _ _ _, by simp, by simp, (by with_reducible (repeat first | assumption | exact Ext.refl _ | refine Ext.set ?_ (by omega) _ | refine Ext.alloc ?_ _ | refine Ext.drew ?_ | refine Ext.drewN ?_ _ | refine Ext.trans ?_ (by assumption)))⟩
  case round =>
    obtain ⟨k, hk, rfl, gs, hS⟩ := hrel
    by_cases hlt : k < n
    · have hS' := Lib.hid hS
      have hl := hS.len
      have hes := hS.ext.size
      have hown := hS.own
      clear hS
      go_wp2_with (first | (go_at_call 133; go_loud (refine (repeat_133 x _ n hn _ (by simp) (by simp)).mono ?_); rintro e1 w1 ⟨g, rfl, hb1, hg, hF⟩; have hs1 := hb1.size; simp at hs1 hg) | (at_builtin; go_loud (refine append_one e_rows (encRow n) (fun _ => rfl) (encRow_one n) rfl _ _ rfl w.heap.size _ gs rfl g #[.slice (some ⟨g, 0, none⟩) n n] rfl _ rfl (by first | rfl | simp) (hown.ext (by with_reducible (repeat first | assumption | exact Ext.refl _ | refine Ext.set ?_ (by omega) _ | refine Ext.alloc ?_ _ | refine Ext.drew ?_ | refine Ext.drewN ?_ _ | refine Ext.trans ?_ (by assumption)))) (by omega) (by omega) ?_); intro v' w2 hown1 hgrow))
      go_roundw
      case rel => exact ⟨k + 1, by omega, by go_num, gs ++ [g], hS'.out.step ((by with_reducible (repeat first | assumption | exact Ext.refl _ | refine Ext.set ?_ (by omega) _ | refine Ext.alloc ?_ _ | refine Ext.drew ?_ | refine Ext.drewN ?_ _ | refine Ext.trans ?_ (by assumption))) : Ext wr w1) (by omega) hF hown1 hgrow⟩
      case measure => simp [intOf]; omega
    · obtain rfl : k = n := by omega
      have hd := Lib.hid (hS.done hn.1)
      clear hS
      go_wp2
      go_ret
      obtain ⟨g, c, r, rfl, h1, h2⟩ := hd.out
      exact ⟨g, c, r, rfl, h1, h2⟩

/-- Only blocks from lo to hi have been written. -/
structure Wrote (lo hi : Nat) (w w' : World) : Prop where
  os : w'.os = w.os
  tape : w'.tape = w.tape
  output : w'.output = w.output
  size : w'.heap.size = w.heap.size
  block : ∀ k, k < lo ∨ hi ≤ k → w'.heap[k]? = w.heap[k]?
theorem Wrote.refl (lo hi : Nat) (w : World) : Wrote lo hi w w := ⟨rfl, rfl, rfl, rfl, fun _ _ => rfl⟩
theorem Wrote.trans {lo hi : Nat} {a b c : World} (h : Wrote lo hi a b) (k : Wrote lo hi b c) : Wrote lo hi a c :=
  ⟨k.os.trans h.os, k.tape.trans h.tape, k.output.trans h.output, k.size.trans h.size, fun i hi' => (k.block i hi').trans (h.block i hi')⟩
theorem Wrote.wide {lo hi lo' hi' : Nat} {a b : World} (h : Wrote lo hi a b) (h1 : lo' ≤ lo) (h2 : hi ≤ hi') : Wrote lo' hi' a b :=
  ⟨h.os, h.tape, h.output, h.size, fun i hi' => h.block i (by omega)⟩
theorem Wrote.set {lo hi b o : Nat} {v : Value} (w : World) (h : lo ≤ b ∧ b < hi) : Wrote lo hi w (w.setCell ⟨b, o, none⟩ v) :=
  ⟨rfl, rfl, rfl, by simp [World.setCell], fun k hk => Below.heap_setCell _ _ _ _ (by show k ≠ b; omega)⟩
theorem Wrote.ext {lo hi : Nat} {a w w' : World} (h : Ext a w) (k : Wrote lo hi w w') (hl : a.heap.size ≤ lo) : Ext a w' :=
  ⟨⟨k.os.trans h.below.os, k.tape.trans h.below.tape, k.output.trans h.below.output, by rw [k.size]; exact h.size, fun i hi' => (k.block i (by omega)).trans (h.below.block i hi')⟩⟩
theorem Wrote.cells {lo hi : Nat} {w w' : World} (h : Wrote lo hi w w') : (∀ b o, b < lo ∨ hi ≤ b → w'.cell? ⟨b, o, none⟩ = w.cell? ⟨b, o, none⟩) ∧ (∀ b o, b < lo ∨ hi ≤ b → w'.frozen? ⟨b, o, none⟩ = w.frozen? ⟨b, o, none⟩) :=
  ⟨fun b o hb => World.cell?_of_block (w := w) (h.block b hb), fun b o hb => World.frozen?_of_block (w := w) (h.block b hb)⟩
theorem TabOwn.wrote {w w' : World} {lo hi g n : Nat} {r : Nat → Nat} {f : Tab} (h : TabOwn w lo hi g n r f) {lo' hi' : Nat} (k : Wrote lo' hi' w w') (hd : hi ≤ lo' ∨ hi' ≤ lo) : TabOwn w' lo hi g n r f := by
  obtain ⟨c, fr⟩ := k.cells
  have hr : ∀ i, i < n → r i < lo' ∨ hi' ≤ r i := fun i hi' => by have := h.r1 i hi'; have := h.r2 i hi'; omega
  have hg : g < lo' ∨ hi' ≤ g := by have := h.g1; have := h.g2; omega
  exact ⟨h.g1, h.g2, h.r1, h.r2, h.rg, h.inj, fun i hi' => (c _ _ hg).trans (h.row i hi'), fun i j hi' hj => (c _ _ (hr i hi')).trans (h.cell i j hi' hj), fun i o hi' => (fr _ _ (hr i hi')).trans (h.free i o hi'), by rw [k.size]; exact h.hi_⟩

set_option maxRecDepth 100000 in
set_option maxHeartbeats 2000000 in
theorem short_101 (a b n c lo hi g : Nat) (r : Nat → Nat) (f : Tab) (v : Int) (ha : a < n) (hb : b < n) (hn : n ≤ 8) (w : World) (h : TabOwn w lo hi g n r f) :
    Calls Tryz.prog 101 #[.slice (some ⟨g, 0, none⟩) n c, .int .i64 a, .int .i64 b, .int .i64 v] w fun e w' => e = .returned (.tuple #[]) ∧ TabOwn w' lo hi g n r (f.short a b v) ∧ Wrote lo hi w w' := by
  have h1 := h.row a ha
  have h2 := h.cell a b ha hb
  have h3 := h.free a b ha
  have hw := Lib.hid (Wrote.set (o := b) (v := .int .i64 v) w ⟨h.r1 a ha, h.r2 a ha⟩)
  have hs := Lib.hid (h.set ha hb v)
  have hS := Lib.hid h
  have hnm : n ≤ 140737488355328 := by omega
  by_cases c1 : f a b < 0 ∨ v < f a b
  · have hf := Lib.hid (show f.short a b v = f.set a b v by unfold Tab.short; rw [if_pos c1])
    clear h
    by_cases c2 : f a b < 0
    all_goals
      have c3 : ¬ f a b < 0 → v < f a b := by omega
      first | have c4 := c3 c2 | skip
      clear c1 c3
      go_enter Tryz.func101, Tryz.ntmps101
      go_wp2
      go_end0
      rw [hf.out]
      exact ⟨rfl, hs.out, hw.out⟩
  · have hf := Lib.hid (show f.short a b v = f by unfold Tab.short; rw [if_neg c1])
    have c2 : ¬ f a b < 0 := by omega
    have c3 : ¬ v < f a b := by omega
    clear h c1
    go_enter Tryz.func101, Tryz.ntmps101
    go_wp2
    go_end0
    rw [hf.out]
    exact ⟨rfl, hS.out, Wrote.refl _ _ _⟩

set_option maxRecDepth 100000 in
set_option maxHeartbeats 2000000 in
theorem place_97 (places : Int) (n : Int) (bm : Nat) (w : World) (hm : w.cell? ⟨bm, 0, none⟩ = some (.int .i64 places)) (h1 : 1 ≤ places) (h8 : places ≤ 8) :
    Calls Tryz.prog 97 #[.int .i64 n, .pointer (some ⟨bm, 0, none⟩)] w fun e w' => e = .returned (.bool (within n 0 (places - 1))) ∧ w = w' := by
  go_enter Tryz.func97, Tryz.ntmps97
  go_wp2_with (go_at_call 85; refine (within_85 _ _ _ _).mono ?_; rintro e1 w1 ⟨rfl, rfl⟩)
  go_ret
  exact ⟨rfl, rfl⟩
def legBad (places : Int) (x : Leg) : Bool := !within x.a 0 (places - 1) || !within x.b 0 (places - 1) || decide (x.a = x.b) || !within x.t 1 200
theorem legBad_ok (p : Int) (x : Leg) : legBad p x = !Leg.ok p x := by
  unfold legBad Leg.ok
  simp only [Bool.not_and, decide_not, Bool.not_not]
theorem any_legBad (p : Int) (xs : List Leg) : xs.any (legBad p) = !xs.all (Leg.ok p) := by
  rw [List.all_eq_not_any_not, Bool.not_not]; congr 1; funext f; exact legBad_ok p f
set_option maxRecDepth 100000 in
set_option maxHeartbeats 2000000 in
theorem leg_99 (places : Int) (x : Leg) (bm bp : Nat) (w : World) (hm : w.cell? ⟨bm, 0, none⟩ = some (.int .i64 places)) (lm : bm < w.heap.size)
    (hp : w.cell? ⟨bp, 0, none⟩ = some (.func (.func 97) #[] #[.pointer (some ⟨bm, 0, none⟩)])) (lp : bp < w.heap.size) (h1 : 1 ≤ places) (h8 : places ≤ 8) :
    Calls Tryz.prog 99 #[x.val, .pointer (some ⟨bp, 0, none⟩)] w fun e w' => e = .returned (.bool (legBad places x)) ∧ Ext w w' := by
  simp only [Leg.val]
  go_enter Tryz.func99, Tryz.ntmps99
  go_wp2_with (first | (go_at_call 97; refine (place_97 places _ bm _ (by go_simp) h1 h8).mono ?_; rintro e1 w1 ⟨rfl, rfl⟩) | (go_at_call 85; refine (within_85 _ _ _ _).mono ?_; rintro e1 w1 ⟨rfl, rfl⟩))
  all_goals
    go_ret
    exact ⟨by first | (simp [legBad, *]; done) | (simp [legBad, *]; omega), (by with_reducible (repeat first | assumption | exact Ext.refl _ | refine Ext.set ?_ (by omega) _ | refine Ext.alloc ?_ _ | refine Ext.drew ?_ | refine Ext.drewN ?_ _ | refine Ext.trans ?_ (by assumption)))⟩

set_option maxRecDepth 100000 in
set_option maxHeartbeats 2000000 in
theorem index_132 (places : Int) (bm : Nat) (bp : Nat) (h1 : 1 ≤ places) (h8 : places ≤ 8) (xs : List Leg) (A : Option Addr) (n c : Nat) (w : World) (hn : Rows 3 Leg.enc w A n xs) (hm : w.cell? ⟨bm, 0, none⟩ = some (.int .i64 places)) (lhm : bm < w.heap.size) (hp : w.cell? ⟨bp, 0, none⟩ = some (.func (.func 97) #[] #[.pointer (some ⟨bm, 0, none⟩)])) (lhp : bp < w.heap.size) :
    Calls Tryz.prog 132 #[.slice A n c, .func (.func 99) #[] #[.pointer (some ⟨bp, 0, none⟩)]] w fun e w' => e = .returned (.int .i64 (idxOf (legBad places) xs)) ∧ Ext w w' := by
  have hlen := hn.len
  have hsm := hn.small
  go_enter Tryz.func132, Tryz.ntmps132
  go_wp2
  go_loopw [5, 8] (fun _ i wr => ∃ k : Nat, k ≤ n ∧ i = .int .i64 k ∧ (xs.take k).any (legBad places) = false ∧ Ext w wr) (fun _ i _ => n - (intOf i).toNat)
  case atStart => exact ⟨0, Nat.zero_le _, rfl, rfl, Ext.refl _⟩
  case round =>
    obtain ⟨k, hk, rfl, ha, he⟩ := hrel
    by_cases hlt : k < n
    · obtain ⟨x, hx⟩ : ∃ x, xs[k]? = some x := ⟨_, List.getElem?_eq_getElem (by omega)⟩
      obtain ⟨hcr, hfr, hzr⟩ := he.cells
      have rhm := (hcr bm 0 lhm).trans hm; have rlhm := hzr bm lhm
      have rhp := (hcr bp 0 lhp).trans hp; have rlhp := hzr bp lhp
      clear hcr hfr hzr
      obtain ⟨b0, off, rfl, hb0, q0, q1, q2⟩ := (hn.ext he).leg hlt hx
      have hs := Lib.hid (any_take_succ (legBad places) x xs k hx)
      have hat := Lib.hid (idxOf_at (legBad places) x xs k ha hx)
      have ha := Lib.hid ha
      clear hx hn hlen
      go_wp2_with (go_at_call 99; refine (leg_99 places x bm bp _ rhm rlhm rhp rlhp h1 h8).mono ?_; rintro e1 w1 ⟨rfl, hb1⟩)
      · go_ret
        exact ⟨ret_int (hat.out (by simp [*])).symm, he.trans hb1⟩
      · go_roundw
        case rel => exact ⟨k + 1, by omega, by go_num, by rw [hs.out, ha.out]; simp [*], he.trans hb1⟩
        case measure => simp [intOf]; omega
    · have := Lib.hid (idxOf_none (legBad places) xs (by rw [← any_take_all _ xs k (by omega)]; exact ha))
      clear ha
      go_wp2
      go_ret
      exact ⟨ret_int this.out.symm, he⟩
set_option maxRecDepth 100000 in
set_option maxHeartbeats 2000000 in
theorem contains_98 (places : Int) (bm : Nat) (bp : Nat) (h1 : 1 ≤ places) (h8 : places ≤ 8) (xs : List Leg) (A : Option Addr) (n c : Nat) (w : World) (hn : Rows 3 Leg.enc w A n xs) (hm : w.cell? ⟨bm, 0, none⟩ = some (.int .i64 places)) (lhm : bm < w.heap.size) (hp : w.cell? ⟨bp, 0, none⟩ = some (.func (.func 97) #[] #[.pointer (some ⟨bm, 0, none⟩)])) (lhp : bp < w.heap.size) :
    Calls Tryz.prog 98 #[.slice A n c, .func (.func 99) #[] #[.pointer (some ⟨bp, 0, none⟩)]] w fun e w' => e = .returned (.bool (xs.any (legBad places))) ∧ Ext w w' := by
  go_enter Tryz.func98, Tryz.ntmps98
  go_wp2_with (go_at_call 132; refine (index_132 places bm bp h1 h8 xs A n c _ hn hm lhm hp lhp).mono ?_; rintro e1 w1 ⟨rfl, hb1⟩)
  go_ret
  exact ⟨ret_bool (idxOf_any _ xs), hb1⟩
end Go.Proofs.YtmmimbcfgobnaaaGreat
