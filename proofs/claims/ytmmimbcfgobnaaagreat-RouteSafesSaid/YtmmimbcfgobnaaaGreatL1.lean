/- The look at the chapter's example: works. works. -/
import Derived.Test.YtmmimbcfgobnaaaGreatR11
import Derived.Deep.MidRow
set_option linter.unusedVariables false
set_option linter.unusedSimpArgs false
namespace Go.Proofs.YtmmimbcfgobnaaaGreat
open Go.RowKit
set_option linter.unusedVariables false
set_option linter.unusedSimpArgs false
attribute [local go_sem] stored_match isSome_setCell

def exSky : Sky := ⟨⟨0, 10⟩, ⟨5000, 9000⟩, ⟨1000, 3000⟩, false, false⟩
def exFog : Sky := ⟨⟨0, 10⟩, ⟨1000, 2000⟩, ⟨1000, 3000⟩, false, false⟩
def exMet : Met := ⟨3, exSky, 0, 0, 0, [⟨2, 10, 30, 0, exFog⟩, ⟨0, 25, 60, 0, exFog⟩], []⟩
def exMin : Minima := ⟨20, 3000, 500, false, false⟩
def exNet : List Leg := [⟨0, 1, 10⟩, ⟨1, 2, 8⟩]
def exFlight : Flight := ⟨[0, 1, 2], 0, 100, 2, 20⟩
def exI (bF bX bR : Nat) : Inp := ⟨exMet, exNet, exMin, exFlight, some ⟨bF, 0, none⟩, 2, 2, none, 0, 0, some ⟨bX, 0, none⟩, 2, 2, some ⟨bR, 0, none⟩, 3, 3⟩
/-- A plan in one value. -/
abbrev Inp.vp (I : Inp) : Value := .agg #[.int .i64 I.m.places, .int .i64 I.m.any.w.lo, .int .i64 I.m.any.w.hi, .int .i64 I.m.any.s.lo, .int .i64 I.m.any.s.hi, .int .i64 I.m.any.c.lo, .int .i64 I.m.any.c.hi, .bool I.m.any.ice, .bool I.m.any.storm, .int .i64 I.m.wind, .int .i64 I.m.see, .int .i64 I.m.ceil, .slice I.AF I.nF I.cF, .slice I.AS I.nS I.cS, .int .i64 I.l.wind, .int .i64 I.l.see, .int .i64 I.l.ceil, .bool I.l.ice, .bool I.l.storm, .slice I.AX I.nX I.cX]
theorem at_list {P : Program} {ops : Array Oper} {Q : Exit → Act → World → Prop} {l : List Oper} {a : Act} {w : World} (h : wpList P ops Q l a w) : wpList P ops Q l a w := h
theorem heap_new (w : World) (o : Obj) : (w.alloc o).heap[w.heap.size]? = some o := by
  show (w.heap.push _)[w.heap.size]? = _
  simp
theorem Rows.of_block {α : Type} {k : Nat} {enc : α → List Value} {w : World} {b : Nat} {cs : Array Value} {t : TypeId} {lo : Nat × Nat} (L : List α) (hk : ∀ x, (enc x).length = k) (h : w.heap[b]? = some (.cells cs t lo)) (hc : cs.toList = cellsOf enc L) (hn : L.length ≤ 1000) : Rows k enc w (some ⟨b, 0, none⟩) L.length L :=
  ⟨rfl, by omega, fun _ => ⟨b, 0, rfl, (Array.getElem?_eq_some_iff.1 h).1, fun j hj i hi => by
    rw [← cellsOf_at enc hk L j hj i hi, ← hc]
    simp only [World.cell?, h, Nat.zero_add]
    simp⟩⟩
def ExPost (w : World) (e : Ending) (w' : World) : Prop :=
  ∃ bF bX bR, e = .returned (.tuple #[(exI bF bX bR).vp, (exI bF bX bR).vf]) ∧ (exI bF bX bR).In w' ∧ Ext w w'
/-- A block of n cells that may be written. -/
structure Room (w : World) (b n : Nat) : Prop where
  lt : b < w.heap.size
  some_ : ∀ o, o < n → (w.cell? ⟨b, o, none⟩).isSome = true
  free : ∀ o, w.frozen? ⟨b, o, none⟩ = false
theorem Room.ext {w w' : World} {b n : Nat} (h : Room w b n) (e : Ext w w') : Room w' b n :=
  ⟨e.cells.2.2 _ h.lt, fun o ho => by rw [e.cells.1 _ _ h.lt]; exact h.some_ o ho, fun o => (e.cells.2.1 _ _ h.lt).trans (h.free o)⟩
theorem Room.new (w : World) (cs : Array Value) (t : TypeId) {b n : Nat} (hb : b = w.heap.size) (hn : cs.size = n) : Room (w.alloc (.cells cs t)) b n := by
  subst hb; subst hn
  have e := heap_new w (.cells cs t)
  refine ⟨by simp, fun o ho => ?_, fun o => ?_⟩
  · simp only [World.cell?, e]
    simp [ho]
  · unfold World.frozen?
    simp only [e]
    simp
theorem setCells_size (b : Nat) : ∀ (vs : List Value) (o : Nat) (w : World), (w.setCells b o vs).heap.size = w.heap.size
  | [], _, _ => rfl
  | v :: r, o, w => by rw [World.setCells, setCells_size b r]; simp [World.setCell]
theorem Ext.setCells {a : World} {b : Nat} : ∀ (vs : List Value) {w : World} (h : Ext a w) (hb : a.heap.size ≤ b) (o : Nat), Ext a (w.setCells b o vs)
  | [], w, h, _, _ => h
  | v :: r, w, h, hb, o => by
    rw [World.setCells]
    exact Ext.setCells r (h.set hb v) hb (o + 1)
theorem ExtBut.setCells {p : Nat} {a : World} : ∀ (vs : List Value) {w : World} (h : ExtBut p a w) (o : Nat), ExtBut p a (w.setCells p o vs)
  | [], w, h, _ => h
  | v :: r, w, h, o => by
    rw [World.setCells]
    exact ExtBut.setCells r (h.set o v) (o + 1)
def exCells (bF bX : Nat) : Array Value := #[.int .i64 3, .int .i64 0, .int .i64 10, .int .i64 5000, .int .i64 9000, .int .i64 1000, .int .i64 3000, .bool false, .bool false, .int .i64 0, .int .i64 0, .int .i64 0, .slice (some ⟨bF, 0, none⟩) 2 2, .slice none 0 0, .int .i64 20, .int .i64 3000, .int .i64 500, .bool false, .bool false, .slice (some ⟨bX, 0, none⟩) 2 2]
theorem exCells_one (bF bX : Nat) : (exCells bF bX).all (·.oneCell') = true := by simp [exCells, Value.oneCell']
def exCellsF (bR : Nat) : Array Value := #[.slice (some ⟨bR, 0, none⟩) 3 3, .int .i64 0, .int .i64 100, .int .i64 2, .int .i64 20]
theorem exCellsF_one (bR : Nat) : (exCellsF bR).all (·.oneCell') = true := by simp [exCellsF, Value.oneCell']
structure ExMade (w : World) (b bF bX : Nat) (wx : World) : Prop where
  ext : Ext w wx
  lt : b < wx.heap.size
  hbF : w.heap.size + 1 < bF
  hbX : w.heap.size + 1 < bX
  plan : wx.rangeAt b 0 (exCells bF bX).toList
  fcs : Rows 12 Fc.enc wx (some ⟨bF, 0, none⟩) 2 exMet.fcs
  net : Rows 3 Leg.enc wx (some ⟨bX, 0, none⟩) 2 exNet
  rA : Room wx w.heap.size 20
  rB : Room wx (w.heap.size + 1) 5
theorem rangeAt_new {w' : World} {b : Nat} {cs : Array Value} {t : TypeId} (h : w'.heap[b]? = some (.cells cs t (0, 0))) : w'.rangeAt b 0 cs.toList := fun j v hv => by
  simp only [World.cell?, h, Nat.zero_add]
  simpa using hv
set_option maxRecDepth 100000 in
set_option maxHeartbeats 2000000 in
theorem Example_56 (w : World) : Calls Tryz.prog 56 #[] w (ExPost w) := by
  go_enter Tryz.func56, Tryz.ntmps56
  go_upto_region 2 with (fail)
  refine name_world (R := fun W => Code.wp _ _ _ _ W) fun W1 hx1 hc1 hf1 hz1 => ?_
  have hxw : Ext w W1 := (by with_reducible (repeat first | assumption | exact Ext.refl _ | refine Ext.set ?_ (by omega) _ | refine Ext.alloc ?_ _ | refine Ext.drew ?_ | refine Ext.drewN ?_ _ | refine Ext.trans ?_ (by assumption)))
  simp at hz1
  have s0 : W1.cell? ⟨w.heap.size + 1 + 1, 0, none⟩ = some (.int .i64 0) := by go_simp
  have s1 : W1.cell? ⟨w.heap.size + 1 + 1, 1, none⟩ = some (.int .i64 10) := by go_simp
  have s2 : W1.cell? ⟨w.heap.size + 1 + 1, 2, none⟩ = some (.int .i64 5000) := by go_simp
  have s3 : W1.cell? ⟨w.heap.size + 1 + 1, 3, none⟩ = some (.int .i64 9000) := by go_simp
  have s4 : W1.cell? ⟨w.heap.size + 1 + 1, 4, none⟩ = some (.int .i64 1000) := by go_simp
  have s5 : W1.cell? ⟨w.heap.size + 1 + 1, 5, none⟩ = some (.int .i64 3000) := by go_simp
  have s6 : W1.cell? ⟨w.heap.size + 1 + 1, 6, none⟩ = some (.bool false) := by go_simp
  have s7 : W1.cell? ⟨w.heap.size + 1 + 1, 7, none⟩ = some (.bool false) := by go_simp
  have rA : Room W1 w.heap.size 20 := (Room.new w _ _ rfl rfl).ext (Ext.trans ((Ext.alloc (Ext.alloc (Ext.refl _) _) _)) hx1)
  have rB : Room W1 (w.heap.size + 1) 5 := (Room.new (w.alloc _) _ _ (by simp) rfl).ext (Ext.trans (Ext.alloc (Ext.refl _) _) hx1)
  have z2 : w.heap.size + 1 + 1 < W1.heap.size := by omega
  have z3 := Lib.hid (show W1.heap.size = w.heap.size + 1 + 1 + 1 from hz1)
  clear hc1 hf1 hz1 hx1
  go_upto_region 4 with (fail)
  refine name_world (R := fun W => Code.wp _ _ _ _ W) fun W2 hx2 hc2 hf2 hz2 => ?_
  have hx12 : Ext W1 W2 := (by with_reducible (repeat first | assumption | exact Ext.refl _ | refine Ext.set ?_ (by omega) _ | refine Ext.alloc ?_ _ | refine Ext.drew ?_ | refine Ext.drewN ?_ _ | refine Ext.trans ?_ (by assumption)))
  have t0 : W2.cell? ⟨W1.heap.size, 0, none⟩ = some (.int .i64 0) := by rw [hc2]; simp
  have t1 : W2.cell? ⟨W1.heap.size, 1, none⟩ = some (.int .i64 10) := by rw [hc2]; simp
  have t2 : W2.cell? ⟨W1.heap.size, 2, none⟩ = some (.int .i64 1000) := by rw [hc2]; simp
  have t3 : W2.cell? ⟨W1.heap.size, 3, none⟩ = some (.int .i64 2000) := by rw [hc2]; simp
  have t4 : W2.cell? ⟨W1.heap.size, 4, none⟩ = some (.int .i64 1000) := by rw [hc2]; simp
  have t5 : W2.cell? ⟨W1.heap.size, 5, none⟩ = some (.int .i64 3000) := by rw [hc2]; simp
  have t6 : W2.cell? ⟨W1.heap.size, 6, none⟩ = some (.bool false) := by rw [hc2]; simp
  have t7 : W2.cell? ⟨W1.heap.size, 7, none⟩ = some (.bool false) := by rw [hc2]; simp
  have s0 : W2.cell? ⟨w.heap.size + 1 + 1, 0, none⟩ = some (.int .i64 0) := (hx12.cells.1 _ _ z2).trans s0
  have s1 : W2.cell? ⟨w.heap.size + 1 + 1, 1, none⟩ = some (.int .i64 10) := (hx12.cells.1 _ _ z2).trans s1
  have s2 : W2.cell? ⟨w.heap.size + 1 + 1, 2, none⟩ = some (.int .i64 5000) := (hx12.cells.1 _ _ z2).trans s2
  have s3 : W2.cell? ⟨w.heap.size + 1 + 1, 3, none⟩ = some (.int .i64 9000) := (hx12.cells.1 _ _ z2).trans s3
  have s4 : W2.cell? ⟨w.heap.size + 1 + 1, 4, none⟩ = some (.int .i64 1000) := (hx12.cells.1 _ _ z2).trans s4
  have s5 : W2.cell? ⟨w.heap.size + 1 + 1, 5, none⟩ = some (.int .i64 3000) := (hx12.cells.1 _ _ z2).trans s5
  have s6 : W2.cell? ⟨w.heap.size + 1 + 1, 6, none⟩ = some (.bool false) := (hx12.cells.1 _ _ z2).trans s6
  have s7 : W2.cell? ⟨w.heap.size + 1 + 1, 7, none⟩ = some (.bool false) := (hx12.cells.1 _ _ z2).trans s7
  have z4 : W1.heap.size < W2.heap.size := by simp at hz2; omega
  have z5 := hx12.cells.2.2 _ z2
  clear hc2 hf2 hz2 hx2
  go_upto_region 5 with (fail)
  refine name_world (R := fun W => Code.wp _ _ _ _ W) fun W3 hx3 hc3 hf3 hz3 => ?_
  have hx23 : Ext W2 W3 := (by with_reducible (repeat first | assumption | exact Ext.refl _ | refine Ext.set ?_ (by omega) _ | refine Ext.alloc ?_ _ | refine Ext.drew ?_ | refine Ext.drewN ?_ _ | refine Ext.trans ?_ (by assumption)))
  have m0 : W3.cell? ⟨W2.heap.size + 1, 0, none⟩ = some (.int .i64 3) := by rw [hc3]; simp
  have m1 : W3.cell? ⟨W2.heap.size + 1, 1, none⟩ = some (.int .i64 0) := by rw [hc3]; simp
  have m2 : W3.cell? ⟨W2.heap.size + 1, 2, none⟩ = some (.int .i64 10) := by rw [hc3]; simp
  have m3 : W3.cell? ⟨W2.heap.size + 1, 3, none⟩ = some (.int .i64 5000) := by rw [hc3]; simp
  have m4 : W3.cell? ⟨W2.heap.size + 1, 4, none⟩ = some (.int .i64 9000) := by rw [hc3]; simp
  have m5 : W3.cell? ⟨W2.heap.size + 1, 5, none⟩ = some (.int .i64 1000) := by rw [hc3]; simp
  have m6 : W3.cell? ⟨W2.heap.size + 1, 6, none⟩ = some (.int .i64 3000) := by rw [hc3]; simp
  have m7 : W3.cell? ⟨W2.heap.size + 1, 7, none⟩ = some (.bool false) := by rw [hc3]; simp
  have m8 : W3.cell? ⟨W2.heap.size + 1, 8, none⟩ = some (.bool false) := by rw [hc3]; simp
  have m9 : W3.cell? ⟨W2.heap.size + 1, 9, none⟩ = some (.int .i64 0) := by rw [hc3]; simp
  have m10 : W3.cell? ⟨W2.heap.size + 1, 10, none⟩ = some (.int .i64 0) := by rw [hc3]; simp
  have m11 : W3.cell? ⟨W2.heap.size + 1, 11, none⟩ = some (.int .i64 0) := by rw [hc3]; simp
  have m12 : W3.cell? ⟨W2.heap.size + 1, 12, none⟩ = some (.slice (some ⟨W2.heap.size, 0, none⟩) 2 2) := by rw [hc3]; simp
  have m13 : W3.cell? ⟨W2.heap.size + 1, 13, none⟩ = some (.slice none 0 0) := by rw [hc3]; simp
  have hF : Rows 12 Fc.enc W3 (some ⟨W2.heap.size, 0, none⟩) 2 exMet.fcs := Rows.of_block exMet.fcs (fun _ => rfl) ((hx3.below.block W2.heap.size (by simp; omega)).trans ((Ext.below (Ext.alloc (Ext.refl _) _)).block W2.heap.size (by simp) |>.trans (heap_new _ _))) rfl (by decide)
  have z6 : W2.heap.size + 1 < W3.heap.size := by simp at hz3; omega
  have hF := Lib.hid hF
  clear hc3 hf3 hz3 hx3
  go_cut [5] from 6 to 25 (fun s5 wx => ∃ b bF bX, s5 = .pointer (some ⟨b, 0, none⟩) ∧ ExMade w b bF bX wx)
  case first =>
    have i34 : (Tryz.prog.info? 34).map (·.size) = some 20 := by kernel_rfl
    have i34 := Lib.hid i34
    have tP : ((W3.alloc (.cells #[.int .i64 0, .int .i64 1, .int .i64 10, .int .i64 1, .int .i64 2, .int .i64 8] 55)).alloc (.cells #[.int .i64 0, .int .i64 0, .int .i64 0, .int .i64 0, .int .i64 0, .int .i64 0, .int .i64 0, .bool false, .bool false, .int .i64 0, .int .i64 0, .int .i64 0, .slice none 0 0, .slice none 0 0, .int .i64 0, .int .i64 0, .int .i64 0, .bool false, .bool false, .slice none 0 0] 34)).there (W3.heap.size + 1) 0 20 := fun j hj => by
      have h := Room.new (W3.alloc (.cells #[.int .i64 0, .int .i64 1, .int .i64 10, .int .i64 1, .int .i64 2, .int .i64 8] 55)) #[.int .i64 0, .int .i64 0, .int .i64 0, .int .i64 0, .int .i64 0, .int .i64 0, .int .i64 0, .bool false, .bool false, .int .i64 0, .int .i64 0, .int .i64 0, .slice none 0 0, .slice none 0 0, .int .i64 0, .int .i64 0, .int .i64 0, .bool false, .bool false, .slice none 0 0] 34 (b := W3.heap.size + 1) (n := 20) (by simp) rfl
      rw [Nat.zero_add]
      exact ⟨h.some_ j hj, h.free j⟩
    have tP := Lib.hid tP
    have hxA : Ext w W3 := hxw.trans (hx12.trans hx23)
    have rA3 := Lib.hid (rA.ext (hx12.trans hx23))
    have rB3 := Lib.hid (rB.ext (hx12.trans hx23))
    have hX3 : ∀ W, Ext (W3.alloc (.cells #[.int .i64 0, .int .i64 1, .int .i64 10, .int .i64 1, .int .i64 2, .int .i64 8] 55)) W → Rows 3 Leg.enc W (some ⟨W3.heap.size, 0, none⟩) 2 exNet := fun W hW => Rows.of_block exNet (fun _ => rfl) ((hW.below.block W3.heap.size (by simp)).trans (heap_new _ _)) rfl (by decide)
    have hX3 := Lib.hid hX3
    go_wp2_with ((with_reducible refine at_list ?_); refine wpList_store_mid rfl 34 (.tmp 5) (.tmp 25) (by rfl) (W3.heap.size + 1) 0 (exCells W2.heap.size W3.heap.size) (by rfl) (by rfl) tP.out i34.out (exCells_one _ _) ?_)
    go_meet
    refine ⟨_, W2.heap.size, W3.heap.size, rfl, ?_⟩
    have hgo : ∀ W, Ext (W3.alloc (.cells #[.int .i64 0, .int .i64 1, .int .i64 10, .int .i64 1, .int .i64 2, .int .i64 8] 55)) W → Ext (W3.alloc (.cells #[.int .i64 0, .int .i64 1, .int .i64 10, .int .i64 1, .int .i64 2, .int .i64 8] 55)) (W.setCells (W3.heap.size + 1) 0 (exCells W2.heap.size W3.heap.size).toList) := fun W hW => Ext.setCells _ hW (by simp) _
    have hE := hgo _ (Ext.alloc (Ext.refl _) (.cells #[.int .i64 0, .int .i64 0, .int .i64 0, .int .i64 0, .int .i64 0, .int .i64 0, .int .i64 0, .bool false, .bool false, .int .i64 0, .int .i64 0, .int .i64 0, .slice none 0 0, .slice none 0 0, .int .i64 0, .int .i64 0, .int .i64 0, .bool false, .bool false, .slice none 0 0] 34))
    have hE3 := Ext.trans (Ext.alloc (Ext.refl W3) (.cells #[.int .i64 0, .int .i64 1, .int .i64 10, .int .i64 1, .int .i64 2, .int .i64 8] 55)) hE
    exact ⟨hxA.trans hE3, by rw [setCells_size]; simp, by have := z3.out; have := hx12.size; omega, by have := z3.out; have := hx12.size; have := hx23.size; omega, World.rangeAt_setCells_same _ _ _ _ tP.out, hF.out.ext hE3, hX3.out _ hE, rA3.out.ext hE3, rB3.out.ext hE3⟩
  case rest =>
    obtain ⟨b, bF, bX, rfl, hM⟩ := hcut
    clear rA rB hF hx12 hx23 z2 z3 z4 z5 z6 hxw
    clear m0 m1 m2 m3 m4 m5 m6 m7 m8 m9 m10 m11 m12 m13 s0 s1 s2 s3 s4 s5 s6 s7 t0 t1 t2 t3 t4 t5 t6 t7
    have i34 : (Tryz.prog.info? 34).map (·.size) = some 20 := by kernel_rfl
    have i37 : (Tryz.prog.info? 37).map (·.size) = some 5 := by kernel_rfl
    have u34 : (Tryz.prog.underlying 34).map TypeDesc.isRow = some true := by kernel_rfl
    obtain ⟨d34, u34, dr⟩ := Option.map_eq_some_iff.1 u34
    have i34 := Lib.hid i34
    have i37 := Lib.hid i37
    have u34 := Lib.hid u34
    have dr := Lib.hid dr
    have hM := Lib.hid hM
    have tA : (wc.alloc (.cells #[.int .i64 0, .int .i64 1, .int .i64 2] 3)).there w.heap.size 0 20 := World.there_alloc (fun j hj => by rw [Nat.zero_add]; exact ⟨hM.out.rA.some_ j hj, hM.out.rA.free j⟩) _
    have tB : (wc.alloc (.cells #[.int .i64 0, .int .i64 1, .int .i64 2] 3)).there (w.heap.size + 1) 0 5 := World.there_alloc (fun j hj => by rw [Nat.zero_add]; exact ⟨hM.out.rB.some_ j hj, hM.out.rB.free j⟩) _
    replace tA := Lib.hid tA
    replace tB := Lib.hid tB
    go_wp2_with (first | ((with_reducible refine at_list ?_); refine wpList_load_mid rfl 34 (.tmp 5) (by rfl) b 0 (by rfl) (exCells bF bX).toList d34 ?_ u34.out dr.out i34.out ?_; exact hM.out.plan) | ((with_reducible refine at_list ?_); refine wpList_store_mid rfl 34 (.tmp 0) (.tmp 26) (by rfl) w.heap.size 0 (exCells bF bX) (by rfl) (by rfl) ?_ i34.out (exCells_one _ _) ?_; exact tA.out) | ((with_reducible refine at_list ?_); refine wpList_store_mid rfl 37 (.tmp 1) (.tmp 28) (by rfl) (w.heap.size + 1) 0 (exCellsF wc.heap.size) (by rfl) (by rfl) ?_ i37.out (exCellsF_one _) ?_; exact World.there_setCells tB.out _ _ _))
    have tA' : ((wc.alloc (.cells #[.int .i64 0, .int .i64 1, .int .i64 2] 3)).setCells w.heap.size 0 (exCells bF bX).toList).there (w.heap.size + 1) 0 5 := World.there_setCells tB.out _ _ _
    have hF1 : (((wc.alloc (.cells #[.int .i64 0, .int .i64 1, .int .i64 2] 3)).setCells w.heap.size 0 (exCells bF bX).toList).setCells (w.heap.size + 1) 0 (exCellsF wc.heap.size).toList).rangeAt (w.heap.size + 1) 0 (exCellsF wc.heap.size).toList := World.rangeAt_setCells_same _ _ _ _ tA'
    have hP1 : (((wc.alloc (.cells #[.int .i64 0, .int .i64 1, .int .i64 2] 3)).setCells w.heap.size 0 (exCells bF bX).toList).setCells (w.heap.size + 1) 0 (exCellsF wc.heap.size).toList).rangeAt w.heap.size 0 (exCells bF bX).toList := World.rangeAt_setCells_apart (World.rangeAt_setCells_same _ _ _ _ tA.out) _ _ _ (Or.inl (by omega))
    have hE : Ext w (((wc.alloc (.cells #[.int .i64 0, .int .i64 1, .int .i64 2] 3)).setCells w.heap.size 0 (exCells bF bX).toList).setCells (w.heap.size + 1) 0 (exCellsF wc.heap.size).toList) := Ext.setCells _ (Ext.setCells _ (hM.out.ext.alloc _) (Nat.le_refl _) 0) (by omega) 0
    have k1 := ExtBut.setCells (p := w.heap.size) (exCells bF bX).toList (ExtBut.refl _ (wc.alloc (.cells #[.int .i64 0, .int .i64 1, .int .i64 2] 3))) 0
    have k2 := ExtBut.setCells (p := w.heap.size + 1) (exCellsF wc.heap.size).toList (ExtBut.refl _ ((wc.alloc (.cells #[.int .i64 0, .int .i64 1, .int .i64 2] 3)).setCells w.heap.size 0 (exCells bF bX).toList)) 0
    have hl1 := hM.out.rB.lt
    have hcw : Ext wc (wc.alloc (.cells #[.int .i64 0, .int .i64 1, .int .i64 2] 3)) := Ext.alloc (Ext.refl _) _
    have hI : (exI bF bX wc.heap.size).In (((wc.alloc (.cells #[.int .i64 0, .int .i64 1, .int .i64 2] 3)).setCells w.heap.size 0 (exCells bF bX).toList).setCells (w.heap.size + 1) 0 (exCellsF wc.heap.size).toList) := by
      refine ⟨⟨?_, Rows.nil _ _ _ _⟩, ?_, ?_⟩
      · exact ((hM.out.fcs.ext hcw).but k1 (fun _ b' off' e => by simp only [Option.some.injEq, Addr.mk.injEq] at e; have := hM.out.hbF; omega)).but k2 (fun _ b' off' e => by simp only [Option.some.injEq, Addr.mk.injEq] at e; have := hM.out.hbF; omega)
      · exact ((hM.out.net.ext hcw).but k1 (fun _ b' off' e => by simp only [Option.some.injEq, Addr.mk.injEq] at e; have := hM.out.hbX; omega)).but k2 (fun _ b' off' e => by simp only [Option.some.injEq, Addr.mk.injEq] at e; have := hM.out.hbX; omega)
      · have hr : Rows 1 encInt (wc.alloc (.cells #[.int .i64 0, .int .i64 1, .int .i64 2] 3)) (some ⟨wc.heap.size, 0, none⟩) 3 [0, 1, 2] := Rows.of_block [0, 1, 2] (fun _ => rfl) (heap_new _ _) rfl (by decide)
        exact (hr.but k1 (fun _ b' off' e => by simp only [Option.some.injEq, Addr.mk.injEq] at e; omega)).but k2 (fun _ b' off' e => by simp only [Option.some.injEq, Addr.mk.injEq] at e; omega)
    generalize (((wc.alloc (.cells #[.int .i64 0, .int .i64 1, .int .i64 2] 3)).setCells w.heap.size 0 (exCells bF bX).toList).setCells (w.heap.size + 1) 0 (exCellsF wc.heap.size).toList) = Wf at *
    have u37 : (Tryz.prog.underlying 37).map TypeDesc.isRow = some true := by kernel_rfl
    obtain ⟨d37, u37, dr37⟩ := Option.map_eq_some_iff.1 u37
    have l1 := run_loadVar_mid (P := Tryz.prog) Wf w.heap.size 0 34 (exCells bF bX).toList d34 hP1 u34.out dr.out i34.out
    have l2 := run_loadVar_mid (P := Tryz.prog) Wf (w.heap.size + 1) 0 37 (exCellsF wc.heap.size).toList d37 hF1 u37 dr37 i37.out
    simp only [Array.toArray_toList] at l1 l2
    refine bodyPost_ret (v := .tuple #[.agg (exCells bF bX), .agg (exCellsF wc.heap.size)]) ?_ rfl ⟨bF, bX, wc.heap.size, rfl, hI, hE⟩
    simp [results, show Tryz.f56.results = #[.cell 0 34, .cell 1 37] from rfl, Act.put, asAddr, l1, l2]
end Go.Proofs.YtmmimbcfgobnaaaGreat
namespace Go.Proofs.YtmmimbcfgobnaaaGreat
open Go.RowKit
set_option linter.unusedVariables false
set_option linter.unusedSimpArgs false
attribute [local go_sem] stored_match isSome_setCell

theorem ex_least0 : (exI 0 0 0).leastR = (72, 0) := by decide +kernel
theorem ex_best0 : (exI 0 0 0).bestR 12 = (⟨1, 14, true⟩, 0) := by decide +kernel
theorem ex_least (bF bX bR : Nat) : (exI bF bX bR).leastR = (72, 0) := Eq.trans (show (exI bF bX bR).leastR = (exI 0 0 0).leastR from rfl) ex_least0
theorem ex_best (bF bX bR : Nat) : (exI bF bX bR).bestR 12 = (⟨1, 14, true⟩, 0) := Eq.trans (show (exI bF bX bR).bestR 12 = (exI 0 0 0).bestR 12 from rfl) ex_best0
theorem exI_short (bF bX bR : Nat) : (exI bF bX bR).Short := ⟨fun _ => by show 2 ≤ 12; omega, fun _ => by show 0 ≤ 12; omega⟩
theorem name_world_as {R : World → Prop} {W : World} {P : World → Prop} (hP : P W) (h : ∀ W, P W → R W) : R W := h W hP
theorem Example' (w : World) : Calls Tryz.prog 56 #[] w fun e w' => ∃ bF bX bR, e = .returned (.tuple #[.agg (exCells bF bX), .agg (exCellsF bR)]) ∧ (exI bF bX bR).In w' ∧ Ext w w' :=
  (Example_56 w).mono fun e w' h => h
set_option maxRecDepth 100000 in
set_option maxHeartbeats 2000000 in
theorem works_16 (w : World) : Calls Tryz.prog 16 #[] w fun e w' => e = .returned (.bool true) ∧ Ext w w' := by
  have i34 : (Tryz.prog.info? 34).map (·.size) = some 20 := by kernel_rfl
  replace i34 := Lib.hid i34
  go_enter Tryz.func16, Tryz.ntmps16
  go_wp2_with fail
  refine (Example' _).mono ?_
  rintro e1 w1 ⟨bF, bX, bR, rfl, hI, hb1⟩
  have tP : ((w1.alloc (.cells #[.int .i64 0, .int .i64 0, .int .i64 0, .int .i64 0, .int .i64 0, .int .i64 0, .int .i64 0, .bool false, .bool false, .int .i64 0, .int .i64 0, .int .i64 0, .slice none 0 0, .slice none 0 0, .int .i64 0, .int .i64 0, .int .i64 0, .bool false, .bool false, .slice none 0 0] 34)).alloc (.cells #[.slice none 0 0, .int .i64 0, .int .i64 0, .int .i64 0, .int .i64 0] 37)).there w1.heap.size 0 20 := World.there_alloc (fun j hj => by
    have h := Room.new w1 #[.int .i64 0, .int .i64 0, .int .i64 0, .int .i64 0, .int .i64 0, .int .i64 0, .int .i64 0, .bool false, .bool false, .int .i64 0, .int .i64 0, .int .i64 0, .slice none 0 0, .slice none 0 0, .int .i64 0, .int .i64 0, .int .i64 0, .bool false, .bool false, .slice none 0 0] 34 (b := w1.heap.size) (n := 20) rfl rfl
    rw [Nat.zero_add]
    exact ⟨h.some_ j hj, h.free j⟩) _
  replace tP := Lib.hid tP
  replace hI := Lib.hid hI
  have hlE := Lib.hid (ex_least bF bX bR)
  have hbE := Lib.hid (ex_best bF bX bR)
  have i37 : (Tryz.prog.info? 37).map (·.size) = some 5 := by kernel_rfl
  replace i37 := Lib.hid i37
  have tQ : (((w1.alloc (.cells #[.int .i64 0, .int .i64 0, .int .i64 0, .int .i64 0, .int .i64 0, .int .i64 0, .int .i64 0, .bool false, .bool false, .int .i64 0, .int .i64 0, .int .i64 0, .slice none 0 0, .slice none 0 0, .int .i64 0, .int .i64 0, .int .i64 0, .bool false, .bool false, .slice none 0 0] 34)).alloc (.cells #[.slice none 0 0, .int .i64 0, .int .i64 0, .int .i64 0, .int .i64 0] 37)).setCells w1.heap.size 0 (exCells bF bX).toList).there (w1.heap.size + 1) 0 5 := World.there_setCells (fun j hj => by
    have h := Room.new (w1.alloc (.cells #[.int .i64 0, .int .i64 0, .int .i64 0, .int .i64 0, .int .i64 0, .int .i64 0, .int .i64 0, .bool false, .bool false, .int .i64 0, .int .i64 0, .int .i64 0, .slice none 0 0, .slice none 0 0, .int .i64 0, .int .i64 0, .int .i64 0, .bool false, .bool false, .slice none 0 0] 34)) #[.slice none 0 0, .int .i64 0, .int .i64 0, .int .i64 0, .int .i64 0] 37 (b := w1.heap.size + 1) (n := 5) (by simp) rfl
    rw [Nat.zero_add]
    exact ⟨h.some_ j hj, h.free j⟩) _ _ _
  replace tQ := Lib.hid tQ
  go_upto_region 2 with (first | ((with_reducible refine at_list ?_); refine wpList_store_mid rfl 34 (.tmp 1) (.tmp 9) (by rfl) w1.heap.size 0 (exCells bF bX) (by rfl) (by rfl) ?_ i34.out (exCells_one _ _) ?_; exact tP.out) | ((with_reducible refine at_list ?_); refine wpList_store_mid rfl 37 (.tmp 2) (.tmp 10) (by rfl) (w1.heap.size + 1) 0 (exCellsF bR) (by rfl) (by rfl) ?_ i37.out (exCellsF_one _) ?_; exact tQ.out))
  refine name_world_as (W := ((((w1.alloc (.cells #[.int .i64 0, .int .i64 0, .int .i64 0, .int .i64 0, .int .i64 0, .int .i64 0, .int .i64 0, .bool false, .bool false, .int .i64 0, .int .i64 0, .int .i64 0, .slice none 0 0, .slice none 0 0, .int .i64 0, .int .i64 0, .int .i64 0, .bool false, .bool false, .slice none 0 0] 34)).alloc (.cells #[.slice none 0 0, .int .i64 0, .int .i64 0, .int .i64 0, .int .i64 0] 37)).setCells w1.heap.size 0 (exCells bF bX).toList).setCells (w1.heap.size + 1) 0 (exCellsF bR).toList)) (P := fun W => W.rangeAt w1.heap.size 0 (exCells bF bX).toList ∧ W.rangeAt (w1.heap.size + 1) 0 (exCellsF bR).toList ∧ Ext w1 W ∧ w1.heap.size + 1 < W.heap.size) (R := fun W => Code.wp _ _ _ _ W) ⟨World.rangeAt_setCells_apart (World.rangeAt_setCells_same _ _ _ _ tP.out) _ _ _ (Or.inl (by omega)), World.rangeAt_setCells_same _ _ _ _ tQ.out, Ext.setCells _ (Ext.setCells _ (Ext.alloc (Ext.alloc (Ext.refl w1) _) _) (Nat.le_refl _) 0) (Nat.le_succ _) 0, by rw [setCells_size, setCells_size]; simp⟩ fun W1 ⟨hP, hF, hx1, hz1⟩ => ?_
  clear tP tQ i34 i37
  have p0 : W1.cell? ⟨w1.heap.size, 0, none⟩ = some (.int .i64 3) := by have := hP 0 _ (show (exCells bF bX).toList[0]? = some _ from rfl); rw [Nat.zero_add] at this; exact this
  have p1 : W1.cell? ⟨w1.heap.size, 1, none⟩ = some (.int .i64 0) := by have := hP 1 _ (show (exCells bF bX).toList[1]? = some _ from rfl); rw [Nat.zero_add] at this; exact this
  have p2 : W1.cell? ⟨w1.heap.size, 2, none⟩ = some (.int .i64 10) := by have := hP 2 _ (show (exCells bF bX).toList[2]? = some _ from rfl); rw [Nat.zero_add] at this; exact this
  have p3 : W1.cell? ⟨w1.heap.size, 3, none⟩ = some (.int .i64 5000) := by have := hP 3 _ (show (exCells bF bX).toList[3]? = some _ from rfl); rw [Nat.zero_add] at this; exact this
  have p4 : W1.cell? ⟨w1.heap.size, 4, none⟩ = some (.int .i64 9000) := by have := hP 4 _ (show (exCells bF bX).toList[4]? = some _ from rfl); rw [Nat.zero_add] at this; exact this
  have p5 : W1.cell? ⟨w1.heap.size, 5, none⟩ = some (.int .i64 1000) := by have := hP 5 _ (show (exCells bF bX).toList[5]? = some _ from rfl); rw [Nat.zero_add] at this; exact this
  have p6 : W1.cell? ⟨w1.heap.size, 6, none⟩ = some (.int .i64 3000) := by have := hP 6 _ (show (exCells bF bX).toList[6]? = some _ from rfl); rw [Nat.zero_add] at this; exact this
  have p7 : W1.cell? ⟨w1.heap.size, 7, none⟩ = some (.bool false) := by have := hP 7 _ (show (exCells bF bX).toList[7]? = some _ from rfl); rw [Nat.zero_add] at this; exact this
  have p8 : W1.cell? ⟨w1.heap.size, 8, none⟩ = some (.bool false) := by have := hP 8 _ (show (exCells bF bX).toList[8]? = some _ from rfl); rw [Nat.zero_add] at this; exact this
  have p9 : W1.cell? ⟨w1.heap.size, 9, none⟩ = some (.int .i64 0) := by have := hP 9 _ (show (exCells bF bX).toList[9]? = some _ from rfl); rw [Nat.zero_add] at this; exact this
  have p10 : W1.cell? ⟨w1.heap.size, 10, none⟩ = some (.int .i64 0) := by have := hP 10 _ (show (exCells bF bX).toList[10]? = some _ from rfl); rw [Nat.zero_add] at this; exact this
  have p11 : W1.cell? ⟨w1.heap.size, 11, none⟩ = some (.int .i64 0) := by have := hP 11 _ (show (exCells bF bX).toList[11]? = some _ from rfl); rw [Nat.zero_add] at this; exact this
  have p12 : W1.cell? ⟨w1.heap.size, 12, none⟩ = some (.slice (some ⟨bF, 0, none⟩) 2 2) := by have := hP 12 _ (show (exCells bF bX).toList[12]? = some _ from rfl); rw [Nat.zero_add] at this; exact this
  have p13 : W1.cell? ⟨w1.heap.size, 13, none⟩ = some (.slice none 0 0) := by have := hP 13 _ (show (exCells bF bX).toList[13]? = some _ from rfl); rw [Nat.zero_add] at this; exact this
  have p14 : W1.cell? ⟨w1.heap.size, 14, none⟩ = some (.int .i64 20) := by have := hP 14 _ (show (exCells bF bX).toList[14]? = some _ from rfl); rw [Nat.zero_add] at this; exact this
  have p15 : W1.cell? ⟨w1.heap.size, 15, none⟩ = some (.int .i64 3000) := by have := hP 15 _ (show (exCells bF bX).toList[15]? = some _ from rfl); rw [Nat.zero_add] at this; exact this
  have p16 : W1.cell? ⟨w1.heap.size, 16, none⟩ = some (.int .i64 500) := by have := hP 16 _ (show (exCells bF bX).toList[16]? = some _ from rfl); rw [Nat.zero_add] at this; exact this
  have p17 : W1.cell? ⟨w1.heap.size, 17, none⟩ = some (.bool false) := by have := hP 17 _ (show (exCells bF bX).toList[17]? = some _ from rfl); rw [Nat.zero_add] at this; exact this
  have p18 : W1.cell? ⟨w1.heap.size, 18, none⟩ = some (.bool false) := by have := hP 18 _ (show (exCells bF bX).toList[18]? = some _ from rfl); rw [Nat.zero_add] at this; exact this
  have p19 : W1.cell? ⟨w1.heap.size, 19, none⟩ = some (.slice (some ⟨bX, 0, none⟩) 2 2) := by have := hP 19 _ (show (exCells bF bX).toList[19]? = some _ from rfl); rw [Nat.zero_add] at this; exact this
  have f0 : W1.cell? ⟨w1.heap.size + 1, 0, none⟩ = some (.slice (some ⟨bR, 0, none⟩) 3 3) := by have := hF 0 _ (show (exCellsF bR).toList[0]? = some _ from rfl); rw [Nat.zero_add] at this; exact this
  have f1 : W1.cell? ⟨w1.heap.size + 1, 1, none⟩ = some (.int .i64 0) := by have := hF 1 _ (show (exCellsF bR).toList[1]? = some _ from rfl); rw [Nat.zero_add] at this; exact this
  have f2 : W1.cell? ⟨w1.heap.size + 1, 2, none⟩ = some (.int .i64 100) := by have := hF 2 _ (show (exCellsF bR).toList[2]? = some _ from rfl); rw [Nat.zero_add] at this; exact this
  have f3 : W1.cell? ⟨w1.heap.size + 1, 3, none⟩ = some (.int .i64 2) := by have := hF 3 _ (show (exCellsF bR).toList[3]? = some _ from rfl); rw [Nat.zero_add] at this; exact this
  have f4 : W1.cell? ⟨w1.heap.size + 1, 4, none⟩ = some (.int .i64 20) := by have := hF 4 _ (show (exCellsF bR).toList[4]? = some _ from rfl); rw [Nat.zero_add] at this; exact this
  have hz0 : w1.heap.size < W1.heap.size := by omega
  replace hP := Lib.hid hP
  replace hF := Lib.hid hF
  have hI1 := Lib.hid (hI.out.ext hx1)
  have hxw : Ext w W1 := hb1.trans hx1
  go_wp2_with fail
  refine (Least_31 (exI bF bX bR) _ hI1.out (exI_short _ _ _)).mono ?_
  rw [hlE.out]
  rintro e2 w2 ⟨rfl, hb2⟩
  obtain ⟨hc2, hf2, hz2⟩ := hb2.cells
  go_wp2_with fail
  refine (Best_20 (exI bF bX bR) 12 _ (hI1.out.ext (by with_reducible (repeat first | assumption | exact Ext.refl _ | refine Ext.set ?_ (by omega) _ | refine Ext.alloc ?_ _ | refine Ext.drew ?_ | refine Ext.drewN ?_ _ | refine Ext.trans ?_ (by assumption)))) (exI_short _ _ _)).mono ?_
  rw [hbE.out]
  rintro e3 w3 ⟨rfl, hb3⟩
  obtain ⟨hc3, hf3, hz3⟩ := hb3.cells
  go_wp2_with fail
  go_ret
  exact ⟨rfl, (by with_reducible (repeat first | assumption | exact Ext.refl _ | refine Ext.set ?_ (by omega) _ | refine Ext.alloc ?_ _ | refine Ext.drew ?_ | refine Ext.drewN ?_ _ | refine Ext.trans ?_ (by assumption)))⟩
end Go.Proofs.YtmmimbcfgobnaaaGreat
