/- route.newNet. -/
import Derived.Test.YtmmimbcfgobnaaaGreatR2
import Derived.Test.YtmmimbcfgobnaaaGreatW8
import Derived.Deep.CutRange
set_option linter.unusedVariables false
set_option linter.unusedSimpArgs false
namespace Go.Proofs.YtmmimbcfgobnaaaGreat
open Go.RowKit
set_option linter.unusedVariables false
set_option linter.unusedSimpArgs false
attribute [local go_sem] stored_match isSome_setCell

/-- A met at the head of block b. -/
structure MetAt (w : World) (b : Nat) (m : Met) (F S : Value) : Prop where
  lt : b < w.heap.size
  c0 : w.cell? ⟨b, 0, none⟩ = some (.int .i64 m.places)
  c1 : w.cell? ⟨b, 1, none⟩ = some (.int .i64 m.any.w.lo)
  c2 : w.cell? ⟨b, 2, none⟩ = some (.int .i64 m.any.w.hi)
  c3 : w.cell? ⟨b, 3, none⟩ = some (.int .i64 m.any.s.lo)
  c4 : w.cell? ⟨b, 4, none⟩ = some (.int .i64 m.any.s.hi)
  c5 : w.cell? ⟨b, 5, none⟩ = some (.int .i64 m.any.c.lo)
  c6 : w.cell? ⟨b, 6, none⟩ = some (.int .i64 m.any.c.hi)
  c7 : w.cell? ⟨b, 7, none⟩ = some (.bool m.any.ice)
  c8 : w.cell? ⟨b, 8, none⟩ = some (.bool m.any.storm)
  c9 : w.cell? ⟨b, 9, none⟩ = some (.int .i64 m.wind)
  c10 : w.cell? ⟨b, 10, none⟩ = some (.int .i64 m.see)
  c11 : w.cell? ⟨b, 11, none⟩ = some (.int .i64 m.ceil)
  c12 : w.cell? ⟨b, 12, none⟩ = some F
  c13 : w.cell? ⟨b, 13, none⟩ = some S
theorem MetAt.same {w w' : World} {b : Nat} {m : Met} {F S : Value} (h : MetAt w b m F S) (hl : b < w'.heap.size) (e : ∀ o, w'.cell? ⟨b, o, none⟩ = w.cell? ⟨b, o, none⟩) : MetAt w' b m F S :=
  ⟨hl, (e _).trans h.c0, (e _).trans h.c1, (e _).trans h.c2, (e _).trans h.c3, (e _).trans h.c4, (e _).trans h.c5, (e _).trans h.c6, (e _).trans h.c7, (e _).trans h.c8, (e _).trans h.c9, (e _).trans h.c10, (e _).trans h.c11, (e _).trans h.c12, (e _).trans h.c13⟩
theorem MetAt.ext {w w' : World} {b : Nat} {m : Met} {F S : Value} (h : MetAt w b m F S) (e : Ext w w') : MetAt w' b m F S :=
  h.same (e.cells.2.2 _ h.lt) (fun o => e.cells.1 _ o h.lt)

/-- Minima at the head of block b. -/
structure MinAt (w : World) (b : Nat) (l : Minima) : Prop where
  lt : b < w.heap.size
  c0 : w.cell? ⟨b, 0, none⟩ = some (.int .i64 l.wind)
  c1 : w.cell? ⟨b, 1, none⟩ = some (.int .i64 l.see)
  c2 : w.cell? ⟨b, 2, none⟩ = some (.int .i64 l.ceil)
  c3 : w.cell? ⟨b, 3, none⟩ = some (.bool l.ice)
  c4 : w.cell? ⟨b, 4, none⟩ = some (.bool l.storm)
theorem MinAt.ext {w w' : World} {b : Nat} {l : Minima} (h : MinAt w b l) (e : Ext w w') : MinAt w' b l :=
  ⟨e.cells.2.2 _ h.lt, (e.cells.1 _ _ h.lt).trans h.c0, (e.cells.1 _ _ h.lt).trans h.c1, (e.cells.1 _ _ h.lt).trans h.c2, (e.cells.1 _ _ h.lt).trans h.c3, (e.cells.1 _ _ h.lt).trans h.c4⟩
theorem opened_zero {m : Met} {l : Minima} (hg : m.good = true) (hl : l.good = true) : (m.opened l 0 0).2 = 0 := by
  obtain ⟨⟨p1, p8⟩, -⟩ := Met.good_parts hg
  have h1 : checkMinima m l = 0 := (checkMinima_of m l).2 ⟨hg, hl⟩
  have h2 : checkAt m 0 0 = 0 := by
    unfold checkAt
    rw [if_pos hg, if_pos]
    rw [within_true.2 (by omega), within_true.2 (by omega)]; rfl
  have h3 : checkOpen m l 0 0 = 0 := by unfold checkOpen; rw [if_pos h1, h2]
  unfold Met.opened
  rw [if_pos h3]
theorem opened_bad {m : Met} {l : Minima} (hg : m.good = true) (hl : l.good = false) : (m.opened l 0 0).2 = 41 := by
  have h1 : checkMinima m l = 41 := by unfold checkMinima; rw [if_pos hg, if_neg (by simp [hl])]
  have h3 : checkOpen m l 0 0 = 41 := by unfold checkOpen; rw [if_neg (by omega), h1]
  unfold Met.opened
  rw [if_neg (by omega)]
  exact h3

structure Two where
  lo1 : Nat
  hi1 : Nat
  g1 : Nat
  c1 : Nat
  r1 : Nat → Nat
  lo2 : Nat
  hi2 : Nat
  g2 : Nat
  c2 : Nat
  r2 : Nat → Nat
/-- A net in block q, with its two tables, all made since W0. -/
structure NetSt (W0 : World) (m : Met) (F S : Value) (q n : Nat) (t : Two) (fL fT : Tab) (w : World) : Prop where
  ext : Ext W0 w
  q1 : W0.heap.size ≤ q
  sep : t.hi1 ≤ t.lo2 ∨ t.hi2 ≤ t.lo1
  l1 : W0.heap.size ≤ t.lo1
  l2 : W0.heap.size ≤ t.lo2
  h1 : t.hi1 ≤ q
  h2 : t.hi2 ≤ q
  met : MetAt w q m F S
  legs : w.cell? ⟨q, 14, none⟩ = some (.slice (some ⟨t.g1, 0, none⟩) n t.c1)
  times : w.cell? ⟨q, 15, none⟩ = some (.slice (some ⟨t.g2, 0, none⟩) n t.c2)
  T1 : TabOwn w t.lo1 t.hi1 t.g1 n t.r1 fL
  T2 : TabOwn w t.lo2 t.hi2 t.g2 n t.r2 fT
theorem NetSt.grow {W0 : World} {m : Met} {F S : Value} {q n : Nat} {t : Two} {fL fT : Tab} {w w' : World} (h : NetSt W0 m F S q n t fL fT w) (e : Ext w w') : NetSt W0 m F S q n t fL fT w' :=
  ⟨h.ext.trans e, h.q1, h.sep, h.l1, h.l2, h.h1, h.h2, h.met.ext e, (e.cells.1 _ _ h.met.lt).trans h.legs, (e.cells.1 _ _ h.met.lt).trans h.times, h.T1.ext e, h.T2.ext e⟩
theorem NetSt.put1 {W0 : World} {m : Met} {F S : Value} {q n : Nat} {t : Two} {fL fL' fT : Tab} {w w' : World} (h : NetSt W0 m F S q n t fL fT w) (hT : TabOwn w' t.lo1 t.hi1 t.g1 n t.r1 fL') (k : Wrote t.lo1 t.hi1 w w') : NetSt W0 m F S q n t fL' fT w' :=
  ⟨k.ext h.ext h.l1, h.q1, h.sep, h.l1, h.l2, h.h1, h.h2, h.met.same (by rw [k.size]; exact h.met.lt) (fun o => k.cells.1 _ o (Or.inr h.h1)), (k.cells.1 _ _ (Or.inr h.h1)).trans h.legs, (k.cells.1 _ _ (Or.inr h.h1)).trans h.times, hT, h.T2.wrote k (by have := h.sep; omega)⟩
theorem NetSt.put2 {W0 : World} {m : Met} {F S : Value} {q n : Nat} {t : Two} {fL fT fT' : Tab} {w w' : World} (h : NetSt W0 m F S q n t fL fT w) (hT : TabOwn w' t.lo2 t.hi2 t.g2 n t.r2 fT') (k : Wrote t.lo2 t.hi2 w w') : NetSt W0 m F S q n t fL fT' w' :=
  ⟨k.ext h.ext h.l2, h.q1, h.sep, h.l1, h.l2, h.h1, h.h2, h.met.same (by rw [k.size]; exact h.met.lt) (fun o => k.cells.1 _ o (Or.inr h.h2)), (k.cells.1 _ _ (Or.inr h.h2)).trans h.legs, (k.cells.1 _ _ (Or.inr h.h2)).trans h.times, h.T1.wrote k (by have := h.sep; omega), hT⟩
theorem NetSt.congr {W0 : World} {m : Met} {F S : Value} {q n : Nat} {t : Two} {fL fT fL' fT' : Tab} {w : World} (h : NetSt W0 m F S q n t fL fT w) (e1 : fL = fL') (e2 : fT = fT') : NetSt W0 m F S q n t fL' fT' w := by subst e1; subst e2; exact h

theorem square_any (p : Int) (x : Int) (hp : 1 ≤ p ∧ p ≤ 8) (w : World) : Calls Tryz.prog 100 #[.int .i64 p, .int .i64 x] w (SquarePost p.toNat x w) := by
  obtain ⟨n, rfl⟩ := Int.eq_ofNat_of_zero_le (show 0 ≤ p by omega)
  rw [Int.toNat_natCast]
  exact square_100 n x (by omega) w
def NetPost (w : World) (m : Met) (xs : List Leg) (F S : Value) (e : Ending) (w' : World) : Prop :=
  ∃ q t, e = .returned (.tuple #[.pointer (some ⟨q, 0, none⟩), .int .i64 0]) ∧ NetSt w m F S q m.places.toNat t (Net.mk m xs).L (Net.mk m xs).T w'
theorem NetSt.since {W W0 : World} {m : Met} {F S : Value} {q n : Nat} {t : Two} {fL fT : Tab} {w : World} (h : NetSt W0 m F S q n t fL fT w) (e : Ext W W0) : NetSt W m F S q n t fL fT w :=
  ⟨e.trans h.ext, Nat.le_trans e.size h.q1, h.sep, Nat.le_trans e.size h.l1, Nat.le_trans e.size h.l2, h.h1, h.h2, h.met, h.legs, h.times, h.T1, h.T2⟩
set_option maxRecDepth 100000 in
set_option maxHeartbeats 2000000 in
theorem newNet_nil (m : Met) (xs : List Leg) (AF AS : Option Addr) (nF cF nS cS : Nat) (A : Option Addr) (nx c : Nat) (w : World) (hm : MetIn w m AF nF AS nS) (hx : Rows 3 Leg.enc w A nx xs) (hg : (Net.mk m xs).good = true) :
    Calls Tryz.prog 63 #[m.val (.slice AF nF cF) (.slice AS nS cS), .pointer none, .slice A nx c] w (NetPost w m xs (.slice AF nF cF) (.slice AS nS cS)) := by
  simp only [Net.good, Bool.and_eq_true, decide_eq_true_eq] at hg
  obtain ⟨⟨hg, hlen⟩, hall⟩ := hg
  have hck : m.check = 0 := check_good.2 hg
  obtain ⟨⟨p1, p8⟩, -⟩ := Met.good_parts hg
  have hbad : xs.any (legBad m.places) = false := by rw [any_legBad, hall]; rfl
  obtain rfl := hx.len
  simp only [Met.val]
  go_enter Tryz.func63, Tryz.ntmps63
  go_wp2_with fail
  refine name_world (R := fun W => Calls _ _ _ W _) fun W0 hx0 hc0 hf0 hz0 => ?_
  simp at hz0
  have p0_ : W0.cell? ⟨w.heap.size, 0, none⟩ = some (.int .i64 m.places) := by go_simp
  have p1_ : W0.cell? ⟨w.heap.size, 1, none⟩ = some (.int .i64 m.any.w.lo) := by go_simp
  have p2 : W0.cell? ⟨w.heap.size, 2, none⟩ = some (.int .i64 m.any.w.hi) := by go_simp
  have p3 : W0.cell? ⟨w.heap.size, 3, none⟩ = some (.int .i64 m.any.s.lo) := by go_simp
  have p4 : W0.cell? ⟨w.heap.size, 4, none⟩ = some (.int .i64 m.any.s.hi) := by go_simp
  have p5 : W0.cell? ⟨w.heap.size, 5, none⟩ = some (.int .i64 m.any.c.lo) := by go_simp
  have p6 : W0.cell? ⟨w.heap.size, 6, none⟩ = some (.int .i64 m.any.c.hi) := by go_simp
  have p7 : W0.cell? ⟨w.heap.size, 7, none⟩ = some (.bool m.any.ice) := by go_simp
  have p8_ : W0.cell? ⟨w.heap.size, 8, none⟩ = some (.bool m.any.storm) := by go_simp
  have p9 : W0.cell? ⟨w.heap.size, 9, none⟩ = some (.int .i64 m.wind) := by go_simp
  have p10 : W0.cell? ⟨w.heap.size, 10, none⟩ = some (.int .i64 m.see) := by go_simp
  have p11 : W0.cell? ⟨w.heap.size, 11, none⟩ = some (.int .i64 m.ceil) := by go_simp
  have p12 : W0.cell? ⟨w.heap.size, 12, none⟩ = some (.slice AF nF cF) := by go_simp
  have p13 : W0.cell? ⟨w.heap.size, 13, none⟩ = some (.slice AS nS cS) := by go_simp
  have e00 : w.heap.size < W0.heap.size := by omega
  clear hc0 hf0 hz0
  go_wp2_with (first | (go_at_call 95; refine (check_95 m AF AS nF cF nS cS _ (hm.ext (by with_reducible (repeat first | assumption | exact Ext.refl _ | refine Ext.set ?_ (by omega) _ | refine Ext.alloc ?_ _ | refine Ext.drew ?_ | refine Ext.drewN ?_ _ | refine Ext.trans ?_ (by assumption))))).mono ?_; rintro e1 w1 ⟨rfl, hb1⟩; have hx1 : Ext W0 w1 := (by with_reducible (repeat first | assumption | exact Ext.refl _ | refine Ext.set ?_ (by omega) _ | refine Ext.alloc ?_ _ | refine Ext.drew ?_ | refine Ext.drewN ?_ _ | refine Ext.trans ?_ (by assumption))); obtain ⟨hc1, hf1, hz1⟩ := hx1.cells) | (go_at_call 98; refine (contains_98 m.places w.heap.size _ p1 p8 xs A _ c _ (hx.ext (by with_reducible (repeat first | assumption | exact Ext.refl _ | refine Ext.set ?_ (by omega) _ | refine Ext.alloc ?_ _ | refine Ext.drew ?_ | refine Ext.drewN ?_ _ | refine Ext.trans ?_ (by assumption)))) (by go_simp) (by go_simp) (by go_simp) (by go_simp)).mono ?_; rintro e1 w1 ⟨rfl, hb1⟩; have hx1 : Ext W0 w1 := (by with_reducible (repeat first | assumption | exact Ext.refl _ | refine Ext.set ?_ (by omega) _ | refine Ext.alloc ?_ _ | refine Ext.drew ?_ | refine Ext.drewN ?_ _ | refine Ext.trans ?_ (by assumption))); obtain ⟨hc1, hf1, hz1⟩ := hx1.cells))
  have hx1 : Ext W0 w1 := hx1
  refine name_world (R := fun W => Code.wp _ _ _ _ W) fun W1 hx2 hc2 hf2 hz2 => ?_
  have hxw : Ext w W1 := (by with_reducible (repeat first | assumption | exact Ext.refl _ | refine Ext.set ?_ (by omega) _ | refine Ext.alloc ?_ _ | refine Ext.drew ?_ | refine Ext.drewN ?_ _ | refine Ext.trans ?_ (by assumption)))
  go_upto_region 11 with fail
  go_cut [12] (fun s12 wx => ∃ q t, s12 = .pointer (some ⟨q, 0, none⟩) ∧ NetSt W1 m (.slice AF nF cF) (.slice AS nS cS) q m.places.toNat t tab0 tab0 wx)
  case first =>
    have e0 : w.heap.size < W1.heap.size := by have := hx1.size; have := hx2.size; omega
    have q0 : W1.cell? ⟨w.heap.size, 0, none⟩ = some (.int .i64 m.places) := by go_simp
    have q1 : W1.cell? ⟨w.heap.size, 1, none⟩ = some (.int .i64 m.any.w.lo) := by go_simp
    have q2 : W1.cell? ⟨w.heap.size, 2, none⟩ = some (.int .i64 m.any.w.hi) := by go_simp
    have q3 : W1.cell? ⟨w.heap.size, 3, none⟩ = some (.int .i64 m.any.s.lo) := by go_simp
    have q4 : W1.cell? ⟨w.heap.size, 4, none⟩ = some (.int .i64 m.any.s.hi) := by go_simp
    have q5 : W1.cell? ⟨w.heap.size, 5, none⟩ = some (.int .i64 m.any.c.lo) := by go_simp
    have q6 : W1.cell? ⟨w.heap.size, 6, none⟩ = some (.int .i64 m.any.c.hi) := by go_simp
    have q7 : W1.cell? ⟨w.heap.size, 7, none⟩ = some (.bool m.any.ice) := by go_simp
    have q8 : W1.cell? ⟨w.heap.size, 8, none⟩ = some (.bool m.any.storm) := by go_simp
    have q9 : W1.cell? ⟨w.heap.size, 9, none⟩ = some (.int .i64 m.wind) := by go_simp
    have q10 : W1.cell? ⟨w.heap.size, 10, none⟩ = some (.int .i64 m.see) := by go_simp
    have q11 : W1.cell? ⟨w.heap.size, 11, none⟩ = some (.int .i64 m.ceil) := by go_simp
    have q12 : W1.cell? ⟨w.heap.size, 12, none⟩ = some (.slice AF nF cF) := by go_simp
    have q13 : W1.cell? ⟨w.heap.size, 13, none⟩ = some (.slice AS nS cS) := by go_simp
    clear hc1 hf1 hz1 hc2 hf2 hz2 hx0 hx1
    have tok1 : True := trivial
    go_region_held3 (fun w' => HoldsAll W1 w') ((with_reducible ((repeat refine HoldsAll.drew ?_); first | (first | assumption | exact HoldsAll.refl _ | exact HoldsAll.of_drew (by assumption)) | (refine HoldsAll.ext ?_ (by assumption); first | assumption | exact HoldsAll.refl _ | exact HoldsAll.of_drew (by assumption)) | (refine HoldsAll.alloc ?_ _; first | assumption | exact HoldsAll.refl _ | exact HoldsAll.of_drew (by assumption)) | exact HoldsAll.realloc (by first | assumption | exact HoldsAll.refl _ | exact HoldsAll.of_drew (by assumption)) (by omega) | ((repeat first | refine HoldsAll.fresh ?_ (by omega) _); first | assumption | exact HoldsAll.refl _ | exact HoldsAll.of_drew (by assumption))))) (first | (go_at_call 100; have _t := tok1; refine (square_any m.places (-1) ⟨p1, p8⟩ _).mono ?_; rintro e1 wA ⟨gA, cA, rA, rfl, hbA, hTA⟩; clear tok1 _t) | (go_at_call 100; refine (square_any m.places (-1) ⟨p1, p8⟩ _).mono ?_; rintro e1 wB ⟨gB, cB, rB, rfl, hbB, hTB⟩))
    go_wp2_with fail
    go_meet
    have sA := hbA.size
    have sB := hbB.size
    simp at sA
    refine ⟨wB.heap.size, ⟨W1.heap.size, wA.heap.size, gA, cA, rA, wA.heap.size, wB.heap.size, gB, cB, rB⟩, rfl, ?_⟩
    exact ⟨(by with_reducible (repeat first | assumption | exact Ext.refl _ | refine Ext.set ?_ (by omega) _ | refine Ext.alloc ?_ _ | refine Ext.drew ?_ | refine Ext.drewN ?_ _ | refine Ext.trans ?_ (by assumption))), by omega, Or.inl (Nat.le_refl _), Nat.le_refl _, sA, sB, Nat.le_refl _, ⟨by simp, by simp, by simp, by simp, by simp, by simp, by simp, by simp, by simp, by simp, by simp, by simp, by simp, by simp, by simp⟩, by simp, by simp, hTA.ext (by with_reducible (repeat first | assumption | exact Ext.refl _ | refine Ext.set ?_ (by omega) _ | refine Ext.alloc ?_ _ | refine Ext.drew ?_ | refine Ext.drewN ?_ _ | refine Ext.trans ?_ (by assumption))), hTB.ext (by with_reducible (repeat first | assumption | exact Ext.refl _ | refine Ext.set ?_ (by omega) _ | refine Ext.alloc ?_ _ | refine Ext.drew ?_ | refine Ext.drewN ?_ _ | refine Ext.trans ?_ (by assumption)))⟩
  case rest =>
    obtain ⟨q, t, rfl, hN⟩ := hcut
    have e0 : w.heap.size < W1.heap.size := by have := hx1.size; have := hx2.size; omega
    have b0 : W1.cell? ⟨w.heap.size, 0, none⟩ = some (.int .i64 m.places) := by go_simp
    have hn1 : (m.places.toNat : Int) ≤ m.places := by omega
    have hn2 : m.places ≤ (m.places.toNat : Int) := by omega
    have hT0 : (Net.mk m xs).T = timesOf m.places.toNat xs := rfl
    have hn8 : m.places.toNat ≤ 8 := by omega
    generalize hnk : m.places.toNat = n at *
    have hnk := Lib.hid hnk
    have hT0 := Lib.hid hT0
    have hL0 := Lib.hid (show (Net.mk m xs).L = legTab xs from rfl)
    have hXW := Lib.hid (hx.ext hxw)
    have hEW := Lib.hid hxw
    have hok := Lib.hid (fun x hx => Leg.ok_parts (List.all_eq_true.1 hall x hx))
    have i0 : ∀ (x0 x1 : Value) w, (Instr.index 153 (.agg #[x0, x1]) (.int .i64 0)).run Tryz.prog w = .ok x0 w := fun _ _ _ => by kernel_rfl
    have i1 : ∀ (x0 x1 : Value) w, (Instr.index 153 (.agg #[x0, x1]) (.int .i64 1)).run Tryz.prog w = .ok x1 w := fun _ _ _ => by kernel_rfl
    clear hc1 hf1 hz1 hc2 hf2 hz2 hx0 hx1 hx2 hx hm hbad hck hall hg
    go_wp2_with fail
    go_loopw [62] (fun i wr => ∃ k : Nat, k ≤ xs.length ∧ i = .int .i64 k ∧ NetSt W1 m (.slice AF nF cF) (.slice AS nS cS) q n t ((xs.take k).foldl Tab.leg tab0) ((xs.take k).foldl Tab.leg tab0) wr) (fun i _ => xs.length - (intOf i).toNat)
    case atStart => exact ⟨0, Nat.zero_le _, rfl, hN⟩
    case round =>
      clear hN
      obtain ⟨k, hk, rfl, hN⟩ := hrel
      have b1 := (hN.ext.cells.1 _ _ e0).trans b0
      have e1 := Nat.lt_of_lt_of_le e0 hN.ext.size
      by_cases hlt : k < xs.length
      ·
        --<1
        obtain ⟨x, hx⟩ : ∃ x, xs[k]? = some x := ⟨_, List.getElem?_eq_getElem hlt⟩
        obtain ⟨bx, off, rfl, hbx, q0, q1, q2⟩ := (hXW.out.ext hN.ext).leg hlt hx
        obtain ⟨⟨o1, o2⟩, ⟨o3, o4⟩, -, ⟨o5, o6⟩⟩ := hok.out x (List.mem_of_getElem? hx)
        have hst := Lib.hid (foldl_take_succ Tab.leg tab0 x xs k hx)
        obtain ⟨xa, xb, xt⟩ := x
        dsimp only at q0 q1 q2 o1 o2 o3 o4 o5 o6
        obtain ⟨xa, rfl⟩ := Int.eq_ofNat_of_zero_le o1
        obtain ⟨xb, rfl⟩ := Int.eq_ofNat_of_zero_le o3
        have l1 := hN.legs
        have l2 := hN.times
        have l3 := hN.met.lt
        have u1 := hN.h1
        have u2 := hN.h2
        generalize (xs.take k).foldl Tab.leg tab0 = f at *
        have hN := Lib.hid hN
        clear b0 hx
        go_wp2_with fail
        go_quiet (fail)
        go_wp2_with fail
        refine name_world (R := fun W => Code.wp _ _ _ _ W) fun W2 hx2 hc2 hf2 hz2 => ?_
        have hN2 := hN.out.grow ((by with_reducible (repeat first | assumption | exact Ext.refl _ | refine Ext.set ?_ (by omega) _ | refine Ext.alloc ?_ _ | refine Ext.drew ?_ | refine Ext.drewN ?_ _ | refine Ext.trans ?_ (by assumption))) : Ext wr W2)
        have d0 : W2.cell? ⟨wr.heap.size, 0, none⟩ = some (.int .i64 xa) := by go_simp
        have d1 : W2.cell? ⟨wr.heap.size, 1, none⟩ = some (.int .i64 xb) := by go_simp
        have d2 : W2.cell? ⟨wr.heap.size, 2, none⟩ = some (.int .i64 xt) := by go_simp
        obtain ⟨wo, rfl⟩ : ∃ wo : World, wo = wr := ⟨_, rfl⟩
        clear hN l1 l2 b1 q0 q1 q2 hc2 hf2 hz2 hx2
        go_loopw [75] (fun j wr => ∃ i : Nat, i ≤ 2 ∧ j = .int .i64 i ∧ NetSt W1 m (.slice AF nF cF) (.slice AS nS cS) q n t (if 1 ≤ i then f.leg ⟨xa, xb, xt⟩ else f) (if 2 ≤ i then f.leg ⟨xa, xb, xt⟩ else f) wr ∧ (wr.cell? ⟨wo.heap.size, 0, none⟩ = some (.int .i64 xa) ∧ wr.cell? ⟨wo.heap.size, 1, none⟩ = some (.int .i64 xb) ∧ wr.cell? ⟨wo.heap.size, 2, none⟩ = some (.int .i64 xt))) (fun j _ => 2 - (intOf j).toNat)
        case atStart => exact ⟨0, by omega, rfl, hN2, d0, d1, d2⟩
        case round =>
          clear hN2 d0 d1 d2
          obtain ⟨i, hi, rfl, hN, d0, d1, d2⟩ := hrel
          have hi3 : i = 0 ∨ i = 1 ∨ i = 2 := by omega
          rcases hi3 with rfl | rfl | rfl
          · simp only [show ¬ (1 ≤ 0) by omega, show ¬ (2 ≤ 0) by omega, if_false] at hN
            have hT := Lib.hid hN.T1
            have hN := Lib.hid hN
            go_wp2_with fail
            refine (short_101 xa xb n t.c1 _ _ _ _ _ xt (by omega) (by omega) hn8 _ (hT.out.ext (by with_reducible (repeat first | assumption | exact Ext.refl _ | refine Ext.set ?_ (by omega) _ | refine Ext.alloc ?_ _ | refine Ext.drew ?_ | refine Ext.drewN ?_ _ | refine Ext.trans ?_ (by assumption))))).mono ?_
            rintro e1 w1 ⟨rfl, hT1, hW1⟩
            have f0 := (hW1.cells.1 _ 0 (Or.inr (by omega))).trans d0
            have f1 := (hW1.cells.1 _ 1 (Or.inr (by omega))).trans d1
            have f2 := (hW1.cells.1 _ 2 (Or.inr (by omega))).trans d2
            have hT1 := Lib.hid hT1
            have hW1 := Lib.hid hW1
            clear d0 d1 d2
            go_wp2_with fail
            refine (short_101 xb xa n t.c1 _ _ _ _ _ xt (by omega) (by omega) hn8 _ (hT1.out.ext (by with_reducible (repeat first | assumption | exact Ext.refl _ | refine Ext.set ?_ (by omega) _ | refine Ext.alloc ?_ _ | refine Ext.drew ?_ | refine Ext.drewN ?_ _ | refine Ext.trans ?_ (by assumption))))).mono ?_
            rintro e1 w2 ⟨rfl, hT2, hW2⟩
            have g0 := (hW2.cells.1 _ 0 (Or.inr (by omega))).trans f0
            have g1 := (hW2.cells.1 _ 1 (Or.inr (by omega))).trans f1
            have g2 := (hW2.cells.1 _ 2 (Or.inr (by omega))).trans f2
            have hT2 := Lib.hid hT2
            have hW2 := Lib.hid hW2
            clear f0 f1 f2
            go_wp2_with fail
            go_roundw
            case rel => exact ⟨1, by omega, by go_num, (hN.out.put1 hT2.out (hW1.out.trans hW2.out)).congr rfl rfl, g0, g1, g2⟩
            case measure => simp [intOf]
          · simp only [show (1 ≤ 1) by omega, show ¬ (2 ≤ 1) by omega, if_false, if_true] at hN
            have hT := Lib.hid hN.T2
            have hN := Lib.hid hN
            go_wp2_with fail
            refine (short_101 xa xb n t.c2 _ _ _ _ _ xt (by omega) (by omega) hn8 _ (hT.out.ext (by with_reducible (repeat first | assumption | exact Ext.refl _ | refine Ext.set ?_ (by omega) _ | refine Ext.alloc ?_ _ | refine Ext.drew ?_ | refine Ext.drewN ?_ _ | refine Ext.trans ?_ (by assumption))))).mono ?_
            rintro e1 w1 ⟨rfl, hT1, hW1⟩
            have f0 := (hW1.cells.1 _ 0 (Or.inr (by omega))).trans d0
            have f1 := (hW1.cells.1 _ 1 (Or.inr (by omega))).trans d1
            have f2 := (hW1.cells.1 _ 2 (Or.inr (by omega))).trans d2
            have hT1 := Lib.hid hT1
            have hW1 := Lib.hid hW1
            clear d0 d1 d2
            go_wp2_with fail
            refine (short_101 xb xa n t.c2 _ _ _ _ _ xt (by omega) (by omega) hn8 _ (hT1.out.ext (by with_reducible (repeat first | assumption | exact Ext.refl _ | refine Ext.set ?_ (by omega) _ | refine Ext.alloc ?_ _ | refine Ext.drew ?_ | refine Ext.drewN ?_ _ | refine Ext.trans ?_ (by assumption))))).mono ?_
            rintro e1 w2 ⟨rfl, hT2, hW2⟩
            have g0 := (hW2.cells.1 _ 0 (Or.inr (by omega))).trans f0
            have g1 := (hW2.cells.1 _ 1 (Or.inr (by omega))).trans f1
            have g2 := (hW2.cells.1 _ 2 (Or.inr (by omega))).trans f2
            have hT2 := Lib.hid hT2
            have hW2 := Lib.hid hW2
            clear f0 f1 f2
            go_wp2_with fail
            go_roundw
            case rel => exact ⟨2, by omega, by go_num, (hN.out.put2 hT2.out (hW1.out.trans hW2.out)).congr rfl rfl, g0, g1, g2⟩
            case measure => simp [intOf]
          · simp only [show (1 ≤ 2) by omega, show (2 ≤ 2) by omega, if_true] at hN
            have hN := Lib.hid hN
            clear d0 d1 d2
            go_wp2_with fail
            go_roundw
            case rel => exact ⟨k + 1, by omega, by go_num, by rw [hst.out]; exact hN.out⟩
            case measure => simp [intOf]; omega
        -->1
      · obtain rfl : k = xs.length := by omega
        rw [List.take_of_length_le (Nat.le_refl _)] at hN
        have hup := legTab_upto (fun x hx => by
          obtain ⟨o1, o2, o3, o4⟩ := hok.out x hx
          show Leg.ok m.places x = true
          simp only [Leg.ok, Bool.and_eq_true, decide_eq_true_eq]
          exact ⟨⟨⟨within_true.2 o1, within_true.2 o2⟩, o3⟩, within_true.2 o4⟩)
        unfold timesOf at hT0
        rw [show xs.foldl Tab.leg tab0 = legTab xs from rfl] at hN
        generalize legTab xs = fL at *
        have hup := Lib.hid hup
        clear hok i0 i1
        go_wp2_with fail
        go_loopw [100] (fun i wr => ∃ k : Nat, k ≤ n ∧ i = .int .i64 k ∧ NetSt W1 m (.slice AF nF cF) (.slice AS nS cS) q n t fL (fL.diag k) wr) (fun i _ => n - (intOf i).toNat)
        case atStart => exact ⟨0, Nat.zero_le _, rfl, hN.congr rfl (Tab.diag_zero _).symm⟩
        case round =>
          clear hN b1 e1
          obtain ⟨k, hk, rfl, hN⟩ := hrel
          have b1 := (hN.ext.cells.1 _ _ e0).trans b0
          have e1 := Nat.lt_of_lt_of_le e0 hN.ext.size
          by_cases hlt : (k : Int) < m.places
          ·
            --<2
            have l2 := hN.times
            have r2 := hN.T2.row k (by omega)
            have r3 := hN.T2.cell k k (by omega) (by omega)
            have r4 := hN.T2.free k k (by omega)
            have hN := Lib.hid hN
            have hkn : k < n := by omega
            clear b0
            go_wp2_with fail
            go_roundw
            case rel => exact ⟨k + 1, by omega, by go_num, (hN.out.put2 (hN.out.T2.set hkn hkn 0) (Wrote.set _ ⟨hN.out.T2.r1 k hkn, hN.out.T2.r2 k hkn⟩)).congr rfl (Tab.diag_succ _ _).symm⟩
            case measure => simp [intOf]; omega
            -->2
          · obtain rfl : k = n := by omega
            generalize hD : fL.diag k = D at *
            have hD := Lib.hid hD
            have hT0 : (Net.mk m xs).T = Tab.fw k D k := by rw [hT0.out]
            have hup : D.upto 200 ∧ ∀ a : Int, 0 ≤ a → a < k → D a a = 0 := by
              rw [← hD.out]
              exact ⟨hup.out.diag (by omega) k, fun a h0 h1 => by unfold Tab.diag; rw [if_pos ⟨rfl, h0, h1⟩]⟩
            have hup := Lib.hid hup
            have hT0 := Lib.hid hT0
            clear hlt
            go_wp2_with fail
            go_loopw [115] (fun i wr => ∃ c : Nat, c ≤ k ∧ i = .int .i64 c ∧ NetSt W1 m (.slice AF nF cF) (.slice AS nS cS) q k t fL (Tab.fw k D c) wr) (fun i _ => k - (intOf i).toNat)
            case atStart => exact ⟨0, Nat.zero_le _, rfl, hN⟩
            case round =>
              clear hN b1 e1
              obtain ⟨c0, hc, rfl, hN⟩ := hrel
              have b1 := (hN.ext.cells.1 _ _ e0).trans b0
              have e1 := Nat.lt_of_lt_of_le e0 hN.ext.size
              by_cases hlt : (c0 : Int) < m.places
              · obtain ⟨hq1, hq2⟩ := Tab.fw_phase hup.out.1 hup.out.2 c0 hc
                have hst := Lib.hid (Tab.fw_succ k D c0)
                obtain ⟨B, hB0, hB1, hph⟩ : ∃ B : Int, 0 ≤ B ∧ B ≤ 51200 ∧ (Tab.fw k D c0).phase k c0 B := ⟨200 * 2 ^ c0, (pow_bd (by omega)).2, (pow_bd (by omega)).1, Tab.phase.start hq1 (pow_bd (by omega)).2 hq2 _⟩
                clear hq1 hq2
                generalize Tab.fw k D c0 = F at *
                have hph := Lib.hid hph
                have hc2 : c0 < k := by omega
                go_wp2_with fail
                obtain ⟨wo, rfl⟩ : ∃ wo : World, wo = wr := ⟨_, rfl⟩
                go_loopw [120] (fun i wr => ∃ a : Nat, a ≤ k ∧ i = .int .i64 a ∧ NetSt W1 m (.slice AF nF cF) (.slice AS nS cS) q k t fL (Tab.viaA k F c0 a) wr) (fun i _ => k - (intOf i).toNat)
                case atStart => exact ⟨0, Nat.zero_le _, rfl, hN⟩
                case round =>
                  clear hN b1 e1
                  obtain ⟨a, ha, rfl, hN⟩ := hrel
                  have b1 := (hN.ext.cells.1 _ _ e0).trans b0
                  have e1 := Nat.lt_of_lt_of_le e0 hN.ext.size
                  by_cases hlt : (a : Int) < m.places
                  · have hphA := hph.out.viaA (by omega) a ha
                    have hst2 := Lib.hid (Tab.viaA_succ k F c0 a)
                    generalize Tab.viaA k F c0 a = G at *
                    have hphA := Lib.hid hphA
                    have ha2 : a < k := by omega
                    go_wp2_with fail
                    obtain ⟨wo2, rfl⟩ : ∃ wo2 : World, wo2 = wr := ⟨_, rfl⟩
                    go_loopw [125] (fun i wr => ∃ b : Nat, b ≤ k ∧ i = .int .i64 b ∧ NetSt W1 m (.slice AF nF cF) (.slice AS nS cS) q k t fL (G.viaB c0 a b) wr) (fun i _ => k - (intOf i).toNat)
                    case atStart => exact ⟨0, Nat.zero_le _, rfl, hN⟩
                    case round =>
                      clear hN b1 e1
                      obtain ⟨b, hb, rfl, hN⟩ := hrel
                      have b1 := (hN.ext.cells.1 _ _ e0).trans b0
                      have e1 := Nat.lt_of_lt_of_le e0 hN.ext.size
                      by_cases hlt : (b : Int) < m.places
                      ·
                        --<3
                        have hphB := hphA.out.viaB (by omega) a (by omega) b hb
                        have hst3 := Lib.hid (Tab.viaB_succ G c0 a b)
                        generalize G.viaB c0 a b = f at *
                        obtain ⟨v1, v2⟩ := hphB.all a c0
                        obtain ⟨v3, v4⟩ := hphB.all c0 b
                        have hb2 : b < k := by omega
                        have l2 := hN.times
                        have r1 := hN.T2.row a ha2
                        have r2 := hN.T2.row c0 hc2
                        have r3 := hN.T2.cell a c0 ha2 hc2
                        have r4 := hN.T2.cell c0 b hc2 hb2
                        have l3 := hN.met.lt
                        have hN := Lib.hid hN
                        clear hphB b0
                        by_cases y1 : 0 ≤ f a c0
                        · by_cases y2 : 0 ≤ f c0 b
                          · have hvia := Lib.hid (show f.via c0 a b = f.short a b (f a c0 + f c0 b) by unfold Tab.via; rw [if_pos ⟨y1, y2⟩])
                            go_wp2_with fail
                            go_quiet (fail)
                            go_wp2_with fail
                            refine (short_101 a b k t.c2 _ _ _ _ _ (f a c0 + f c0 b) ha2 hb2 hn8 _ (hN.out.T2.ext (by with_reducible (repeat first | assumption | exact Ext.refl _ | refine Ext.set ?_ (by omega) _ | refine Ext.alloc ?_ _ | refine Ext.drew ?_ | refine Ext.drewN ?_ _ | refine Ext.trans ?_ (by assumption))))).mono ?_
                            rintro e1 w1 ⟨rfl, hT1, hW1⟩
                            have hT1 := Lib.hid hT1
                            have hW1 := Lib.hid hW1
                            go_wp2_with fail
                            go_roundw
                            case rel => exact ⟨b + 1, by omega, by go_num, by rw [hst3.out, hvia.out]; exact (hN.out.grow ((by with_reducible (repeat first | assumption | exact Ext.refl _ | refine Ext.set ?_ (by omega) _ | refine Ext.alloc ?_ _ | refine Ext.drew ?_ | refine Ext.drewN ?_ _ | refine Ext.trans ?_ (by assumption))) : Ext wr _)).put2 hT1.out hW1.out⟩
                            case measure => simp [intOf]; omega
                          · have hvia := Lib.hid (show f.via c0 a b = f by unfold Tab.via; rw [if_neg (by omega)])
                            go_wp2_with fail
                            go_quiet (fail)
                            go_wp2_with fail
                            go_roundw
                            case rel => exact ⟨b + 1, by omega, by go_num, by rw [hst3.out, hvia.out]; exact hN.out.grow ((by with_reducible (repeat first | assumption | exact Ext.refl _ | refine Ext.set ?_ (by omega) _ | refine Ext.alloc ?_ _ | refine Ext.drew ?_ | refine Ext.drewN ?_ _ | refine Ext.trans ?_ (by assumption))) : Ext wr _)⟩
                            case measure => simp [intOf]; omega
                        · have hvia := Lib.hid (show f.via c0 a b = f by unfold Tab.via; rw [if_neg (by omega)])
                          go_wp2_with fail
                          go_quiet (fail)
                          go_wp2_with fail
                          go_roundw
                          case rel => exact ⟨b + 1, by omega, by go_num, by rw [hst3.out, hvia.out]; exact hN.out.grow ((by with_reducible (repeat first | assumption | exact Ext.refl _ | refine Ext.set ?_ (by omega) _ | refine Ext.alloc ?_ _ | refine Ext.drew ?_ | refine Ext.drewN ?_ _ | refine Ext.trans ?_ (by assumption))) : Ext wr _)⟩
                          case measure => simp [intOf]; omega
                        -->3
                      · obtain rfl : b = k := by omega
                        have hN := Lib.hid hN
                        go_wp2_with fail
                        go_roundw
                        case rel => exact ⟨a + 1, by omega, by go_num, by rw [hst2.out]; exact hN.out⟩
                        case measure => simp [intOf]; omega
                  · obtain rfl : a = k := by omega
                    have hN := Lib.hid hN
                    go_wp2_with fail
                    go_roundw
                    case rel => exact ⟨c0 + 1, by omega, by go_num, by rw [hst.out]; exact hN.out⟩
                    case measure => simp [intOf]; omega
              · obtain rfl : c0 = k := by omega
                rw [← hT0.out, ← hL0.out] at hN
                have hN := Lib.hid hN
                go_wp2_with fail
                go_ret2
                exact ⟨q, t, rfl, by rw [hnk.out]; exact hN.out.since hEW.out⟩
end Go.Proofs.YtmmimbcfgobnaaaGreat
