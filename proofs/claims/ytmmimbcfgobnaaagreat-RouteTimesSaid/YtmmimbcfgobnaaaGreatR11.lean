/- route: newTick, Times, Arrive, Check. -/
import Derived.Test.YtmmimbcfgobnaaaGreatR10
namespace Go.Proofs.YtmmimbcfgobnaaaGreat
open Go.RowKit
set_option linter.unusedVariables false
set_option linter.unusedSimpArgs false
attribute [local go_sem] stored_match isSome_setCell

theorem MinAt.box (w : World) (l : Minima) {b : Nat} (hb : b = w.heap.size) : MinAt (w.alloc (.cells #[.int .i64 l.wind, .int .i64 l.see, .int .i64 l.ceil, .bool l.ice, .bool l.storm] 31)) b l := by
  subst hb
  exact ⟨by simp, by simp, by simp, by simp, by simp, by simp⟩
/-- What a call gets: a met, minima, a net, a flight, and where their slices lie. -/
structure Inp where
  m : Met
  xs : List Leg
  l : Minima
  f : Flight
  AF : Option Addr
  nF : Nat
  cF : Nat
  AS : Option Addr
  nS : Nat
  cS : Nat
  AX : Option Addr
  nX : Nat
  cX : Nat
  AR : Option Addr
  nR : Nat
  cR : Nat
abbrev Inp.P (I : Inp) : Plan := ⟨⟨I.m, I.xs⟩, I.l, I.f⟩
abbrev Inp.P0 (I : Inp) : Plan := ⟨⟨I.m, I.xs⟩, z_min, I.f⟩
abbrev Inp.vm (I : Inp) : Value := I.m.val (.slice I.AF I.nF I.cF) (.slice I.AS I.nS I.cS)
abbrev Inp.vn (I : Inp) : Value := .slice I.AX I.nX I.cX
abbrev Inp.vf (I : Inp) : Value := I.f.val (.slice I.AR I.nR I.cR)
structure Inp.In (I : Inp) (w : World) : Prop where
  met : MetIn w I.m I.AF I.nF I.AS I.nS
  net : Rows 3 Leg.enc w I.AX I.nX I.xs
  route : Rows 1 encInt w I.AR I.nR I.f.route
theorem Inp.In.ext {I : Inp} {w w' : World} (h : I.In w) (e : Ext w w') : I.In w' := ⟨h.met.ext e, h.net.ext e, h.route.ext e⟩
structure Inp.Short (I : Inp) : Prop where
  fcs : I.m.fcs.length ≤ 12
  sights : I.m.sights.length ≤ 12
abbrev Inp.N (I : Inp) : Net := ⟨I.m, I.xs⟩
/-- The errors without, and with minima. -/
def Inp.err0 (I : Inp) : Int := I.N.checkF none I.f
def Inp.err (I : Inp) : Int := I.N.checkF (some I.l) I.f
def Inp.code (I : Inp) (tick : Int) : Int := if I.err = 0 then (if within tick I.f.depart (I.f.arrival I.N.L) = true then 0 else 1) else I.err
def NTPost (I : Inp) (tick : Int) (w : World) (e : Ending) (w' : World) : Prop :=
  (I.code tick = 0 → ∃ p r, e = .returned (.tuple #[.pointer (some ⟨p, 0, none⟩), .int .i64 0]) ∧ PlanAt w' I.P p r) ∧ (I.code tick ≠ 0 → e = .returned (.tuple #[.pointer none, .int .i64 (I.code tick)])) ∧ Ext w w'
theorem NTPost.bad {I : Inp} {tick c : Int} {w w' : World} (h : I.code tick = c) (hc : c ≠ 0) (e : Ext w w') : NTPost I tick w (.returned (.tuple #[.pointer none, .int .i64 c])) w' :=
  ⟨fun g => absurd (h.symm.trans g) hc, fun _ => by rw [h], e⟩
theorem NTPost.ok {I : Inp} {tick : Int} {w w' : World} {p : Nat} {r : Refs} (h : I.code tick = 0) (hP : PlanAt w' I.P p r) (e : Ext w w') : NTPost I tick w (.returned (.tuple #[.pointer (some ⟨p, 0, none⟩), .int .i64 0])) w' :=
  ⟨fun _ => ⟨p, r, rfl, hP⟩, fun g => absurd h g, e⟩
theorem newFlight_I (I : Inp) (w : World) (h : I.In w) (h12 : I.Short) (bl : Nat) (hl : MinAt w bl I.l) : Calls Tryz.prog 64 #[I.vm, .pointer (some ⟨bl, 0, none⟩), I.vn, I.vf] w (NFPost I.P (some I.l) w) :=
  newFlight_64 I.m I.xs I.f I.AF I.AS I.nF I.cF I.nS I.cS I.AX I.nX I.cX I.AR I.nR I.cR w h.met h.net h.route I.l bl hl h12.fcs h12.sights
theorem newFlight_I0 (I : Inp) (w : World) (h : I.In w) : Calls Tryz.prog 64 #[I.vm, .pointer none, I.vn, I.vf] w (NFPost I.P0 none w) :=
  newFlight_64n I.m I.xs I.f I.AF I.AS I.nF I.cF I.nS I.cS I.AX I.nX I.cX I.AR I.nR I.cR w h.met h.net h.route
theorem newFlight_bad (I : Inp) (w : World) (h : I.In w) (h12 : I.Short) (bl : Nat) (hl : MinAt w bl I.l) (he : I.err ≠ 0) : Calls Tryz.prog 64 #[I.vm, .pointer (some ⟨bl, 0, none⟩), I.vn, I.vf] w fun e w' => e = .returned (.tuple #[.pointer none, .int .i64 I.err]) ∧ Ext w w' :=
  (newFlight_I I w h h12 bl hl).mono fun e w' hp => ⟨hp.2.1 he, hp.2.2⟩
theorem newFlight_ok (I : Inp) (w : World) (h : I.In w) (h12 : I.Short) (bl : Nat) (hl : MinAt w bl I.l) (he : I.err = 0) : Calls Tryz.prog 64 #[I.vm, .pointer (some ⟨bl, 0, none⟩), I.vn, I.vf] w fun e w' => (∃ p r, e = .returned (.tuple #[.pointer (some ⟨p, 0, none⟩), .int .i64 0]) ∧ PlanAt w' I.P p r) ∧ Ext w w' :=
  (newFlight_I I w h h12 bl hl).mono fun e w' hp => ⟨hp.1 he, hp.2.2⟩
theorem newFlight_bad0 (I : Inp) (w : World) (h : I.In w) (he : I.err0 ≠ 0) : Calls Tryz.prog 64 #[I.vm, .pointer none, I.vn, I.vf] w fun e w' => e = .returned (.tuple #[.pointer none, .int .i64 I.err0]) ∧ Ext w w' :=
  (newFlight_I0 I w h).mono fun e w' hp => ⟨hp.2.1 he, hp.2.2⟩
theorem newFlight_ok0 (I : Inp) (w : World) (h : I.In w) (he : I.err0 = 0) : Calls Tryz.prog 64 #[I.vm, .pointer none, I.vn, I.vf] w fun e w' => (∃ p r, e = .returned (.tuple #[.pointer (some ⟨p, 0, none⟩), .int .i64 0]) ∧ PlanAt w' I.P0 p r) ∧ Ext w w' :=
  (newFlight_I0 I w h).mono fun e w' hp => ⟨hp.1 he, hp.2.2⟩
set_option maxRecDepth 100000 in
set_option maxHeartbeats 2000000 in
theorem newTick_57 (I : Inp) (tick : Int) (w : World) (h : I.In w) (h12 : I.Short) :
    Calls Tryz.prog 57 #[I.vm, I.l.val, I.vn, I.vf, .int .i64 tick] w (NTPost I tick w) := by
  simp only [Inp.vm, Inp.vn, Inp.vf, Met.val, Flight.val, Minima.val]
  by_cases he : I.err = 0
  · rcases Bool.eq_false_or_eq_true (within tick I.f.depart (I.f.arrival I.N.L)) with ht | ht
    · have hcode := Lib.hid (show I.code tick = 0 by unfold Inp.code; rw [if_pos he, if_pos ht])
      replace he := Lib.hid he
      go_enter Tryz.func57, Tryz.ntmps57
      go_wp2_with (go_at_call 64; refine (newFlight_ok I _ (h.ext (by with_reducible (repeat first | assumption | exact Ext.refl _ | refine Ext.set ?_ (by omega) _ | refine Ext.alloc ?_ _ | refine Ext.drew ?_ | refine Ext.drewN ?_ _ | refine Ext.trans ?_ (by assumption)))) h12 (w.heap.size + 1) ((MinAt.box (w.alloc _) I.l (by simp)).ext (by with_reducible (repeat first | assumption | exact Ext.refl _ | refine Ext.set ?_ (by omega) _ | refine Ext.alloc ?_ _ | refine Ext.drew ?_ | refine Ext.drewN ?_ _ | refine Ext.trans ?_ (by assumption)))) he.out).mono ?_; rintro e1 w1 ⟨⟨p, r, rfl, hP⟩, hb1⟩; obtain ⟨hc1, hf1, hz1⟩ := hb1.cells; have hs1 := hb1.size; simp at hs1)
      have hb1' := Lib.hid hb1
      have d1 : w1.cell? ⟨w.heap.size + 1 + 1, 1, none⟩ = some (.int .i64 I.f.depart) := by go_simp
      refine name_world (R := fun W => Code.wp _ _ _ _ W) fun W0 hx0 hc0 hf0 hz0 => ?_
      have d2 := (hx0.cells.1 _ _ (by omega)).trans d1
      have d3 : w.heap.size + 1 + 1 < W0.heap.size := by have := hx0.size; omega
      have hP0 := Lib.hid (hP.ext ((by with_reducible (repeat first | assumption | exact Ext.refl _ | refine Ext.set ?_ (by omega) _ | refine Ext.alloc ?_ _ | refine Ext.drew ?_ | refine Ext.drewN ?_ _ | refine Ext.trans ?_ (by assumption))) : Ext w1 W0))
      have hx1 := Lib.hid hx0
      clear hc0 hf0 hz0 hc1 hf1 hz1 hP hx0 hb1
      go_region_held3 (fun w' => HoldsAll W0 w') ((with_reducible ((repeat refine HoldsAll.drew ?_); first | (first | assumption | exact HoldsAll.refl _ | exact HoldsAll.of_drew (by assumption)) | (refine HoldsAll.ext ?_ (by assumption); first | assumption | exact HoldsAll.refl _ | exact HoldsAll.of_drew (by assumption)) | (refine HoldsAll.alloc ?_ _; first | assumption | exact HoldsAll.refl _ | exact HoldsAll.of_drew (by assumption)) | exact HoldsAll.realloc (by first | assumption | exact HoldsAll.refl _ | exact HoldsAll.of_drew (by assumption)) (by omega) | ((repeat first | refine HoldsAll.fresh ?_ (by omega) _); first | assumption | exact HoldsAll.refl _ | exact HoldsAll.of_drew (by assumption))))) (first | (go_at_call 77; refine (arrival_77 I.P p r _ (hP0.out.ext (by with_reducible (repeat first | assumption | exact Ext.refl _ | refine Ext.set ?_ (by omega) _ | refine Ext.alloc ?_ _ | refine Ext.drew ?_ | refine Ext.drewN ?_ _ | refine Ext.trans ?_ (by assumption))))).mono ?_; rintro e1 w2 ⟨rfl, hb2⟩) | (go_at_call 85; refine (within_85 _ _ _ _).mono ?_; rintro e1 w1 ⟨rfl, rfl⟩))
      have hb1 := hb1'.out
      have hx0 := hx1.out
      go_wp2_with fail
      go_ret2
      exact NTPost.ok hcode.out (hP0.out.ext (by with_reducible (repeat first | assumption | exact Ext.refl _ | refine Ext.set ?_ (by omega) _ | refine Ext.alloc ?_ _ | refine Ext.drew ?_ | refine Ext.drewN ?_ _ | refine Ext.trans ?_ (by assumption)))) (by with_reducible (repeat first | assumption | exact Ext.refl _ | refine Ext.set ?_ (by omega) _ | refine Ext.alloc ?_ _ | refine Ext.drew ?_ | refine Ext.drewN ?_ _ | refine Ext.trans ?_ (by assumption)))
    · have hcode := Lib.hid (show I.code tick = 1 by unfold Inp.code; rw [if_pos he, if_neg (by simp [ht])])
      replace he := Lib.hid he
      go_enter Tryz.func57, Tryz.ntmps57
      go_wp2_with (go_at_call 64; refine (newFlight_ok I _ (h.ext (by with_reducible (repeat first | assumption | exact Ext.refl _ | refine Ext.set ?_ (by omega) _ | refine Ext.alloc ?_ _ | refine Ext.drew ?_ | refine Ext.drewN ?_ _ | refine Ext.trans ?_ (by assumption)))) h12 (w.heap.size + 1) ((MinAt.box (w.alloc _) I.l (by simp)).ext (by with_reducible (repeat first | assumption | exact Ext.refl _ | refine Ext.set ?_ (by omega) _ | refine Ext.alloc ?_ _ | refine Ext.drew ?_ | refine Ext.drewN ?_ _ | refine Ext.trans ?_ (by assumption)))) he.out).mono ?_; rintro e1 w1 ⟨⟨p, r, rfl, hP⟩, hb1⟩; obtain ⟨hc1, hf1, hz1⟩ := hb1.cells; have hs1 := hb1.size; simp at hs1)
      have hb1' := Lib.hid hb1
      have d1 : w1.cell? ⟨w.heap.size + 1 + 1, 1, none⟩ = some (.int .i64 I.f.depart) := by go_simp
      refine name_world (R := fun W => Code.wp _ _ _ _ W) fun W0 hx0 hc0 hf0 hz0 => ?_
      have d2 := (hx0.cells.1 _ _ (by omega)).trans d1
      have d3 : w.heap.size + 1 + 1 < W0.heap.size := by have := hx0.size; omega
      have hP0 := Lib.hid (hP.ext ((by with_reducible (repeat first | assumption | exact Ext.refl _ | refine Ext.set ?_ (by omega) _ | refine Ext.alloc ?_ _ | refine Ext.drew ?_ | refine Ext.drewN ?_ _ | refine Ext.trans ?_ (by assumption))) : Ext w1 W0))
      have hx1 := Lib.hid hx0
      clear hc0 hf0 hz0 hc1 hf1 hz1 hP hx0 hb1
      go_region_held3 (fun w' => HoldsAll W0 w') ((with_reducible ((repeat refine HoldsAll.drew ?_); first | (first | assumption | exact HoldsAll.refl _ | exact HoldsAll.of_drew (by assumption)) | (refine HoldsAll.ext ?_ (by assumption); first | assumption | exact HoldsAll.refl _ | exact HoldsAll.of_drew (by assumption)) | (refine HoldsAll.alloc ?_ _; first | assumption | exact HoldsAll.refl _ | exact HoldsAll.of_drew (by assumption)) | exact HoldsAll.realloc (by first | assumption | exact HoldsAll.refl _ | exact HoldsAll.of_drew (by assumption)) (by omega) | ((repeat first | refine HoldsAll.fresh ?_ (by omega) _); first | assumption | exact HoldsAll.refl _ | exact HoldsAll.of_drew (by assumption))))) (first | (go_at_call 77; refine (arrival_77 I.P p r _ (hP0.out.ext (by with_reducible (repeat first | assumption | exact Ext.refl _ | refine Ext.set ?_ (by omega) _ | refine Ext.alloc ?_ _ | refine Ext.drew ?_ | refine Ext.drewN ?_ _ | refine Ext.trans ?_ (by assumption))))).mono ?_; rintro e1 w2 ⟨rfl, hb2⟩) | (go_at_call 85; refine (within_85 _ _ _ _).mono ?_; rintro e1 w1 ⟨rfl, rfl⟩))
      have hb1 := hb1'.out
      have hx0 := hx1.out
      go_wp2_with fail
      go_ret2
      exact NTPost.bad hcode.out (by omega) (by with_reducible (repeat first | assumption | exact Ext.refl _ | refine Ext.set ?_ (by omega) _ | refine Ext.alloc ?_ _ | refine Ext.drew ?_ | refine Ext.drewN ?_ _ | refine Ext.trans ?_ (by assumption)))
  · have hcode := Lib.hid (show I.code tick = I.err by unfold Inp.code; rw [if_neg he])
    have hbb : (I.err == (0 : Int)) = false := beq_eq_false_iff_ne.2 he
    have hbn : (I.err != (0 : Int)) = true := by rw [bne_iff_ne]; exact he
    replace he := Lib.hid he
    go_enter Tryz.func57, Tryz.ntmps57
    go_wp2_with (go_at_call 64; refine (newFlight_bad I _ (h.ext (by with_reducible (repeat first | assumption | exact Ext.refl _ | refine Ext.set ?_ (by omega) _ | refine Ext.alloc ?_ _ | refine Ext.drew ?_ | refine Ext.drewN ?_ _ | refine Ext.trans ?_ (by assumption)))) h12 (w.heap.size + 1) ((MinAt.box (w.alloc _) I.l (by simp)).ext (by with_reducible (repeat first | assumption | exact Ext.refl _ | refine Ext.set ?_ (by omega) _ | refine Ext.alloc ?_ _ | refine Ext.drew ?_ | refine Ext.drewN ?_ _ | refine Ext.trans ?_ (by assumption)))) he.out).mono ?_; rintro e1 w1 ⟨rfl, hb1⟩)
    go_quiet (fail)
    go_wp2_with fail
    go_ret2
    exact NTPost.bad hcode.out he.out (by with_reducible (repeat first | assumption | exact Ext.refl _ | refine Ext.set ?_ (by omega) _ | refine Ext.alloc ?_ _ | refine Ext.drew ?_ | refine Ext.drewN ?_ _ | refine Ext.trans ?_ (by assumption)))
end Go.Proofs.YtmmimbcfgobnaaaGreat
