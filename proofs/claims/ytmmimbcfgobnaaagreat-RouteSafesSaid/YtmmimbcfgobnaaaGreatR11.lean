/- route: newTick, Times, Arrive, Check. route: Times, Arrive, Check, Havens, Best, Least, Safe, Proof. route: Least, Safe, Proof. -/
import Derived.Test.YtmmimbcfgobnaaaGreatR10
set_option linter.unusedVariables false
set_option linter.unusedSimpArgs false
namespace Go.Proofs.YtmmimbcfgobnaaaGreat
open Go.RowKit
set_option linter.unusedVariables false
set_option linter.unusedSimpArgs false
attribute [local go_sem] stored_match isSome_setCell

theorem MinAt.box (w : World) (l : Minima) {b : Nat} (hb : b = w.heap.size) : MinAt (w.alloc (.cells #[.int .i64 l.wind, .int .i64 l.see, .int .i64 l.ceil, .bool l.ice, .bool l.storm] 31)) b l := by
  subst hb
  exact ⟨by simp, by simp, by simp, by simp, by simp, by simp⟩
/-- What a call gets: a met, minima, a net, a flight, and where their slices lie. -/
structure Inp where
  m : Met
  xs : List Leg
  l : Minima
  f : Flight
  AF : Option Addr
  nF : Nat
  cF : Nat
  AS : Option Addr
  nS : Nat
  cS : Nat
  AX : Option Addr
  nX : Nat
  cX : Nat
  AR : Option Addr
  nR : Nat
  cR : Nat
abbrev Inp.P (I : Inp) : Plan := ⟨⟨I.m, I.xs⟩, I.l, I.f⟩
abbrev Inp.P0 (I : Inp) : Plan := ⟨⟨I.m, I.xs⟩, z_min, I.f⟩
abbrev Inp.vm (I : Inp) : Value := I.m.val (.slice I.AF I.nF I.cF) (.slice I.AS I.nS I.cS)
abbrev Inp.vn (I : Inp) : Value := .slice I.AX I.nX I.cX
abbrev Inp.vf (I : Inp) : Value := I.f.val (.slice I.AR I.nR I.cR)
structure Inp.In (I : Inp) (w : World) : Prop where
  met : MetIn w I.m I.AF I.nF I.AS I.nS
  net : Rows 3 Leg.enc w I.AX I.nX I.xs
  route : Rows 1 encInt w I.AR I.nR I.f.route
theorem Inp.In.ext {I : Inp} {w w' : World} (h : I.In w) (e : Ext w w') : I.In w' := ⟨h.met.ext e, h.net.ext e, h.route.ext e⟩
structure Inp.Short (I : Inp) : Prop where
  fcs : I.m.fc12
  sights : I.m.si12
abbrev Inp.N (I : Inp) : Net := ⟨I.m, I.xs⟩
/-- The errors without, and with minima. -/
def Inp.err0 (I : Inp) : Int := I.N.checkF none I.f
def Inp.err (I : Inp) : Int := I.N.checkF (some I.l) I.f
def Inp.code (I : Inp) (tick : Int) : Int := if I.err = 0 then (if within tick I.f.depart (I.f.arrival I.N.L) = true then 0 else 1) else I.err
def NTPost (I : Inp) (tick : Int) (w : World) (e : Ending) (w' : World) : Prop :=
  (I.code tick = 0 → ∃ p r, e = .returned (.tuple #[.pointer (some ⟨p, 0, none⟩), .int .i64 0]) ∧ PlanAt w' I.P p r) ∧ (I.code tick ≠ 0 → e = .returned (.tuple #[.pointer none, .int .i64 (I.code tick)])) ∧ Ext w w'
theorem NTPost.bad {I : Inp} {tick c : Int} {w w' : World} (h : I.code tick = c) (hc : c ≠ 0) (e : Ext w w') : NTPost I tick w (.returned (.tuple #[.pointer none, .int .i64 c])) w' :=
  ⟨fun g => absurd (h.symm.trans g) hc, fun _ => by rw [h], e⟩
theorem NTPost.ok {I : Inp} {tick : Int} {w w' : World} {p : Nat} {r : Refs} (h : I.code tick = 0) (hP : PlanAt w' I.P p r) (e : Ext w w') : NTPost I tick w (.returned (.tuple #[.pointer (some ⟨p, 0, none⟩), .int .i64 0])) w' :=
  ⟨fun _ => ⟨p, r, rfl, hP⟩, fun g => absurd h g, e⟩
theorem newFlight_I (I : Inp) (w : World) (h : I.In w) (h12 : I.Short) (bl : Nat) (hl : MinAt w bl I.l) : Calls Tryz.prog 64 #[I.vm, .pointer (some ⟨bl, 0, none⟩), I.vn, I.vf] w (NFPost I.P (some I.l) w) :=
  newFlight_64 I.m I.xs I.f I.AF I.AS I.nF I.cF I.nS I.cS I.AX I.nX I.cX I.AR I.nR I.cR w h.met h.net h.route I.l bl hl h12.fcs h12.sights
theorem newFlight_I0 (I : Inp) (w : World) (h : I.In w) : Calls Tryz.prog 64 #[I.vm, .pointer none, I.vn, I.vf] w (NFPost I.P0 none w) :=
  newFlight_64n I.m I.xs I.f I.AF I.AS I.nF I.cF I.nS I.cS I.AX I.nX I.cX I.AR I.nR I.cR w h.met h.net h.route
theorem newFlight_bad (I : Inp) (w : World) (h : I.In w) (h12 : I.Short) (bl : Nat) (hl : MinAt w bl I.l) (he : I.err ≠ 0) : Calls Tryz.prog 64 #[I.vm, .pointer (some ⟨bl, 0, none⟩), I.vn, I.vf] w fun e w' => e = .returned (.tuple #[.pointer none, .int .i64 I.err]) ∧ Ext w w' :=
  (newFlight_I I w h h12 bl hl).mono fun e w' hp => ⟨hp.2.1 he, hp.2.2⟩
theorem newFlight_ok (I : Inp) (w : World) (h : I.In w) (h12 : I.Short) (bl : Nat) (hl : MinAt w bl I.l) (he : I.err = 0) : Calls Tryz.prog 64 #[I.vm, .pointer (some ⟨bl, 0, none⟩), I.vn, I.vf] w fun e w' => (∃ p r, e = .returned (.tuple #[.pointer (some ⟨p, 0, none⟩), .int .i64 0]) ∧ PlanAt w' I.P p r) ∧ Ext w w' :=
  (newFlight_I I w h h12 bl hl).mono fun e w' hp => ⟨hp.1 he, hp.2.2⟩
theorem newFlight_bad0 (I : Inp) (w : World) (h : I.In w) (he : I.err0 ≠ 0) : Calls Tryz.prog 64 #[I.vm, .pointer none, I.vn, I.vf] w fun e w' => e = .returned (.tuple #[.pointer none, .int .i64 I.err0]) ∧ Ext w w' :=
  (newFlight_I0 I w h).mono fun e w' hp => ⟨hp.2.1 he, hp.2.2⟩
theorem newFlight_ok0 (I : Inp) (w : World) (h : I.In w) (he : I.err0 = 0) : Calls Tryz.prog 64 #[I.vm, .pointer none, I.vn, I.vf] w fun e w' => (∃ p r, e = .returned (.tuple #[.pointer (some ⟨p, 0, none⟩), .int .i64 0]) ∧ PlanAt w' I.P0 p r) ∧ Ext w w' :=
  (newFlight_I0 I w h).mono fun e w' hp => ⟨hp.1 he, hp.2.2⟩
set_option maxRecDepth 100000 in
set_option maxHeartbeats 2000000 in
theorem newTick_57 (I : Inp) (tick : Int) (w : World) (h : I.In w) (h12 : I.Short) :
    Calls Tryz.prog 57 #[I.vm, I.l.val, I.vn, I.vf, .int .i64 tick] w (NTPost I tick w) := by
  simp only [Inp.vm, Inp.vn, Inp.vf, Met.val, Flight.val, Minima.val]
  by_cases he : I.err = 0
  · rcases Bool.eq_false_or_eq_true (within tick I.f.depart (I.f.arrival I.N.L)) with ht | ht
    · have hcode := Lib.hid (show I.code tick = 0 by unfold Inp.code; rw [if_pos he, if_pos ht])
      replace he := Lib.hid he
      go_enter Tryz.func57, Tryz.ntmps57
      go_wp2_with (go_at_call 64; refine (newFlight_ok I _ (h.ext (by with_reducible (repeat first | assumption | exact Ext.refl _ | refine Ext.set ?_ (by omega) _ | refine Ext.alloc ?_ _ | refine Ext.drew ?_ | refine Ext.drewN ?_ _ | refine Ext.trans ?_ (by assumption)))) h12 (w.heap.size + 1) ((MinAt.box (w.alloc _) I.l (by simp)).ext (by with_reducible (repeat first | assumption | exact Ext.refl _ | refine Ext.set ?_ (by omega) _ | refine Ext.alloc ?_ _ | refine Ext.drew ?_ | refine Ext.drewN ?_ _ | refine Ext.trans ?_ (by assumption)))) he.out).mono ?_; rintro e1 w1 ⟨⟨p, r, rfl, hP⟩, hb1⟩; obtain ⟨hc1, hf1, hz1⟩ := hb1.cells; have hs1 := hb1.size; simp at hs1)
      have hb1' := Lib.hid hb1
      have d1 : w1.cell? ⟨w.heap.size + 1 + 1, 1, none⟩ = some (.int .i64 I.f.depart) := by go_simp
      refine name_world (R := fun W => Code.wp _ _ _ _ W) fun W0 hx0 hc0 hf0 hz0 => ?_
      have d2 := (hx0.cells.1 _ _ (by omega)).trans d1
      have d3 : w.heap.size + 1 + 1 < W0.heap.size := by have := hx0.size; omega
      have hP0 := Lib.hid (hP.ext ((by with_reducible (repeat first | assumption | exact Ext.refl _ | refine Ext.set ?_ (by omega) _ | refine Ext.alloc ?_ _ | refine Ext.drew ?_ | refine Ext.drewN ?_ _ | refine Ext.trans ?_ (by assumption))) : Ext w1 W0))
      have hx1 := Lib.hid hx0
      clear hc0 hf0 hz0 hc1 hf1 hz1 hP hx0 hb1
      go_region_held3 (fun w' => HoldsAll W0 w') ((with_reducible ((repeat refine HoldsAll.drew ?_); first | (first | assumption | exact HoldsAll.refl _ | exact HoldsAll.of_drew (by assumption)) | (refine HoldsAll.ext ?_ (by assumption); first | assumption | exact HoldsAll.refl _ | exact HoldsAll.of_drew (by assumption)) | (refine HoldsAll.alloc ?_ _; first | assumption | exact HoldsAll.refl _ | exact HoldsAll.of_drew (by assumption)) | exact HoldsAll.realloc (by first | assumption | exact HoldsAll.refl _ | exact HoldsAll.of_drew (by assumption)) (by omega) | ((repeat first | refine HoldsAll.fresh ?_ (by omega) _); first | assumption | exact HoldsAll.refl _ | exact HoldsAll.of_drew (by assumption))))) (first | (go_at_call 77; refine (arrival_77 I.P p r _ (hP0.out.ext (by with_reducible (repeat first | assumption | exact Ext.refl _ | refine Ext.set ?_ (by omega) _ | refine Ext.alloc ?_ _ | refine Ext.drew ?_ | refine Ext.drewN ?_ _ | refine Ext.trans ?_ (by assumption))))).mono ?_; rintro e1 w2 ⟨rfl, hb2⟩) | (go_at_call 85; refine (within_85 _ _ _ _).mono ?_; rintro e1 w1 ⟨rfl, rfl⟩))
      have hb1 := hb1'.out
      have hx0 := hx1.out
      go_wp2_with fail
      go_ret2
      exact NTPost.ok hcode.out (hP0.out.ext (by with_reducible (repeat first | assumption | exact Ext.refl _ | refine Ext.set ?_ (by omega) _ | refine Ext.alloc ?_ _ | refine Ext.drew ?_ | refine Ext.drewN ?_ _ | refine Ext.trans ?_ (by assumption)))) (by with_reducible (repeat first | assumption | exact Ext.refl _ | refine Ext.set ?_ (by omega) _ | refine Ext.alloc ?_ _ | refine Ext.drew ?_ | refine Ext.drewN ?_ _ | refine Ext.trans ?_ (by assumption)))
    · have hcode := Lib.hid (show I.code tick = 1 by unfold Inp.code; rw [if_pos he, if_neg (by simp [ht])])
      replace he := Lib.hid he
      go_enter Tryz.func57, Tryz.ntmps57
      go_wp2_with (go_at_call 64; refine (newFlight_ok I _ (h.ext (by with_reducible (repeat first | assumption | exact Ext.refl _ | refine Ext.set ?_ (by omega) _ | refine Ext.alloc ?_ _ | refine Ext.drew ?_ | refine Ext.drewN ?_ _ | refine Ext.trans ?_ (by assumption)))) h12 (w.heap.size + 1) ((MinAt.box (w.alloc _) I.l (by simp)).ext (by with_reducible (repeat first | assumption | exact Ext.refl _ | refine Ext.set ?_ (by omega) _ | refine Ext.alloc ?_ _ | refine Ext.drew ?_ | refine Ext.drewN ?_ _ | refine Ext.trans ?_ (by assumption)))) he.out).mono ?_; rintro e1 w1 ⟨⟨p, r, rfl, hP⟩, hb1⟩; obtain ⟨hc1, hf1, hz1⟩ := hb1.cells; have hs1 := hb1.size; simp at hs1)
      have hb1' := Lib.hid hb1
      have d1 : w1.cell? ⟨w.heap.size + 1 + 1, 1, none⟩ = some (.int .i64 I.f.depart) := by go_simp
      refine name_world (R := fun W => Code.wp _ _ _ _ W) fun W0 hx0 hc0 hf0 hz0 => ?_
      have d2 := (hx0.cells.1 _ _ (by omega)).trans d1
      have d3 : w.heap.size + 1 + 1 < W0.heap.size := by have := hx0.size; omega
      have hP0 := Lib.hid (hP.ext ((by with_reducible (repeat first | assumption | exact Ext.refl _ | refine Ext.set ?_ (by omega) _ | refine Ext.alloc ?_ _ | refine Ext.drew ?_ | refine Ext.drewN ?_ _ | refine Ext.trans ?_ (by assumption))) : Ext w1 W0))
      have hx1 := Lib.hid hx0
      clear hc0 hf0 hz0 hc1 hf1 hz1 hP hx0 hb1
      go_region_held3 (fun w' => HoldsAll W0 w') ((with_reducible ((repeat refine HoldsAll.drew ?_); first | (first | assumption | exact HoldsAll.refl _ | exact HoldsAll.of_drew (by assumption)) | (refine HoldsAll.ext ?_ (by assumption); first | assumption | exact HoldsAll.refl _ | exact HoldsAll.of_drew (by assumption)) | (refine HoldsAll.alloc ?_ _; first | assumption | exact HoldsAll.refl _ | exact HoldsAll.of_drew (by assumption)) | exact HoldsAll.realloc (by first | assumption | exact HoldsAll.refl _ | exact HoldsAll.of_drew (by assumption)) (by omega) | ((repeat first | refine HoldsAll.fresh ?_ (by omega) _); first | assumption | exact HoldsAll.refl _ | exact HoldsAll.of_drew (by assumption))))) (first | (go_at_call 77; refine (arrival_77 I.P p r _ (hP0.out.ext (by with_reducible (repeat first | assumption | exact Ext.refl _ | refine Ext.set ?_ (by omega) _ | refine Ext.alloc ?_ _ | refine Ext.drew ?_ | refine Ext.drewN ?_ _ | refine Ext.trans ?_ (by assumption))))).mono ?_; rintro e1 w2 ⟨rfl, hb2⟩) | (go_at_call 85; refine (within_85 _ _ _ _).mono ?_; rintro e1 w1 ⟨rfl, rfl⟩))
      have hb1 := hb1'.out
      have hx0 := hx1.out
      go_wp2_with fail
      go_ret2
      exact NTPost.bad hcode.out (by omega) (by with_reducible (repeat first | assumption | exact Ext.refl _ | refine Ext.set ?_ (by omega) _ | refine Ext.alloc ?_ _ | refine Ext.drew ?_ | refine Ext.drewN ?_ _ | refine Ext.trans ?_ (by assumption)))
  · have hcode := Lib.hid (show I.code tick = I.err by unfold Inp.code; rw [if_neg he])
    have hbb : (I.err == (0 : Int)) = false := beq_eq_false_iff_ne.2 he
    have hbn : (I.err != (0 : Int)) = true := by rw [bne_iff_ne]; exact he
    replace he := Lib.hid he
    go_enter Tryz.func57, Tryz.ntmps57
    go_wp2_with (go_at_call 64; refine (newFlight_bad I _ (h.ext (by with_reducible (repeat first | assumption | exact Ext.refl _ | refine Ext.set ?_ (by omega) _ | refine Ext.alloc ?_ _ | refine Ext.drew ?_ | refine Ext.drewN ?_ _ | refine Ext.trans ?_ (by assumption)))) h12 (w.heap.size + 1) ((MinAt.box (w.alloc _) I.l (by simp)).ext (by with_reducible (repeat first | assumption | exact Ext.refl _ | refine Ext.set ?_ (by omega) _ | refine Ext.alloc ?_ _ | refine Ext.drew ?_ | refine Ext.drewN ?_ _ | refine Ext.trans ?_ (by assumption)))) he.out).mono ?_; rintro e1 w1 ⟨rfl, hb1⟩)
    go_quiet (fail)
    go_wp2_with fail
    go_ret2
    exact NTPost.bad hcode.out he.out (by with_reducible (repeat first | assumption | exact Ext.refl _ | refine Ext.set ?_ (by omega) _ | refine Ext.alloc ?_ _ | refine Ext.drew ?_ | refine Ext.drewN ?_ _ | refine Ext.trans ?_ (by assumption)))
end Go.Proofs.YtmmimbcfgobnaaaGreat
namespace Go.Proofs.YtmmimbcfgobnaaaGreat
open Go.RowKit
set_option linter.unusedVariables false
set_option linter.unusedSimpArgs false
attribute [local go_sem] stored_match isSome_setCell

def TimesPost (N : Net) (w : World) (e : Ending) (w' : World) : Prop :=
  (N.check = 0 → ∃ lo hi g c r, e = .returned (.tuple #[.slice (some ⟨g, 0, none⟩) N.n c, .int .i64 0]) ∧ TabOwn w' lo hi g N.n r N.T) ∧ (N.check ≠ 0 → e = .returned (.tuple #[.slice none 0 0, .int .i64 N.check])) ∧ Ext w w'
set_option maxRecDepth 100000 in
set_option maxHeartbeats 2000000 in
theorem Times_23 (I : Inp) (w : World) (h : I.In w) :
    Calls Tryz.prog 23 #[I.vm, I.vn] w (TimesPost I.N w) := by
  simp only [Inp.vm, Inp.vn, Met.val]
  by_cases hc : I.N.check = 0
  · have hg := Lib.hid (Net.check_good hc)
    have hc := Lib.hid hc
    go_enter Tryz.func23, Tryz.ntmps23
    go_wp2_with (go_at_call 63; refine (newNet_nil I.m I.xs I.AF I.AS I.nF I.cF I.nS I.cS I.AX I.nX I.cX _ (h.met.ext (by with_reducible (repeat first | assumption | exact Ext.refl _ | refine Ext.set ?_ (by omega) _ | refine Ext.alloc ?_ _ | refine Ext.drew ?_ | refine Ext.drewN ?_ _ | refine Ext.trans ?_ (by assumption)))) (h.net.ext (by with_reducible (repeat first | assumption | exact Ext.refl _ | refine Ext.set ?_ (by omega) _ | refine Ext.alloc ?_ _ | refine Ext.drew ?_ | refine Ext.drewN ?_ _ | refine Ext.trans ?_ (by assumption)))) hg.out).mono ?_; rintro e1 w1 ⟨q, t, rfl, hN⟩; have c15 := hN.times; have hb1 := hN.ext; replace hN := Lib.hid hN)
    go_ret2
    exact ⟨fun _ => ⟨_, _, _, _, _, rfl, hN.out.T2⟩, fun hn => absurd hc.out hn, (by with_reducible (repeat first | assumption | exact Ext.refl _ | refine Ext.set ?_ (by omega) _ | refine Ext.alloc ?_ _ | refine Ext.drew ?_ | refine Ext.drewN ?_ _ | refine Ext.trans ?_ (by assumption)))⟩
  · have hbb : (I.N.check == (0 : Int)) = false := beq_eq_false_iff_ne.2 hc
    have hbn : (I.N.check != (0 : Int)) = true := by rw [bne_iff_ne]; exact hc
    replace hc := Lib.hid hc
    go_enter Tryz.func23, Tryz.ntmps23
    go_wp2_with (go_at_call 63; refine (newNet_nil_bad I.m I.xs I.AF I.AS I.nF I.cF I.nS I.cS I.AX I.nX I.cX _ (h.met.ext (by with_reducible (repeat first | assumption | exact Ext.refl _ | refine Ext.set ?_ (by omega) _ | refine Ext.alloc ?_ _ | refine Ext.drew ?_ | refine Ext.drewN ?_ _ | refine Ext.trans ?_ (by assumption)))) (h.net.ext (by with_reducible (repeat first | assumption | exact Ext.refl _ | refine Ext.set ?_ (by omega) _ | refine Ext.alloc ?_ _ | refine Ext.drew ?_ | refine Ext.drewN ?_ _ | refine Ext.trans ?_ (by assumption)))) hc.out).mono ?_; rintro e1 w1 ⟨rfl, hb1⟩)
    go_ret2
    exact ⟨fun h0 => absurd h0 hc.out, fun _ => rfl, (by with_reducible (repeat first | assumption | exact Ext.refl _ | refine Ext.set ?_ (by omega) _ | refine Ext.alloc ?_ _ | refine Ext.drew ?_ | refine Ext.drewN ?_ _ | refine Ext.trans ?_ (by assumption)))⟩
def IntsPost (c : Int) (L : List Int) (w : World) (e : Ending) (w' : World) : Prop :=
  (c = 0 → ∃ A k, e = .returned (.tuple #[.slice A L.length k, .int .i64 0]) ∧ Rows 1 encInt w' A L.length L) ∧ (c ≠ 0 → e = .returned (.tuple #[.slice none 0 0, .int .i64 c])) ∧ Ext w w'
set_option maxRecDepth 100000 in
set_option maxHeartbeats 2000000 in
theorem Arrive_24 (I : Inp) (w : World) (h : I.In w) :
    Calls Tryz.prog 24 #[I.vm, I.vn, I.vf] w (IntsPost I.err0 (I.f.atList I.N.L I.f.route.length) w) := by
  simp only [Inp.vm, Inp.vn, Inp.vf, Met.val, Flight.val]
  by_cases hc : I.err0 = 0
  · have hc := Lib.hid hc
    go_enter Tryz.func24, Tryz.ntmps24
    go_wp2_with (go_at_call 64; refine (newFlight_ok0 I _ (h.ext (by with_reducible (repeat first | assumption | exact Ext.refl _ | refine Ext.set ?_ (by omega) _ | refine Ext.alloc ?_ _ | refine Ext.drew ?_ | refine Ext.drewN ?_ _ | refine Ext.trans ?_ (by assumption)))) hc.out).mono ?_; rintro e1 w1 ⟨⟨p, r, rfl, hP⟩, hb1⟩; have c11 := hP.fl.c11; replace hP := Lib.hid hP)
    go_ret2
    exact ⟨fun _ => ⟨_, _, by rw [Flight.atList_length]; rfl, by rw [Flight.atList_length]; exact hP.out.at_⟩, fun hn => absurd hc.out hn, (by with_reducible (repeat first | assumption | exact Ext.refl _ | refine Ext.set ?_ (by omega) _ | refine Ext.alloc ?_ _ | refine Ext.drew ?_ | refine Ext.drewN ?_ _ | refine Ext.trans ?_ (by assumption)))⟩
  · have hbb : (I.err0 == (0 : Int)) = false := beq_eq_false_iff_ne.2 hc
    have hbn : (I.err0 != (0 : Int)) = true := by rw [bne_iff_ne]; exact hc
    replace hc := Lib.hid hc
    go_enter Tryz.func24, Tryz.ntmps24
    go_wp2_with (go_at_call 64; refine (newFlight_bad0 I _ (h.ext (by with_reducible (repeat first | assumption | exact Ext.refl _ | refine Ext.set ?_ (by omega) _ | refine Ext.alloc ?_ _ | refine Ext.drew ?_ | refine Ext.drewN ?_ _ | refine Ext.trans ?_ (by assumption)))) hc.out).mono ?_; rintro e1 w1 ⟨rfl, hb1⟩)
    go_ret2
    exact ⟨fun h0 => absurd h0 hc.out, fun _ => rfl, (by with_reducible (repeat first | assumption | exact Ext.refl _ | refine Ext.set ?_ (by omega) _ | refine Ext.alloc ?_ _ | refine Ext.drew ?_ | refine Ext.drewN ?_ _ | refine Ext.trans ?_ (by assumption)))⟩
set_option maxRecDepth 100000 in
set_option maxHeartbeats 2000000 in
theorem Check_26 (I : Inp) (w : World) (h : I.In w) :
    Calls Tryz.prog 26 #[I.vm, I.vn, I.vf] w fun e w' => e = .returned (.int .i64 I.err0) ∧ Ext w w' := by
  simp only [Inp.vm, Inp.vn, Inp.vf, Met.val, Flight.val]
  by_cases hc : I.err0 = 0
  · have hc := Lib.hid hc
    go_enter Tryz.func26, Tryz.ntmps26
    go_wp2_with (go_at_call 64; refine (newFlight_ok0 I _ (h.ext (by with_reducible (repeat first | assumption | exact Ext.refl _ | refine Ext.set ?_ (by omega) _ | refine Ext.alloc ?_ _ | refine Ext.drew ?_ | refine Ext.drewN ?_ _ | refine Ext.trans ?_ (by assumption)))) hc.out).mono ?_; rintro e1 w1 ⟨⟨p, r, rfl, hP⟩, hb1⟩; replace hP := Lib.hid hP)
    go_ret
    exact ⟨by rw [hc.out]; rfl, (by with_reducible (repeat first | assumption | exact Ext.refl _ | refine Ext.set ?_ (by omega) _ | refine Ext.alloc ?_ _ | refine Ext.drew ?_ | refine Ext.drewN ?_ _ | refine Ext.trans ?_ (by assumption)))⟩
  · replace hc := Lib.hid hc
    go_enter Tryz.func26, Tryz.ntmps26
    go_wp2_with (go_at_call 64; refine (newFlight_bad0 I _ (h.ext (by with_reducible (repeat first | assumption | exact Ext.refl _ | refine Ext.set ?_ (by omega) _ | refine Ext.alloc ?_ _ | refine Ext.drew ?_ | refine Ext.drewN ?_ _ | refine Ext.trans ?_ (by assumption)))) hc.out).mono ?_; rintro e1 w1 ⟨rfl, hb1⟩)
    go_ret
    exact ⟨rfl, (by with_reducible (repeat first | assumption | exact Ext.refl _ | refine Ext.set ?_ (by omega) _ | refine Ext.alloc ?_ _ | refine Ext.drew ?_ | refine Ext.drewN ?_ _ | refine Ext.trans ?_ (by assumption)))⟩
/-- A list of havens and an error. -/
def HavensPost (c : Int) (L : List Haven) (w : World) (e : Ending) (w' : World) : Prop :=
  (c = 0 → ∃ A k, e = .returned (.tuple #[.slice A L.length k, .int .i64 0]) ∧ Rows 3 Haven.enc w' A L.length L) ∧ (c ≠ 0 → e = .returned (.tuple #[.slice none 0 0, .int .i64 c])) ∧ Ext w w'
theorem NTPost.okI {I : Inp} {tick : Int} {w : World} {e : Ending} {w' : World} (h : NTPost I tick w e w') (hc : I.code tick = 0) : (∃ p r, e = .returned (.tuple #[.pointer (some ⟨p, 0, none⟩), .int .i64 0]) ∧ PlanAt w' I.P p r) ∧ Ext w w' := ⟨h.1 hc, h.2.2⟩
theorem newTick_ok (I : Inp) (tick : Int) (w : World) (h : I.In w) (h12 : I.Short) (hc : I.code tick = 0) :
    Calls Tryz.prog 57 #[I.vm, I.l.val, I.vn, I.vf, .int .i64 tick] w fun e w' => (∃ p r, e = .returned (.tuple #[.pointer (some ⟨p, 0, none⟩), .int .i64 0]) ∧ PlanAt w' I.P p r) ∧ Ext w w' :=
  (newTick_57 I tick w h h12).mono fun e w' hp => ⟨hp.1 hc, hp.2.2⟩
theorem newTick_bad (I : Inp) (tick : Int) (w : World) (h : I.In w) (h12 : I.Short) (hc : I.code tick ≠ 0) :
    Calls Tryz.prog 57 #[I.vm, I.l.val, I.vn, I.vf, .int .i64 tick] w fun e w' => e = .returned (.tuple #[.pointer none, .int .i64 (I.code tick)]) ∧ Ext w w' :=
  (newTick_57 I tick w h h12).mono fun e w' hp => ⟨hp.2.1 hc, hp.2.2⟩
theorem Inp.code_zero {I : Inp} {tick : Int} (h : I.code tick = 0) : I.err = 0 ∧ I.f.depart ≤ tick ∧ tick ≤ I.f.arrival I.N.L := by
  unfold Inp.code at h
  by_cases he : I.err = 0
  · rw [if_pos he] at h
    by_cases ht : within tick I.f.depart (I.f.arrival I.N.L) = true
    · exact ⟨he, within_true.1 ht⟩
    · rw [if_neg ht] at h; exact absurd h (by decide)
  · rw [if_neg he] at h; exact absurd h he
set_option maxRecDepth 100000 in
set_option maxHeartbeats 2000000 in
theorem Havens_17 (I : Inp) (tick : Int) (w : World) (h : I.In w) (h12 : I.Short) :
    Calls Tryz.prog 17 #[I.vm, I.l.val, I.vn, I.vf, .int .i64 tick] w (HavensPost (I.code tick) (I.P.all tick false) w) := by
  simp only [Inp.vm, Inp.vn, Inp.vf, Met.val, Flight.val, Minima.val]
  by_cases hc : I.code tick = 0
  · obtain ⟨-, t0, t1⟩ := Inp.code_zero hc
    have hc := Lib.hid hc
    go_enter Tryz.func17, Tryz.ntmps17
    go_wp2_with (first | (go_at_call 57; refine (newTick_ok I tick _ (h.ext (by with_reducible (repeat first | assumption | exact Ext.refl _ | refine Ext.set ?_ (by omega) _ | refine Ext.alloc ?_ _ | refine Ext.drew ?_ | refine Ext.drewN ?_ _ | refine Ext.trans ?_ (by assumption)))) h12 hc.out).mono ?_; rintro e1 w1 ⟨⟨p, r, rfl, hP⟩, hb1⟩; replace hP := Lib.hid hP) | (go_at_call 58; refine (havens_58 I.P p r tick false _ (hP.out.ext (by with_reducible (repeat first | assumption | exact Ext.refl _ | refine Ext.set ?_ (by omega) _ | refine Ext.alloc ?_ _ | refine Ext.drew ?_ | refine Ext.drewN ?_ _ | refine Ext.trans ?_ (by assumption)))) t0 t1 h12.fcs h12.sights).mono ?_; rintro e1 w2 ⟨v, rfl, hO, hb2⟩; replace hO := Lib.hid hO))
    go_ret2
    obtain ⟨-, -, ⟨n1, n2, n3, n4⟩, -, -⟩ := Net.good_parts hP.out.ngood
    obtain ⟨A, k, rfl, hR⟩ := hO.out.rows (fun _ => rfl) (by have := I.P.all_length tick false; omega)
    exact ⟨fun _ => ⟨A, k, rfl, hR⟩, fun hn => absurd hc.out hn, (by with_reducible (repeat first | assumption | exact Ext.refl _ | refine Ext.set ?_ (by omega) _ | refine Ext.alloc ?_ _ | refine Ext.drew ?_ | refine Ext.drewN ?_ _ | refine Ext.trans ?_ (by assumption)))⟩
  · have hbb : (I.code tick == (0 : Int)) = false := beq_eq_false_iff_ne.2 hc
    have hbn : (I.code tick != (0 : Int)) = true := by rw [bne_iff_ne]; exact hc
    replace hc := Lib.hid hc
    go_enter Tryz.func17, Tryz.ntmps17
    go_wp2_with (go_at_call 57; refine (newTick_bad I tick _ (h.ext (by with_reducible (repeat first | assumption | exact Ext.refl _ | refine Ext.set ?_ (by omega) _ | refine Ext.alloc ?_ _ | refine Ext.drew ?_ | refine Ext.drewN ?_ _ | refine Ext.trans ?_ (by assumption)))) h12 hc.out).mono ?_; rintro e1 w1 ⟨rfl, hb1⟩)
    go_ret2
    exact ⟨fun h0 => absurd h0 hc.out, fun _ => rfl, (by with_reducible (repeat first | assumption | exact Ext.refl _ | refine Ext.set ?_ (by omega) _ | refine Ext.alloc ?_ _ | refine Ext.drew ?_ | refine Ext.drewN ?_ _ | refine Ext.trans ?_ (by assumption)))⟩
def Inp.bestR (I : Inp) (tick : Int) : Haven × Int := if I.code tick = 0 then (if hasBest (I.P.all tick false) = true then (bestOf (I.P.all tick false), 0) else (z_hv, 3)) else (z_hv, I.code tick)
set_option maxRecDepth 100000 in
set_option maxHeartbeats 2000000 in
theorem Best_20 (I : Inp) (tick : Int) (w : World) (h : I.In w) (h12 : I.Short) :
    Calls Tryz.prog 20 #[I.vm, I.l.val, I.vn, I.vf, .int .i64 tick] w fun e w' => e = .returned (.tuple #[(I.bestR tick).1.val, .int .i64 (I.bestR tick).2]) ∧ Ext w w' := by
  simp only [Inp.vm, Inp.vn, Inp.vf, Met.val, Flight.val, Minima.val]
  by_cases hc : I.code tick = 0
  · obtain ⟨-, t0, t1⟩ := Inp.code_zero hc
    rcases Bool.eq_false_or_eq_true (hasBest (I.P.all tick false)) with hh | hh
    · have hR := Lib.hid (show I.bestR tick = (bestOf (I.P.all tick false), 0) by unfold Inp.bestR; rw [if_pos hc, if_pos hh])
      have hc := Lib.hid hc
      go_enter Tryz.func20, Tryz.ntmps20
      go_wp2_with fail
      refine (newTick_ok I tick _ (h.ext (by with_reducible (repeat first | assumption | exact Ext.refl _ | refine Ext.set ?_ (by omega) _ | refine Ext.alloc ?_ _ | refine Ext.drew ?_ | refine Ext.drewN ?_ _ | refine Ext.trans ?_ (by assumption)))) h12 hc.out).mono ?_
      rintro e1 w1 ⟨⟨p, r, rfl, hP⟩, hb1⟩
      obtain ⟨hc1, hf1, hz1⟩ := hb1.cells
      have hs1 := hb1.size
      simp at hs1
      have hnn := (Net.good_parts hP.ngood).2.2.1.2.2.2
      have hal := I.P.all_length tick false
      replace hP := Lib.hid hP
      have r0 : w1.cell? ⟨w.heap.size + 1 + 1 + 1, 0, none⟩ = some (.int .i64 0) := by go_simp
      have r1 : w1.cell? ⟨w.heap.size + 1 + 1 + 1, 1, none⟩ = some (.int .i64 0) := by go_simp
      have r2 : w1.cell? ⟨w.heap.size + 1 + 1 + 1, 2, none⟩ = some (.bool false) := by go_simp
      have rf0 : w1.frozen? ⟨w.heap.size + 1 + 1 + 1, 0, none⟩ = false := by go_simp
      have rf1 : w1.frozen? ⟨w.heap.size + 1 + 1 + 1, 1, none⟩ = false := by go_simp
      have rf2 : w1.frozen? ⟨w.heap.size + 1 + 1 + 1, 2, none⟩ = false := by go_simp
      have rl : w.heap.size + 1 + 1 + 1 < w1.heap.size := by omega
      clear hc1 hf1
      have hb1 := Lib.hid ((by with_reducible (repeat first | assumption | exact Ext.refl _ | refine Ext.set ?_ (by omega) _ | refine Ext.alloc ?_ _ | refine Ext.drew ?_ | refine Ext.drewN ?_ _ | refine Ext.trans ?_ (by assumption))) : Ext w w1)
      go_wp2_with (first | (go_at_call 58; refine (havens_58 I.P p r tick false _ (hP.out.ext (by with_reducible (repeat first | assumption | exact Ext.refl _ | refine Ext.set ?_ (by omega) _ | refine Ext.alloc ?_ _ | refine Ext.drew ?_ | refine Ext.drewN ?_ _ | refine Ext.trans ?_ (by assumption)))) t0 t1 h12.fcs h12.sights).mono ?_; rintro e1 w2 ⟨v, rfl, hO, hb2⟩; obtain ⟨A, c, rfl, hRr⟩ := hO.rows (fun _ => rfl) (by omega); have hs2 := hb2.size; replace hO := Lib.hid hO) | (go_at_call 61; refine (best_61 _ A _ c _ (hRr.ext (by with_reducible (repeat first | assumption | exact Ext.refl _ | refine Ext.set ?_ (by omega) _ | refine Ext.alloc ?_ _ | refine Ext.drew ?_ | refine Ext.drewN ?_ _ | refine Ext.trans ?_ (by assumption)))) (by omega)).mono ?_; rintro e1 w3 ⟨rfl, hb3⟩; have hx3 : Ext w1 w3 := (by with_reducible (repeat first | assumption | exact Ext.refl _ | refine Ext.set ?_ (by omega) _ | refine Ext.alloc ?_ _ | refine Ext.drew ?_ | refine Ext.drewN ?_ _ | refine Ext.trans ?_ (by assumption))); obtain ⟨hc3, hf3, hz3⟩ := hx3.cells; have hs3 := hx3.size))
      have hb1 := hb1.out
      generalize bestOf (I.P.all tick false) = x at *
      refine bodyPost_ret (v := .tuple #[x.val, .int .i64 0]) ?_ rfl ⟨by rw [hR.out], (by with_reducible (repeat first | assumption | exact Ext.refl _ | refine Ext.set ?_ (by omega) _ | refine Ext.alloc ?_ _ | refine Ext.drew ?_ | refine Ext.drewN ?_ _ | refine Ext.trans ?_ (by assumption)))⟩
      simp [results, go_sem, *]
    · have hR := Lib.hid (show I.bestR tick = (z_hv, 3) by unfold Inp.bestR; rw [if_pos hc, if_neg (by simp [hh])])
      have hc := Lib.hid hc
      go_enter Tryz.func20, Tryz.ntmps20
      go_wp2_with fail
      refine (newTick_ok I tick _ (h.ext (by with_reducible (repeat first | assumption | exact Ext.refl _ | refine Ext.set ?_ (by omega) _ | refine Ext.alloc ?_ _ | refine Ext.drew ?_ | refine Ext.drewN ?_ _ | refine Ext.trans ?_ (by assumption)))) h12 hc.out).mono ?_
      rintro e1 w1 ⟨⟨p, r, rfl, hP⟩, hb1⟩
      obtain ⟨hc1, hf1, hz1⟩ := hb1.cells
      have hs1 := hb1.size
      simp at hs1
      have hnn := (Net.good_parts hP.ngood).2.2.1.2.2.2
      have hal := I.P.all_length tick false
      replace hP := Lib.hid hP
      have r0 : w1.cell? ⟨w.heap.size + 1 + 1 + 1, 0, none⟩ = some (.int .i64 0) := by go_simp
      have r1 : w1.cell? ⟨w.heap.size + 1 + 1 + 1, 1, none⟩ = some (.int .i64 0) := by go_simp
      have r2 : w1.cell? ⟨w.heap.size + 1 + 1 + 1, 2, none⟩ = some (.bool false) := by go_simp
      have rf0 : w1.frozen? ⟨w.heap.size + 1 + 1 + 1, 0, none⟩ = false := by go_simp
      have rf1 : w1.frozen? ⟨w.heap.size + 1 + 1 + 1, 1, none⟩ = false := by go_simp
      have rf2 : w1.frozen? ⟨w.heap.size + 1 + 1 + 1, 2, none⟩ = false := by go_simp
      have rl : w.heap.size + 1 + 1 + 1 < w1.heap.size := by omega
      clear hc1 hf1
      have hb1 := Lib.hid ((by with_reducible (repeat first | assumption | exact Ext.refl _ | refine Ext.set ?_ (by omega) _ | refine Ext.alloc ?_ _ | refine Ext.drew ?_ | refine Ext.drewN ?_ _ | refine Ext.trans ?_ (by assumption))) : Ext w w1)
      go_wp2_with (first | (go_at_call 58; refine (havens_58 I.P p r tick false _ (hP.out.ext (by with_reducible (repeat first | assumption | exact Ext.refl _ | refine Ext.set ?_ (by omega) _ | refine Ext.alloc ?_ _ | refine Ext.drew ?_ | refine Ext.drewN ?_ _ | refine Ext.trans ?_ (by assumption)))) t0 t1 h12.fcs h12.sights).mono ?_; rintro e1 w2 ⟨v, rfl, hO, hb2⟩; obtain ⟨A, c, rfl, hRr⟩ := hO.rows (fun _ => rfl) (by omega); have hs2 := hb2.size; replace hO := Lib.hid hO) | (go_at_call 61; refine (best_61 _ A _ c _ (hRr.ext (by with_reducible (repeat first | assumption | exact Ext.refl _ | refine Ext.set ?_ (by omega) _ | refine Ext.alloc ?_ _ | refine Ext.drew ?_ | refine Ext.drewN ?_ _ | refine Ext.trans ?_ (by assumption)))) (by omega)).mono ?_; rintro e1 w3 ⟨rfl, hb3⟩; have hx3 : Ext w1 w3 := (by with_reducible (repeat first | assumption | exact Ext.refl _ | refine Ext.set ?_ (by omega) _ | refine Ext.alloc ?_ _ | refine Ext.drew ?_ | refine Ext.drewN ?_ _ | refine Ext.trans ?_ (by assumption))); obtain ⟨hc3, hf3, hz3⟩ := hx3.cells; have hs3 := hx3.size))
      have hb1 := hb1.out
      refine bodyPost_ret (v := .tuple #[z_hv.val, .int .i64 3]) ?_ rfl ⟨by rw [hR.out], (by with_reducible (repeat first | assumption | exact Ext.refl _ | refine Ext.set ?_ (by omega) _ | refine Ext.alloc ?_ _ | refine Ext.drew ?_ | refine Ext.drewN ?_ _ | refine Ext.trans ?_ (by assumption)))⟩
      simp [results, go_sem, z_hv, *]
  · have hR := Lib.hid (show I.bestR tick = (z_hv, I.code tick) by unfold Inp.bestR; rw [if_neg hc])
    have hbb : (I.code tick == (0 : Int)) = false := beq_eq_false_iff_ne.2 hc
    have hbn : (I.code tick != (0 : Int)) = true := by rw [bne_iff_ne]; exact hc
    replace hc := Lib.hid hc
    go_enter Tryz.func20, Tryz.ntmps20
    go_wp2_with fail
    refine (newTick_bad I tick _ (h.ext (by with_reducible (repeat first | assumption | exact Ext.refl _ | refine Ext.set ?_ (by omega) _ | refine Ext.alloc ?_ _ | refine Ext.drew ?_ | refine Ext.drewN ?_ _ | refine Ext.trans ?_ (by assumption)))) h12 hc.out).mono ?_
    rintro e1 w1 ⟨rfl, hb1⟩
    obtain ⟨hc1, hf1, hz1⟩ := hb1.cells
    have hs1 := hb1.size
    simp at hs1
    have r0 : w1.cell? ⟨w.heap.size + 1 + 1 + 1, 0, none⟩ = some (.int .i64 0) := by go_simp
    have r1 : w1.cell? ⟨w.heap.size + 1 + 1 + 1, 1, none⟩ = some (.int .i64 0) := by go_simp
    have r2 : w1.cell? ⟨w.heap.size + 1 + 1 + 1, 2, none⟩ = some (.bool false) := by go_simp
    have rf0 : w1.frozen? ⟨w.heap.size + 1 + 1 + 1, 0, none⟩ = false := by go_simp
    have rf1 : w1.frozen? ⟨w.heap.size + 1 + 1 + 1, 1, none⟩ = false := by go_simp
    have rf2 : w1.frozen? ⟨w.heap.size + 1 + 1 + 1, 2, none⟩ = false := by go_simp
    have rl : w.heap.size + 1 + 1 + 1 < w1.heap.size := by omega
    clear hc1 hf1
    go_wp2
    refine bodyPost_ret (v := .tuple #[z_hv.val, .int .i64 (I.code tick)]) ?_ rfl ⟨by rw [hR.out], (by with_reducible (repeat first | assumption | exact Ext.refl _ | refine Ext.set ?_ (by omega) _ | refine Ext.alloc ?_ _ | refine Ext.drew ?_ | refine Ext.drewN ?_ _ | refine Ext.trans ?_ (by assumption)))⟩
    simp [results, go_sem, z_hv, *]
end Go.Proofs.YtmmimbcfgobnaaaGreat
namespace Go.Proofs.YtmmimbcfgobnaaaGreat
open Go.RowKit
set_option linter.unusedVariables false
set_option linter.unusedSimpArgs false
attribute [local go_sem] stored_match isSome_setCell

/-- How many of the first n are so, up to the first one that is not. -/
def lead (p : Nat → Bool) : Nat → Nat
  | 0 => 0
  | n + 1 => if lead p n = n ∧ p n = true then n + 1 else lead p n
theorem lead_all {p : Nat → Bool} : ∀ n, (∀ j, j < n → p j = true) → lead p n = n
  | 0, _ => rfl
  | n + 1, h => by
    unfold lead
    rw [if_pos ⟨lead_all n (fun j hj => h j (by omega)), h n (by omega)⟩]
theorem lead_stop {p : Nat → Bool} {k : Nat} (h : ∀ j, j < k → p j = true) (hk : p k = false) : ∀ n, k < n → lead p n = k
  | n + 1, hn => by
    unfold lead
    by_cases e : k = n
    · subst e
      rw [if_neg (by simp [hk]), lead_all k h]
    · have := lead_stop h hk n (by omega)
      rw [if_neg (by omega), this]
theorem Plan.safeTo_at {P : Plan} {dry : Bool} {n : Nat} (h : P.safeTo dry n = true) : ∀ k, k < n → P.safeAt dry k = true := fun k hk => by
  unfold Plan.safeTo at h
  rw [List.all_eq_true] at h
  exact h k (List.mem_range.2 hk)
theorem Plan.safeTo_false {P : Plan} {dry : Bool} {n k : Nat} (hk : k < n) (h : P.safeAt dry k = false) : P.safeTo dry n = false := by
  rw [← Bool.not_eq_true]
  intro hs
  rw [Plan.safeTo_at hs k hk] at h
  exact absurd h (by decide)
def Plan.leastN (P : Plan) : Int × Bool := if P.safeTo true P.ticks = true then (P.mostTo P.ticks, decide (P.mostTo P.ticks ≤ 100000)) else (0, false)
theorem least_N (P : Plan) (p : Nat) (r : Refs) (w : World) (h : PlanAt w P p r) (hf12 : P.N.met.fc12) (hs12 : P.N.met.si12) :
    Calls Tryz.prog 69 #[.pointer (some ⟨p, 0, none⟩)] w fun e w' => e = .returned (.tuple #[.int .i64 P.leastN.1, .bool P.leastN.2]) ∧ Ext w w' := by
  refine (least_69 P p r w h hf12 hs12).mono ?_
  rintro e w' (⟨hs, rfl, hx⟩ | ⟨k, hk, hs, hn, rfl, hx⟩)
  · unfold Plan.leastN; rw [if_pos hs]; exact ⟨rfl, hx⟩
  · unfold Plan.leastN; rw [if_neg (by simp [Plan.safeTo_false hk hn])]; exact ⟨rfl, hx⟩
def Plan.firstBad (P : Plan) : Nat := lead (P.safeAt false) P.ticks
def Plan.safeN (P : Plan) : Int × Bool := if P.safeTo false P.ticks = true then (0, true) else (P.f.depart + P.firstBad, false)
def Plan.proofN (P : Plan) : List Haven := if P.safeTo false P.ticks = true then P.proofTo false P.ticks else []
def ProofNPost (P : Plan) (w : World) (e : Ending) (w' : World) : Prop :=
  (∃ A k, e = .returned (.tuple #[.slice A P.proofN.length k, .int .i64 P.safeN.1, .bool P.safeN.2]) ∧ Rows 3 Haven.enc w' A P.proofN.length P.proofN ∧ (P.proofN.length = 0 → A = none ∧ k = 0)) ∧ Ext w w'
theorem Plan.ticks_bd {P : Plan} (hng : P.N.good = true) (hfg : P.f.good P.N.met.places P.N.L = true) : 1 ≤ P.ticks ∧ P.ticks ≤ 2001 := by
  have := Plan.arrival_bd hng hfg
  unfold Plan.ticks; omega
theorem proof_N (P : Plan) (p : Nat) (r : Refs) (w : World) (h : PlanAt w P p r) (hf12 : P.N.met.fc12) (hs12 : P.N.met.si12) :
    Calls Tryz.prog 70 #[.pointer (some ⟨p, 0, none⟩)] w (ProofNPost P w) := by
  have ht := Plan.ticks_bd h.ngood h.fgood
  refine (proof_70 P p r w h hf12 hs12).mono ?_
  rintro e w' (⟨v, hs, rfl, ho, hx⟩ | ⟨k, hk, hs, hn, rfl, hx⟩)
  · have e1 : P.proofN = P.proofTo false P.ticks := by unfold Plan.proofN; rw [if_pos hs]
    have e2 : P.safeN = (0, true) := by unfold Plan.safeN; rw [if_pos hs]
    obtain ⟨A, c, rfl, hR⟩ := ho.rows (fun _ => rfl) (by rw [Plan.proofTo_length]; omega)
    unfold ProofNPost
    rw [e1, e2]
    exact ⟨⟨A, c, rfl, hR, fun h0 => by rw [Plan.proofTo_length] at h0; omega⟩, hx⟩
  · have hf := Plan.safeTo_false hk hn
    have e1 : P.proofN = [] := by unfold Plan.proofN; rw [if_neg (by simp [hf])]
    have e3 : P.firstBad = k := lead_stop (Plan.safeTo_at hs) hn _ hk
    have e2 : P.safeN = (P.f.depart + k, false) := by unfold Plan.safeN; rw [if_neg (by simp [hf]), e3]
    unfold ProofNPost
    rw [e1, e2]
    exact ⟨⟨none, 0, rfl, Rows.nil _ _ _ _, fun _ => ⟨rfl, rfl⟩⟩, hx⟩
def Inp.leastR (I : Inp) : Int × Int := if I.err = 0 then (if I.P.leastN.2 = true then (I.P.leastN.1, 0) else (0, 3)) else (0, I.err)
set_option maxRecDepth 100000 in
set_option maxHeartbeats 2000000 in
theorem Least_31 (I : Inp) (w : World) (h : I.In w) (h12 : I.Short) :
    Calls Tryz.prog 31 #[I.vm, I.l.val, I.vn, I.vf] w fun e w' => e = .returned (.tuple #[.int .i64 I.leastR.1, .int .i64 I.leastR.2]) ∧ Ext w w' := by
  simp only [Inp.vm, Inp.vn, Inp.vf, Met.val, Flight.val, Minima.val]
  by_cases hc : I.err = 0
  · rcases Bool.eq_false_or_eq_true I.P.leastN.2 with hb | hb
    all_goals
      first
      | have hR := Lib.hid (show I.leastR = (I.P.leastN.1, 0) by unfold Inp.leastR; rw [if_pos hc, if_pos hb])
      | have hR := Lib.hid (show I.leastR = (0, 3) by unfold Inp.leastR; rw [if_pos hc, if_neg (by simp [hb])])
      replace hc := Lib.hid hc
      replace hb := Lib.hid hb
      go_enter Tryz.func31, Tryz.ntmps31
      go_wp2_with (first | (go_at_call 64; refine (newFlight_ok I _ (h.ext (by with_reducible (repeat first | assumption | exact Ext.refl _ | refine Ext.set ?_ (by omega) _ | refine Ext.alloc ?_ _ | refine Ext.drew ?_ | refine Ext.drewN ?_ _ | refine Ext.trans ?_ (by assumption)))) h12 (w.heap.size + 1) ((MinAt.box (w.alloc _) I.l (by simp)).ext (by with_reducible (repeat first | assumption | exact Ext.refl _ | refine Ext.set ?_ (by omega) _ | refine Ext.alloc ?_ _ | refine Ext.drew ?_ | refine Ext.drewN ?_ _ | refine Ext.trans ?_ (by assumption)))) hc.out).mono ?_; rintro e1 w1 ⟨⟨p, r, rfl, hP⟩, hb1⟩; replace hP := Lib.hid hP) | (go_at_call 69; refine (least_N I.P p r _ (hP.out.ext (by with_reducible (repeat first | assumption | exact Ext.refl _ | refine Ext.set ?_ (by omega) _ | refine Ext.alloc ?_ _ | refine Ext.drew ?_ | refine Ext.drewN ?_ _ | refine Ext.trans ?_ (by assumption)))) h12.fcs h12.sights).mono ?_; rw [hb.out]; rintro e1 w2 ⟨rfl, hb2⟩))
      go_ret2
      rw [hR.out]
      exact ⟨rfl, (by with_reducible (repeat first | assumption | exact Ext.refl _ | refine Ext.set ?_ (by omega) _ | refine Ext.alloc ?_ _ | refine Ext.drew ?_ | refine Ext.drewN ?_ _ | refine Ext.trans ?_ (by assumption)))⟩
  · have hR := Lib.hid (show I.leastR = (0, I.err) by unfold Inp.leastR; rw [if_neg hc])
    have hbb : (I.err == (0 : Int)) = false := beq_eq_false_iff_ne.2 hc
    have hbn : (I.err != (0 : Int)) = true := by rw [bne_iff_ne]; exact hc
    replace hc := Lib.hid hc
    go_enter Tryz.func31, Tryz.ntmps31
    go_wp2_with (go_at_call 64; refine (newFlight_bad I _ (h.ext (by with_reducible (repeat first | assumption | exact Ext.refl _ | refine Ext.set ?_ (by omega) _ | refine Ext.alloc ?_ _ | refine Ext.drew ?_ | refine Ext.drewN ?_ _ | refine Ext.trans ?_ (by assumption)))) h12 (w.heap.size + 1) ((MinAt.box (w.alloc _) I.l (by simp)).ext (by with_reducible (repeat first | assumption | exact Ext.refl _ | refine Ext.set ?_ (by omega) _ | refine Ext.alloc ?_ _ | refine Ext.drew ?_ | refine Ext.drewN ?_ _ | refine Ext.trans ?_ (by assumption)))) hc.out).mono ?_; rintro e1 w1 ⟨rfl, hb1⟩)
    go_ret2
    rw [hR.out]
    exact ⟨rfl, (by with_reducible (repeat first | assumption | exact Ext.refl _ | refine Ext.set ?_ (by omega) _ | refine Ext.alloc ?_ _ | refine Ext.drew ?_ | refine Ext.drewN ?_ _ | refine Ext.trans ?_ (by assumption)))⟩
def Inp.safeR (I : Inp) : Int × Bool × Int := if I.err = 0 then (I.P.safeN.1, I.P.safeN.2, 0) else (0, false, I.err)
set_option maxRecDepth 100000 in
set_option maxHeartbeats 2000000 in
theorem Safe_32 (I : Inp) (w : World) (h : I.In w) (h12 : I.Short) :
    Calls Tryz.prog 32 #[I.vm, I.l.val, I.vn, I.vf] w fun e w' => e = .returned (.tuple #[.int .i64 I.safeR.1, .bool I.safeR.2.1, .int .i64 I.safeR.2.2]) ∧ Ext w w' := by
  simp only [Inp.vm, Inp.vn, Inp.vf, Met.val, Flight.val, Minima.val]
  by_cases hc : I.err = 0
  · have hR := Lib.hid (show I.safeR = (I.P.safeN.1, I.P.safeN.2, 0) by unfold Inp.safeR; rw [if_pos hc])
    replace hc := Lib.hid hc
    go_enter Tryz.func32, Tryz.ntmps32
    go_wp2_with (first | (go_at_call 64; refine (newFlight_ok I _ (h.ext (by with_reducible (repeat first | assumption | exact Ext.refl _ | refine Ext.set ?_ (by omega) _ | refine Ext.alloc ?_ _ | refine Ext.drew ?_ | refine Ext.drewN ?_ _ | refine Ext.trans ?_ (by assumption)))) h12 (w.heap.size + 1) ((MinAt.box (w.alloc _) I.l (by simp)).ext (by with_reducible (repeat first | assumption | exact Ext.refl _ | refine Ext.set ?_ (by omega) _ | refine Ext.alloc ?_ _ | refine Ext.drew ?_ | refine Ext.drewN ?_ _ | refine Ext.trans ?_ (by assumption)))) hc.out).mono ?_; rintro e1 w1 ⟨⟨p, r, rfl, hP⟩, hb1⟩; replace hP := Lib.hid hP) | (go_at_call 70; refine (proof_N I.P p r _ (hP.out.ext (by with_reducible (repeat first | assumption | exact Ext.refl _ | refine Ext.set ?_ (by omega) _ | refine Ext.alloc ?_ _ | refine Ext.drew ?_ | refine Ext.drewN ?_ _ | refine Ext.trans ?_ (by assumption)))) h12.fcs h12.sights).mono ?_; rintro e1 w2 ⟨⟨A, k, rfl, -, -⟩, hb2⟩))
    go_ret3
    rw [hR.out]
    exact ⟨rfl, (by with_reducible (repeat first | assumption | exact Ext.refl _ | refine Ext.set ?_ (by omega) _ | refine Ext.alloc ?_ _ | refine Ext.drew ?_ | refine Ext.drewN ?_ _ | refine Ext.trans ?_ (by assumption)))⟩
  · have hR := Lib.hid (show I.safeR = (0, false, I.err) by unfold Inp.safeR; rw [if_neg hc])
    have hbb : (I.err == (0 : Int)) = false := beq_eq_false_iff_ne.2 hc
    have hbn : (I.err != (0 : Int)) = true := by rw [bne_iff_ne]; exact hc
    replace hc := Lib.hid hc
    go_enter Tryz.func32, Tryz.ntmps32
    go_wp2_with (go_at_call 64; refine (newFlight_bad I _ (h.ext (by with_reducible (repeat first | assumption | exact Ext.refl _ | refine Ext.set ?_ (by omega) _ | refine Ext.alloc ?_ _ | refine Ext.drew ?_ | refine Ext.drewN ?_ _ | refine Ext.trans ?_ (by assumption)))) h12 (w.heap.size + 1) ((MinAt.box (w.alloc _) I.l (by simp)).ext (by with_reducible (repeat first | assumption | exact Ext.refl _ | refine Ext.set ?_ (by omega) _ | refine Ext.alloc ?_ _ | refine Ext.drew ?_ | refine Ext.drewN ?_ _ | refine Ext.trans ?_ (by assumption)))) hc.out).mono ?_; rintro e1 w1 ⟨rfl, hb1⟩)
    go_ret3
    rw [hR.out]
    exact ⟨rfl, (by with_reducible (repeat first | assumption | exact Ext.refl _ | refine Ext.set ?_ (by omega) _ | refine Ext.alloc ?_ _ | refine Ext.drew ?_ | refine Ext.drewN ?_ _ | refine Ext.trans ?_ (by assumption)))⟩
def Inp.proofC (I : Inp) : Int := if I.err = 0 then (if I.P.safeN.2 = true then 0 else 3) else I.err
def ProofPost42 (c : Int) (L : List Haven) (w : World) (e : Ending) (w' : World) : Prop :=
  (c = 0 → ∃ A k, e = .returned (.tuple #[.slice A L.length k, .int .i64 0]) ∧ Rows 3 Haven.enc w' A L.length L) ∧ (c ≠ 0 → e = .returned (.tuple #[.slice none 0 0, .int .i64 c])) ∧ Ext w w'
set_option maxRecDepth 100000 in
set_option maxHeartbeats 2000000 in
theorem Proof_42 (I : Inp) (w : World) (h : I.In w) (h12 : I.Short) :
    Calls Tryz.prog 42 #[I.vm, I.l.val, I.vn, I.vf] w (ProofPost42 I.proofC I.P.proofN w) := by
  simp only [Inp.vm, Inp.vn, Inp.vf, Met.val, Flight.val, Minima.val]
  by_cases hc : I.err = 0
  · rcases Bool.eq_false_or_eq_true I.P.safeN.2 with hb | hb
    · have hR := Lib.hid (show I.proofC = 0 by unfold Inp.proofC; rw [if_pos hc, if_pos hb])
      replace hc := Lib.hid hc
      replace hb := Lib.hid hb
      go_enter Tryz.func42, Tryz.ntmps42
      go_wp2_with (first | (go_at_call 64; refine (newFlight_ok I _ (h.ext (by with_reducible (repeat first | assumption | exact Ext.refl _ | refine Ext.set ?_ (by omega) _ | refine Ext.alloc ?_ _ | refine Ext.drew ?_ | refine Ext.drewN ?_ _ | refine Ext.trans ?_ (by assumption)))) h12 (w.heap.size + 1) ((MinAt.box (w.alloc _) I.l (by simp)).ext (by with_reducible (repeat first | assumption | exact Ext.refl _ | refine Ext.set ?_ (by omega) _ | refine Ext.alloc ?_ _ | refine Ext.drew ?_ | refine Ext.drewN ?_ _ | refine Ext.trans ?_ (by assumption)))) hc.out).mono ?_; rintro e1 w1 ⟨⟨p, r, rfl, hP⟩, hb1⟩; replace hP := Lib.hid hP) | (go_at_call 70; refine (proof_N I.P p r _ (hP.out.ext (by with_reducible (repeat first | assumption | exact Ext.refl _ | refine Ext.set ?_ (by omega) _ | refine Ext.alloc ?_ _ | refine Ext.drew ?_ | refine Ext.drewN ?_ _ | refine Ext.trans ?_ (by assumption)))) h12.fcs h12.sights).mono ?_; unfold ProofNPost; rw [hb.out]; rintro e1 w2 ⟨⟨A, k, rfl, hRr, -⟩, hb2⟩; replace hRr := Lib.hid hRr))
      go_ret2
      unfold ProofPost42
      rw [hR.out]
      exact ⟨fun _ => ⟨A, k, rfl, hRr.out⟩, fun h => absurd rfl h, (by with_reducible (repeat first | assumption | exact Ext.refl _ | refine Ext.set ?_ (by omega) _ | refine Ext.alloc ?_ _ | refine Ext.drew ?_ | refine Ext.drewN ?_ _ | refine Ext.trans ?_ (by assumption)))⟩
    · have hR := Lib.hid (show I.proofC = 3 by unfold Inp.proofC; rw [if_pos hc, if_neg (by simp [hb])])
      replace hc := Lib.hid hc
      replace hb := Lib.hid hb
      go_enter Tryz.func42, Tryz.ntmps42
      go_wp2_with (first | (go_at_call 64; refine (newFlight_ok I _ (h.ext (by with_reducible (repeat first | assumption | exact Ext.refl _ | refine Ext.set ?_ (by omega) _ | refine Ext.alloc ?_ _ | refine Ext.drew ?_ | refine Ext.drewN ?_ _ | refine Ext.trans ?_ (by assumption)))) h12 (w.heap.size + 1) ((MinAt.box (w.alloc _) I.l (by simp)).ext (by with_reducible (repeat first | assumption | exact Ext.refl _ | refine Ext.set ?_ (by omega) _ | refine Ext.alloc ?_ _ | refine Ext.drew ?_ | refine Ext.drewN ?_ _ | refine Ext.trans ?_ (by assumption)))) hc.out).mono ?_; rintro e1 w1 ⟨⟨p, r, rfl, hP⟩, hb1⟩; replace hP := Lib.hid hP) | (go_at_call 70; refine (proof_N I.P p r _ (hP.out.ext (by with_reducible (repeat first | assumption | exact Ext.refl _ | refine Ext.set ?_ (by omega) _ | refine Ext.alloc ?_ _ | refine Ext.drew ?_ | refine Ext.drewN ?_ _ | refine Ext.trans ?_ (by assumption)))) h12.fcs h12.sights).mono ?_; unfold ProofNPost; rw [hb.out]; rintro e1 w2 ⟨⟨A, k, rfl, hRr, -⟩, hb2⟩; replace hRr := Lib.hid hRr))
      go_ret2
      unfold ProofPost42
      rw [hR.out]
      exact ⟨fun h => absurd h (by decide), fun _ => rfl, (by with_reducible (repeat first | assumption | exact Ext.refl _ | refine Ext.set ?_ (by omega) _ | refine Ext.alloc ?_ _ | refine Ext.drew ?_ | refine Ext.drewN ?_ _ | refine Ext.trans ?_ (by assumption)))⟩
  · have hR := Lib.hid (show I.proofC = I.err by unfold Inp.proofC; rw [if_neg hc])
    have hbb : (I.err == (0 : Int)) = false := beq_eq_false_iff_ne.2 hc
    have hbn : (I.err != (0 : Int)) = true := by rw [bne_iff_ne]; exact hc
    replace hc := Lib.hid hc
    go_enter Tryz.func42, Tryz.ntmps42
    go_wp2_with (go_at_call 64; refine (newFlight_bad I _ (h.ext (by with_reducible (repeat first | assumption | exact Ext.refl _ | refine Ext.set ?_ (by omega) _ | refine Ext.alloc ?_ _ | refine Ext.drew ?_ | refine Ext.drewN ?_ _ | refine Ext.trans ?_ (by assumption)))) h12 (w.heap.size + 1) ((MinAt.box (w.alloc _) I.l (by simp)).ext (by with_reducible (repeat first | assumption | exact Ext.refl _ | refine Ext.set ?_ (by omega) _ | refine Ext.alloc ?_ _ | refine Ext.drew ?_ | refine Ext.drewN ?_ _ | refine Ext.trans ?_ (by assumption)))) hc.out).mono ?_; rintro e1 w1 ⟨rfl, hb1⟩)
    go_ret2
    unfold ProofPost42
    rw [hR.out]
    exact ⟨fun h0 => absurd h0 hc.out, fun _ => rfl, (by with_reducible (repeat first | assumption | exact Ext.refl _ | refine Ext.set ?_ (by omega) _ | refine Ext.alloc ?_ _ | refine Ext.drew ?_ | refine Ext.drewN ?_ _ | refine Ext.trans ?_ (by assumption)))⟩
end Go.Proofs.YtmmimbcfgobnaaaGreat
