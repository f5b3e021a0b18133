/- route.newFlight, arrival. -/
import Derived.Test.YtmmimbcfgobnaaaGreatR4
import Derived.Test.YtmmimbcfgobnaaaGreatR3b
import Derived.Test.YtmmimbcfgobnaaaGreatR3c
set_option linter.unusedVariables false
set_option linter.unusedSimpArgs false
namespace Go.Proofs.YtmmimbcfgobnaaaGreat
open Go.RowKit
set_option linter.unusedVariables false
set_option linter.unusedSimpArgs false
attribute [local go_sem] stored_match isSome_setCell

structure Refs where
  q : Nat
  t : Two
  AF : Option Addr
  nF : Nat
  cF : Nat
  AS : Option Addr
  nS : Nat
  cS : Nat
  AR : Option Addr
  cR : Nat
  AA : Option Addr
  cA : Nat
/-- A valid flight of a valid net in block p. -/
structure PlanAt (w : World) (P : Plan) (p : Nat) (r : Refs) : Prop where
  net : ∃ W0, NetSt W0 P.N.met (.slice r.AF r.nF r.cF) (.slice r.AS r.nS r.cS) r.q P.N.n r.t P.N.L P.N.T w
  met : MetIn w P.N.met r.AF r.nF r.AS r.nS
  fl : FlightAt w p r.q P.f (.slice r.AR P.f.route.length r.cR) P.l (.slice r.AA P.f.route.length r.cA)
  route : Rows 1 encInt w r.AR P.f.route.length P.f.route
  at_ : Rows 1 encInt w r.AA P.f.route.length (P.f.atList P.N.L P.f.route.length)
  ngood : P.N.good = true
  fgood : P.f.good P.N.met.places P.N.L = true
theorem PlanAt.ext {w w' : World} {P : Plan} {p : Nat} {r : Refs} (h : PlanAt w P p r) (e : Ext w w') : PlanAt w' P p r := by
  obtain ⟨W0, hN⟩ := h.net
  exact ⟨⟨W0, hN.grow e⟩, h.met.ext e, h.fl.ext e, h.route.ext e, h.at_.ext e, h.ngood, h.fgood⟩
def NFPost (P : Plan) (l : Option Minima) (w : World) (e : Ending) (w' : World) : Prop :=
  (P.N.checkF l P.f = 0 → ∃ p r, e = .returned (.tuple #[.pointer (some ⟨p, 0, none⟩), .int .i64 0]) ∧ PlanAt w' P p r) ∧ (P.N.checkF l P.f ≠ 0 → e = .returned (.tuple #[.pointer none, .int .i64 (P.N.checkF l P.f)])) ∧ Ext w w'
theorem NFPost.bad {P : Plan} {l : Option Minima} {w w' : World} {c : Int} (h : P.N.checkF l P.f = c) (hc : c ≠ 0) (e : Ext w w') : NFPost P l w (.returned (.tuple #[.pointer none, .int .i64 c])) w' :=
  ⟨fun g => absurd (h.symm.trans g) hc, fun _ => by rw [h], e⟩
theorem NFPost.ok {P : Plan} {l : Option Minima} {w w' : World} {p : Nat} {r : Refs} (h : P.N.checkF l P.f = 0) (hP : PlanAt w' P p r) (e : Ext w w') : NFPost P l w (.returned (.tuple #[.pointer (some ⟨p, 0, none⟩), .int .i64 0])) w' :=
  ⟨fun _ => ⟨p, r, rfl, hP⟩, fun g => absurd h g, e⟩
theorem Net.checkF_net {N : Net} {l : Option Minima} {f : Flight} (h : N.checkL l ≠ 0) : N.checkF l f = N.checkL l := by unfold Net.checkF; rw [if_neg h]
theorem Net.checkF_bad {N : Net} {l : Option Minima} {f : Flight} (h : N.checkL l = 0) (hf : f.good N.met.places N.L = false) : N.checkF l f = 51 := by unfold Net.checkF; rw [if_pos h, if_neg (by simp [hf])]
theorem Net.checkF_ok {N : Net} {l : Option Minima} {f : Flight} (h : N.checkL l = 0) (hf : f.good N.met.places N.L = true) : N.checkF l f = 0 := by unfold Net.checkF; rw [if_pos h, if_pos hf]
theorem Net.check_good {N : Net} (h : N.check = 0) : N.good = true := by
  unfold Net.check at h
  unfold Net.good
  by_cases h1 : N.met.good = true
  · rw [if_pos h1] at h
    by_cases h2 : (decide (N.net.length ≤ 20) && N.net.all (Leg.ok N.met.places)) = true
    · rw [h1, Bool.true_and, h2]
    · rw [if_neg h2] at h; exact absurd h (by decide)
  · rw [if_neg h1] at h; exact absurd h (by decide)
theorem Net.checkL_good {N : Net} {l : Minima} (h : N.checkL (some l) = 0) : N.good = true ∧ l.good = true := by
  simp only [Net.checkL] at h
  by_cases h1 : checkMinima N.met l = 0
  · rw [if_pos h1] at h
    exact ⟨Net.check_good h, ((checkMinima_of _ _).1 h1).2⟩
  · rw [if_neg h1] at h; exact absurd h h1
theorem Net.good_parts {N : Net} (h : N.good = true) : N.met.good = true ∧ (1 ≤ N.met.places ∧ N.met.places ≤ 8) ∧ ((N.n : Int) ≤ N.met.places ∧ N.met.places ≤ N.n ∧ 1 ≤ N.n ∧ N.n ≤ 8) ∧ N.L.upto 200 ∧ N.T.upto 51200 := by
  unfold Net.good at h
  simp only [Bool.and_eq_true, decide_eq_true_eq] at h
  obtain ⟨⟨h1, h2⟩, h3⟩ := h
  have hp := (Met.good_parts h1).1
  have hn : (N.n : Int) ≤ N.met.places ∧ N.met.places ≤ N.n ∧ 1 ≤ N.n ∧ N.n ≤ 8 := by unfold Net.n; omega
  have h4 : ∀ x ∈ N.net, Leg.ok N.met.places x = true := fun x hx => List.all_eq_true.1 h3 x hx
  exact ⟨h1, hp, hn, legTab_upto h4, timesOf_upto hn.2.2.2 h4⟩
/-- Minima are stored into the flight. -/
theorem FlightAt.minima {w : World} {p q : Nat} {f : Flight} {R : Value} {l0 : Minima} {v : Value} (h : FlightAt w p q f R l0 v) (l : Minima) :
    FlightAt (((((w.setCell ⟨p, 6, none⟩ (.int .i64 l.wind)).setCell ⟨p, 7, none⟩ (.int .i64 l.see)).setCell ⟨p, 8, none⟩ (.int .i64 l.ceil)).setCell ⟨p, 9, none⟩ (.bool l.ice)).setCell ⟨p, 10, none⟩ (.bool l.storm)) p q f R l v := by
  have n : ∀ o, o ≠ 6 → o ≠ 7 → o ≠ 8 → o ≠ 9 → o ≠ 10 → (((((w.setCell ⟨p, 6, none⟩ (.int .i64 l.wind)).setCell ⟨p, 7, none⟩ (.int .i64 l.see)).setCell ⟨p, 8, none⟩ (.int .i64 l.ceil)).setCell ⟨p, 9, none⟩ (.bool l.ice)).setCell ⟨p, 10, none⟩ (.bool l.storm)).cell? ⟨p, o, none⟩ = w.cell? ⟨p, o, none⟩ := fun o h6 h7 h8 h9 h10 => by
    rw [cell_set_ne _ _ (Or.inr h10), cell_set_ne _ _ (Or.inr h9), cell_set_ne _ _ (Or.inr h8), cell_set_ne _ _ (Or.inr h7), cell_set_ne _ _ (Or.inr h6)]
  have nn := fun o h6 h7 h8 h9 h10 => n o h6 h7 h8 h9 h10
  refine ⟨by simpa [World.setCell] using h.lt, (n _ (by omega) (by omega) (by omega) (by omega) (by omega)).trans h.c0, (n _ (by omega) (by omega) (by omega) (by omega) (by omega)).trans h.c1, (n _ (by omega) (by omega) (by omega) (by omega) (by omega)).trans h.c2, (n _ (by omega) (by omega) (by omega) (by omega) (by omega)).trans h.c3, (n _ (by omega) (by omega) (by omega) (by omega) (by omega)).trans h.c4, (n _ (by omega) (by omega) (by omega) (by omega) (by omega)).trans h.c5, ?_, ?_, ?_, ?_, ?_, (n _ (by omega) (by omega) (by omega) (by omega) (by omega)).trans h.c11, fun o => ?_⟩
  · rw [cell_set_ne _ _ (Or.inr (by omega)), cell_set_ne _ _ (Or.inr (by omega)), cell_set_ne _ _ (Or.inr (by omega)), cell_set_ne _ _ (Or.inr (by omega)), cell_set_eq _ _ (by rw [h.c6]; rfl)]
  · rw [cell_set_ne _ _ (Or.inr (by omega)), cell_set_ne _ _ (Or.inr (by omega)), cell_set_ne _ _ (Or.inr (by omega)), cell_set_eq _ _ (by simp only [isSome_setCell]; rw [h.c7]; rfl)]
  · rw [cell_set_ne _ _ (Or.inr (by omega)), cell_set_ne _ _ (Or.inr (by omega)), cell_set_eq _ _ (by simp only [isSome_setCell]; rw [h.c8]; rfl)]
  · rw [cell_set_ne _ _ (Or.inr (by omega)), cell_set_eq _ _ (by simp only [isSome_setCell]; rw [h.c9]; rfl)]
  · rw [cell_set_eq _ _ (by simp only [isSome_setCell]; rw [h.c10]; rfl)]
  · exact ((((((ExtBut.refl p w).set 6 (.int .i64 l.wind)).set 7 (.int .i64 l.see)).set 8 (.int .i64 l.ceil)).set 9 (.bool l.ice)).set 10 (.bool l.storm)).frozen h.lt o |>.trans (h.free o)
theorem Owns.ints {w : World} {base : Nat} {A : Option Addr} {n c : Nat} {L : List Int} (h : Owns 3 1 encInt w base (.slice A n c) L) (hL : L.length ≤ 1000) : n = L.length ∧ Rows 1 encInt w A n L := by
  obtain ⟨A', c', e, hR⟩ := h.rows (fun _ => rfl) (by omega)
  simp only [Value.slice.injEq] at e
  obtain ⟨rfl, rfl, rfl⟩ := e
  exact ⟨rfl, hR⟩
set_option maxRecDepth 100000 in
set_option maxHeartbeats 2000000 in
theorem newFlight_nil_net (m : Met) (xs : List Leg) (f : Flight) (AF AS : Option Addr) (nF cF nS cS : Nat) (A : Option Addr) (nx c : Nat) (AR : Option Addr) (nR cR : Nat) (w : World) (hm : MetIn w m AF nF AS nS) (hx : Rows 3 Leg.enc w A nx xs) (hR : Rows 1 encInt w AR nR f.route) (z : Minima) (hb : (Net.mk m xs).check ≠ 0) :
    Calls Tryz.prog 64 #[m.val (.slice AF nF cF) (.slice AS nS cS), .pointer none, .slice A nx c, f.val (.slice AR nR cR)] w (NFPost ⟨⟨m, xs⟩, z, f⟩ none w) := by
  have hR := Lib.hid (Net.checkF_net (N := Net.mk m xs) (l := none) (f := f) hb)
  have hb0 := Lib.hid (show (Net.mk m xs).checkL none ≠ 0 from hb)
  have hbb : ((Net.mk m xs).check == (0 : Int)) = false := beq_eq_false_iff_ne.2 hb
  have hbn : ((Net.mk m xs).check != (0 : Int)) = true := by rw [bne_iff_ne]; exact hb
  simp only [Met.val, Flight.val]
  go_enter Tryz.func64, Tryz.ntmps64
  go_wp2_with (go_at_call 63; refine (newNet_nil_bad m xs AF AS nF cF nS cS A nx c _ (hm.ext (by with_reducible (repeat first | assumption | exact Ext.refl _ | refine Ext.set ?_ (by omega) _ | refine Ext.alloc ?_ _ | refine Ext.drew ?_ | refine Ext.drewN ?_ _ | refine Ext.trans ?_ (by assumption)))) (hx.ext (by with_reducible (repeat first | assumption | exact Ext.refl _ | refine Ext.set ?_ (by omega) _ | refine Ext.alloc ?_ _ | refine Ext.drew ?_ | refine Ext.drewN ?_ _ | refine Ext.trans ?_ (by assumption)))) hb).mono ?_; rintro e1 w1 ⟨rfl, hb1⟩)
  go_ret2
  exact NFPost.bad hR.out hb0.out (by with_reducible (repeat first | assumption | exact Ext.refl _ | refine Ext.set ?_ (by omega) _ | refine Ext.alloc ?_ _ | refine Ext.drew ?_ | refine Ext.drewN ?_ _ | refine Ext.trans ?_ (by assumption)))
set_option maxRecDepth 100000 in
set_option maxHeartbeats 2000000 in
theorem newFlight_nil_bad (m : Met) (xs : List Leg) (f : Flight) (AF AS : Option Addr) (nF cF nS cS : Nat) (A : Option Addr) (nx c : Nat) (AR : Option Addr) (nR cR : Nat) (w : World) (hm : MetIn w m AF nF AS nS) (hx : Rows 3 Leg.enc w A nx xs) (hR : Rows 1 encInt w AR nR f.route) (z : Minima) (hb : (Net.mk m xs).checkL none = 0) (hfg : f.good m.places (Net.mk m xs).L = false) :
    Calls Tryz.prog 64 #[m.val (.slice AF nF cF) (.slice AS nS cS), .pointer none, .slice A nx c, f.val (.slice AR nR cR)] w (NFPost ⟨⟨m, xs⟩, z, f⟩ none w) := by
  have hg := Net.check_good hb
  obtain ⟨hmg, ⟨p1, p8⟩, ⟨n1, n2, n3, n4⟩, hLu, hTu⟩ := Net.good_parts hg
  dsimp only at p1 p8 n1 n2
  have hcf := Lib.hid (Net.checkF_bad (N := Net.mk m xs) (l := none) hb hfg)
  have hg' := Lib.hid hg
  have hfg' := Lib.hid hfg
  obtain rfl := hR.len
  have hR' := Lib.hid hR
  clear hb hR
  simp only [Met.val, Flight.val]
  go_enter Tryz.func64, Tryz.ntmps64
  go_wp2_with fail
  refine (newNet_nil m xs AF AS nF cF nS cS A nx c _ (hm.ext (by with_reducible (repeat first | assumption | exact Ext.refl _ | refine Ext.set ?_ (by omega) _ | refine Ext.alloc ?_ _ | refine Ext.drew ?_ | refine Ext.drewN ?_ _ | refine Ext.trans ?_ (by assumption)))) (hx.ext (by with_reducible (repeat first | assumption | exact Ext.refl _ | refine Ext.set ?_ (by omega) _ | refine Ext.alloc ?_ _ | refine Ext.drew ?_ | refine Ext.drewN ?_ _ | refine Ext.trans ?_ (by assumption)))) hg).mono ?_
  clear hg
  rintro e1 w1 ⟨q, t, rfl, hN⟩
  have hb1 := hN.ext
  obtain ⟨hc1, hf1, hz1⟩ := hb1.cells
  have hs1 := hb1.size
  simp at hs1
  have hN0 := Lib.hid hN
  go_wp2_with fail
  refine (fly_102 _ m _ _ q _ t _ _ f AR f.route.length cR _ hN0.out hLu (hR'.out.ext (by with_reducible (repeat first | assumption | exact Ext.refl _ | refine Ext.set ?_ (by omega) _ | refine Ext.alloc ?_ _ | refine Ext.drew ?_ | refine Ext.drewN ?_ _ | refine Ext.trans ?_ (by assumption)))) n1 n2 n4 n3).mono ?_
  rintro e2 w2 ⟨hok, hbad, hb2⟩
  obtain rfl := hbad hfg
  clear hok hbad hfg
  go_wp2_with fail
  ·
    go_ret2
    exact NFPost.bad hcf.out (by omega) (by with_reducible (repeat first | assumption | exact Ext.refl _ | refine Ext.set ?_ (by omega) _ | refine Ext.alloc ?_ _ | refine Ext.drew ?_ | refine Ext.drewN ?_ _ | refine Ext.trans ?_ (by assumption)))
set_option maxRecDepth 100000 in
set_option maxHeartbeats 2000000 in
theorem newFlight_nil_ok (m : Met) (xs : List Leg) (f : Flight) (AF AS : Option Addr) (nF cF nS cS : Nat) (A : Option Addr) (nx c : Nat) (AR : Option Addr) (nR cR : Nat) (w : World) (hm : MetIn w m AF nF AS nS) (hx : Rows 3 Leg.enc w A nx xs) (hR : Rows 1 encInt w AR nR f.route) (hb : (Net.mk m xs).checkL none = 0) (hfg : f.good m.places (Net.mk m xs).L = true) :
    Calls Tryz.prog 64 #[m.val (.slice AF nF cF) (.slice AS nS cS), .pointer none, .slice A nx c, f.val (.slice AR nR cR)] w (NFPost ⟨⟨m, xs⟩, z_min, f⟩ none w) := by
  have hg := Net.check_good hb
  obtain ⟨hmg, ⟨p1, p8⟩, ⟨n1, n2, n3, n4⟩, hLu, hTu⟩ := Net.good_parts hg
  dsimp only at p1 p8 n1 n2
  have hcf := Lib.hid (Net.checkF_ok (N := Net.mk m xs) (l := none) hb hfg)
  have hg' := Lib.hid hg
  have hfg' := Lib.hid hfg
  obtain rfl := hR.len
  have hR' := Lib.hid hR
  clear hb hR
  simp only [Met.val, Flight.val]
  go_enter Tryz.func64, Tryz.ntmps64
  go_wp2_with fail
  refine (newNet_nil m xs AF AS nF cF nS cS A nx c _ (hm.ext (by with_reducible (repeat first | assumption | exact Ext.refl _ | refine Ext.set ?_ (by omega) _ | refine Ext.alloc ?_ _ | refine Ext.drew ?_ | refine Ext.drewN ?_ _ | refine Ext.trans ?_ (by assumption)))) (hx.ext (by with_reducible (repeat first | assumption | exact Ext.refl _ | refine Ext.set ?_ (by omega) _ | refine Ext.alloc ?_ _ | refine Ext.drew ?_ | refine Ext.drewN ?_ _ | refine Ext.trans ?_ (by assumption)))) hg).mono ?_
  clear hg
  rintro e1 w1 ⟨q, t, rfl, hN⟩
  have hb1 := hN.ext
  obtain ⟨hc1, hf1, hz1⟩ := hb1.cells
  have hs1 := hb1.size
  simp at hs1
  have hN0 := Lib.hid hN
  go_wp2_with fail
  refine (fly_102 _ m _ _ q _ t _ _ f AR f.route.length cR _ hN0.out hLu (hR'.out.ext (by with_reducible (repeat first | assumption | exact Ext.refl _ | refine Ext.set ?_ (by omega) _ | refine Ext.alloc ?_ _ | refine Ext.drew ?_ | refine Ext.drewN ?_ _ | refine Ext.trans ?_ (by assumption)))) n1 n2 n4 n3).mono ?_
  rintro e2 w2 ⟨hok, hbad, hb2⟩
  obtain ⟨p, v, rfl, hp, hF, hO⟩ := hok hfg
  clear hok hbad hfg
  have hpl := (Flight.plain_parts (Flight.good_parts hfg'.out).1).1
  obtain ⟨Av, nv, cv, rfl⟩ := hO.sliced
  ·
    obtain ⟨rfl, hRows⟩ := hO.ints (by rw [Flight.atList_length]; omega)
    rw [Flight.atList_length] at *
    have hNx := Lib.hid (hN.grow hb2)
    have hFF := Lib.hid hF
    have hRows := Lib.hid hRows
    have hx3 : Ext w w2 := (by with_reducible (repeat first | assumption | exact Ext.refl _ | refine Ext.set ?_ (by omega) _ | refine Ext.alloc ?_ _ | refine Ext.drew ?_ | refine Ext.drewN ?_ _ | refine Ext.trans ?_ (by assumption)))
    clear hF hO hN
    go_wp2_with fail
    go_ret2
    exact NFPost.ok hcf.out (r := ⟨q, t, AF, nF, cF, AS, nS, cS, AR, cR, Av, cv⟩) ⟨⟨_, hNx.out⟩, hm.ext hx3, hFF.out, hR'.out.ext hx3, hRows.out, hg'.out, hfg'.out⟩ hx3
set_option maxRecDepth 100000 in
set_option maxHeartbeats 2000000 in
theorem newFlight_min_net (m : Met) (xs : List Leg) (f : Flight) (AF AS : Option Addr) (nF cF nS cS : Nat) (A : Option Addr) (nx c : Nat) (AR : Option Addr) (nR cR : Nat) (w : World) (hm : MetIn w m AF nF AS nS) (hx : Rows 3 Leg.enc w A nx xs) (hR : Rows 1 encInt w AR nR f.route) (l : Minima) (bl : Nat) (hl : MinAt w bl l) (hf12 : m.fc12) (hs12 : m.si12) (z : Minima) (hb : ((Net.mk m xs).checkL (some l)) ≠ 0) :
    Calls Tryz.prog 64 #[m.val (.slice AF nF cF) (.slice AS nS cS), .pointer (some ⟨bl, 0, none⟩), .slice A nx c, f.val (.slice AR nR cR)] w (NFPost ⟨⟨m, xs⟩, z, f⟩ (some l) w) := by
  have hR := Lib.hid (Net.checkF_net (N := Net.mk m xs) (l := (some l)) (f := f) hb)
  have hb0 := Lib.hid (show (Net.mk m xs).checkL (some l) ≠ 0 from hb)
  have hbb : (((Net.mk m xs).checkL (some l)) == (0 : Int)) = false := beq_eq_false_iff_ne.2 hb
  have hbn : (((Net.mk m xs).checkL (some l)) != (0 : Int)) = true := by rw [bne_iff_ne]; exact hb
  simp only [Met.val, Flight.val]
  go_enter Tryz.func64, Tryz.ntmps64
  go_wp2_with (go_at_call 63; refine (newNet_min_bad m xs AF AS nF cF nS cS A nx c _ (hm.ext (by with_reducible (repeat first | assumption | exact Ext.refl _ | refine Ext.set ?_ (by omega) _ | refine Ext.alloc ?_ _ | refine Ext.drew ?_ | refine Ext.drewN ?_ _ | refine Ext.trans ?_ (by assumption)))) (hx.ext (by with_reducible (repeat first | assumption | exact Ext.refl _ | refine Ext.set ?_ (by omega) _ | refine Ext.alloc ?_ _ | refine Ext.drew ?_ | refine Ext.drewN ?_ _ | refine Ext.trans ?_ (by assumption)))) l bl (hl.ext (by with_reducible (repeat first | assumption | exact Ext.refl _ | refine Ext.set ?_ (by omega) _ | refine Ext.alloc ?_ _ | refine Ext.drew ?_ | refine Ext.drewN ?_ _ | refine Ext.trans ?_ (by assumption)))) hf12 hs12 hb).mono ?_; rintro e1 w1 ⟨rfl, hb1⟩)
  go_ret2
  exact NFPost.bad hR.out hb0.out (by with_reducible (repeat first | assumption | exact Ext.refl _ | refine Ext.set ?_ (by omega) _ | refine Ext.alloc ?_ _ | refine Ext.drew ?_ | refine Ext.drewN ?_ _ | refine Ext.trans ?_ (by assumption)))
set_option maxRecDepth 100000 in
set_option maxHeartbeats 2000000 in
theorem newFlight_min_bad (m : Met) (xs : List Leg) (f : Flight) (AF AS : Option Addr) (nF cF nS cS : Nat) (A : Option Addr) (nx c : Nat) (AR : Option Addr) (nR cR : Nat) (w : World) (hm : MetIn w m AF nF AS nS) (hx : Rows 3 Leg.enc w A nx xs) (hR : Rows 1 encInt w AR nR f.route) (l : Minima) (bl : Nat) (hl : MinAt w bl l) (hf12 : m.fc12) (hs12 : m.si12) (z : Minima) (hb : (Net.mk m xs).checkL (some l) = 0) (hfg : f.good m.places (Net.mk m xs).L = false) :
    Calls Tryz.prog 64 #[m.val (.slice AF nF cF) (.slice AS nS cS), .pointer (some ⟨bl, 0, none⟩), .slice A nx c, f.val (.slice AR nR cR)] w (NFPost ⟨⟨m, xs⟩, z, f⟩ (some l) w) := by
  obtain ⟨hg, hlg⟩ := Net.checkL_good hb
  obtain ⟨hmg, ⟨p1, p8⟩, ⟨n1, n2, n3, n4⟩, hLu, hTu⟩ := Net.good_parts hg
  dsimp only at p1 p8 n1 n2
  have hcf := Lib.hid (Net.checkF_bad (N := Net.mk m xs) (l := (some l)) hb hfg)
  have hg' := Lib.hid hg
  have hfg' := Lib.hid hfg
  obtain rfl := hR.len
  have hR' := Lib.hid hR
  clear hb hR
  simp only [Met.val, Flight.val]
  go_enter Tryz.func64, Tryz.ntmps64
  go_wp2_with fail
  refine (newNet_min m xs AF AS nF cF nS cS A nx c _ (hm.ext (by with_reducible (repeat first | assumption | exact Ext.refl _ | refine Ext.set ?_ (by omega) _ | refine Ext.alloc ?_ _ | refine Ext.drew ?_ | refine Ext.drewN ?_ _ | refine Ext.trans ?_ (by assumption)))) (hx.ext (by with_reducible (repeat first | assumption | exact Ext.refl _ | refine Ext.set ?_ (by omega) _ | refine Ext.alloc ?_ _ | refine Ext.drew ?_ | refine Ext.drewN ?_ _ | refine Ext.trans ?_ (by assumption)))) l bl (hl.ext (by with_reducible (repeat first | assumption | exact Ext.refl _ | refine Ext.set ?_ (by omega) _ | refine Ext.alloc ?_ _ | refine Ext.drew ?_ | refine Ext.drewN ?_ _ | refine Ext.trans ?_ (by assumption)))) hf12 hs12 hlg hg).mono ?_
  clear hg
  rintro e1 w1 ⟨q, t, rfl, hN⟩
  have hb1 := hN.ext
  obtain ⟨hc1, hf1, hz1⟩ := hb1.cells
  have hs1 := hb1.size
  simp at hs1
  have hN0 := Lib.hid hN
  go_wp2_with fail
  refine (fly_102 _ m _ _ q _ t _ _ f AR f.route.length cR _ hN0.out hLu (hR'.out.ext (by with_reducible (repeat first | assumption | exact Ext.refl _ | refine Ext.set ?_ (by omega) _ | refine Ext.alloc ?_ _ | refine Ext.drew ?_ | refine Ext.drewN ?_ _ | refine Ext.trans ?_ (by assumption)))) n1 n2 n4 n3).mono ?_
  rintro e2 w2 ⟨hok, hbad, hb2⟩
  obtain rfl := hbad hfg
  clear hok hbad hfg
  go_wp2_with fail
  ·
    go_ret2
    exact NFPost.bad hcf.out (by omega) (by with_reducible (repeat first | assumption | exact Ext.refl _ | refine Ext.set ?_ (by omega) _ | refine Ext.alloc ?_ _ | refine Ext.drew ?_ | refine Ext.drewN ?_ _ | refine Ext.trans ?_ (by assumption)))
set_option maxRecDepth 100000 in
set_option maxHeartbeats 2000000 in
theorem newFlight_min_ok (m : Met) (xs : List Leg) (f : Flight) (AF AS : Option Addr) (nF cF nS cS : Nat) (A : Option Addr) (nx c : Nat) (AR : Option Addr) (nR cR : Nat) (w : World) (hm : MetIn w m AF nF AS nS) (hx : Rows 3 Leg.enc w A nx xs) (hR : Rows 1 encInt w AR nR f.route) (l : Minima) (bl : Nat) (hl : MinAt w bl l) (hf12 : m.fc12) (hs12 : m.si12) (hb : (Net.mk m xs).checkL (some l) = 0) (hfg : f.good m.places (Net.mk m xs).L = true) :
    Calls Tryz.prog 64 #[m.val (.slice AF nF cF) (.slice AS nS cS), .pointer (some ⟨bl, 0, none⟩), .slice A nx c, f.val (.slice AR nR cR)] w (NFPost ⟨⟨m, xs⟩, l, f⟩ (some l) w) := by
  obtain ⟨hg, hlg⟩ := Net.checkL_good hb
  obtain ⟨hmg, ⟨p1, p8⟩, ⟨n1, n2, n3, n4⟩, hLu, hTu⟩ := Net.good_parts hg
  dsimp only at p1 p8 n1 n2
  have hcf := Lib.hid (Net.checkF_ok (N := Net.mk m xs) (l := (some l)) hb hfg)
  have hg' := Lib.hid hg
  have hfg' := Lib.hid hfg
  obtain rfl := hR.len
  have hR' := Lib.hid hR
  clear hb hR
  simp only [Met.val, Flight.val]
  go_enter Tryz.func64, Tryz.ntmps64
  go_wp2_with fail
  refine (newNet_min m xs AF AS nF cF nS cS A nx c _ (hm.ext (by with_reducible (repeat first | assumption | exact Ext.refl _ | refine Ext.set ?_ (by omega) _ | refine Ext.alloc ?_ _ | refine Ext.drew ?_ | refine Ext.drewN ?_ _ | refine Ext.trans ?_ (by assumption)))) (hx.ext (by with_reducible (repeat first | assumption | exact Ext.refl _ | refine Ext.set ?_ (by omega) _ | refine Ext.alloc ?_ _ | refine Ext.drew ?_ | refine Ext.drewN ?_ _ | refine Ext.trans ?_ (by assumption)))) l bl (hl.ext (by with_reducible (repeat first | assumption | exact Ext.refl _ | refine Ext.set ?_ (by omega) _ | refine Ext.alloc ?_ _ | refine Ext.drew ?_ | refine Ext.drewN ?_ _ | refine Ext.trans ?_ (by assumption)))) hf12 hs12 hlg hg).mono ?_
  clear hg
  rintro e1 w1 ⟨q, t, rfl, hN⟩
  have hb1 := hN.ext
  obtain ⟨hc1, hf1, hz1⟩ := hb1.cells
  have hs1 := hb1.size
  simp at hs1
  have hN0 := Lib.hid hN
  go_wp2_with fail
  refine (fly_102 _ m _ _ q _ t _ _ f AR f.route.length cR _ hN0.out hLu (hR'.out.ext (by with_reducible (repeat first | assumption | exact Ext.refl _ | refine Ext.set ?_ (by omega) _ | refine Ext.alloc ?_ _ | refine Ext.drew ?_ | refine Ext.drewN ?_ _ | refine Ext.trans ?_ (by assumption)))) n1 n2 n4 n3).mono ?_
  rintro e2 w2 ⟨hok, hbad, hb2⟩
  obtain ⟨p, v, rfl, hp, hF, hO⟩ := hok hfg
  clear hok hbad hfg
  have hpl := (Flight.plain_parts (Flight.good_parts hfg'.out).1).1
  obtain ⟨Av, nv, cv, rfl⟩ := hO.sliced
  ·
    obtain ⟨rfl, hRows⟩ := hO.ints (by rw [Flight.atList_length]; omega)
    rw [Flight.atList_length] at *
    have hNx := Lib.hid (hN.grow hb2)
    have hFF := Lib.hid hF
    have hRows := Lib.hid hRows
    have hx3 : Ext w w2 := (by with_reducible (repeat first | assumption | exact Ext.refl _ | refine Ext.set ?_ (by omega) _ | refine Ext.alloc ?_ _ | refine Ext.drew ?_ | refine Ext.drewN ?_ _ | refine Ext.trans ?_ (by assumption)))
    have k6 := hF.c6; have k7 := hF.c7; have k8 := hF.c8; have k9 := hF.c9; have k10 := hF.c10
    have kf := hF.free
    have kl := hF.lt
    have hnp : ¬ bl = p := by have := hl.lt; omega
    obtain ⟨hl0, hl1, hl2, hl3, hl4, hl5⟩ := hl.ext hx3
    have hO2 := Lib.hid (fun b off (h : Av = some ⟨b, off, none⟩) => (hO.lt (g := b) (by rw [h]; rfl)).1)
    clear hF hO hN
    go_wp2_with fail
    go_ret2
    exact NFPost.ok hcf.out (r := ⟨q, t, AF, nF, cF, AS, nS, cS, AR, cR, Av, cv⟩) ⟨⟨_, hN0.out.grow (by with_reducible (repeat first | assumption | exact Ext.refl _ | refine Ext.set ?_ (by omega) _ | refine Ext.alloc ?_ _ | refine Ext.drew ?_ | refine Ext.drewN ?_ _ | refine Ext.trans ?_ (by assumption)))⟩, hm.ext (by with_reducible (repeat first | assumption | exact Ext.refl _ | refine Ext.set ?_ (by omega) _ | refine Ext.alloc ?_ _ | refine Ext.drew ?_ | refine Ext.drewN ?_ _ | refine Ext.trans ?_ (by assumption))), hFF.out.minima l, hR'.out.ext (by with_reducible (repeat first | assumption | exact Ext.refl _ | refine Ext.set ?_ (by omega) _ | refine Ext.alloc ?_ _ | refine Ext.drew ?_ | refine Ext.drewN ?_ _ | refine Ext.trans ?_ (by assumption))), hRows.out.but ((((((ExtBut.refl p w2).set 6 _).set 7 _).set 8 _).set 9 _).set 10 _) (fun _ b off h => by have := hO2.out b off h; omega), hg'.out, hfg'.out⟩ (by with_reducible (repeat first | assumption | exact Ext.refl _ | refine Ext.set ?_ (by omega) _ | refine Ext.alloc ?_ _ | refine Ext.drew ?_ | refine Ext.drewN ?_ _ | refine Ext.trans ?_ (by assumption)))
theorem newFlight_64n (m : Met) (xs : List Leg) (f : Flight) (AF AS : Option Addr) (nF cF nS cS : Nat) (A : Option Addr) (nx c : Nat) (AR : Option Addr) (nR cR : Nat) (w : World) (hm : MetIn w m AF nF AS nS) (hx : Rows 3 Leg.enc w A nx xs) (hR : Rows 1 encInt w AR nR f.route) :
    Calls Tryz.prog 64 #[m.val (.slice AF nF cF) (.slice AS nS cS), .pointer none, .slice A nx c, f.val (.slice AR nR cR)] w (NFPost ⟨⟨m, xs⟩, z_min, f⟩ none w) := by
  by_cases hb : (Net.mk m xs).checkL none = 0
  · rcases Bool.eq_false_or_eq_true (f.good m.places (Net.mk m xs).L) with hf | hf
    · exact newFlight_nil_ok m xs f AF AS nF cF nS cS A nx c AR nR cR w hm hx hR hb hf
    · exact newFlight_nil_bad m xs f AF AS nF cF nS cS A nx c AR nR cR w hm hx hR z_min hb hf
  · exact newFlight_nil_net m xs f AF AS nF cF nS cS A nx c AR nR cR w hm hx hR z_min hb
theorem newFlight_64 (m : Met) (xs : List Leg) (f : Flight) (AF AS : Option Addr) (nF cF nS cS : Nat) (A : Option Addr) (nx c : Nat) (AR : Option Addr) (nR cR : Nat) (w : World) (hm : MetIn w m AF nF AS nS) (hx : Rows 3 Leg.enc w A nx xs) (hR : Rows 1 encInt w AR nR f.route) (l : Minima) (bl : Nat) (hl : MinAt w bl l) (hf12 : m.fc12) (hs12 : m.si12) :
    Calls Tryz.prog 64 #[m.val (.slice AF nF cF) (.slice AS nS cS), .pointer (some ⟨bl, 0, none⟩), .slice A nx c, f.val (.slice AR nR cR)] w (NFPost ⟨⟨m, xs⟩, l, f⟩ (some l) w) := by
  by_cases hb : (Net.mk m xs).checkL (some l) = 0
  · rcases Bool.eq_false_or_eq_true (f.good m.places (Net.mk m xs).L) with hf | hf
    · exact newFlight_min_ok m xs f AF AS nF cF nS cS A nx c AR nR cR w hm hx hR l bl hl hf12 hs12 hb hf
    · exact newFlight_min_bad m xs f AF AS nF cF nS cS A nx c AR nR cR w hm hx hR l bl hl hf12 hs12 l hb hf
  · exact newFlight_min_net m xs f AF AS nF cF nS cS A nx c AR nR cR w hm hx hR l bl hl hf12 hs12 l hb
end Go.Proofs.YtmmimbcfgobnaaaGreat
