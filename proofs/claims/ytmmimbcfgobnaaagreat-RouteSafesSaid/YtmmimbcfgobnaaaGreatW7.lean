/- weather.may. -/
import Derived.Test.YtmmimbcfgobnaaaGreatW6
import Derived.BigRegion
set_option linter.unusedVariables false
set_option linter.unusedSimpArgs false
namespace Go.Proofs.YtmmimbcfgobnaaaGreat
open Go.RowKit
set_option linter.unusedVariables false
set_option linter.unusedSimpArgs false
attribute [local go_sem] stored_match isSome_setCell

def MayPost (m : Met) (place tick : Int) (w : World) (e : Ending) (w' : World) : Prop :=
  ∃ A c, e = .returned (.tuple #[(m.sky place tick).val, .slice A (m.strange place tick).length c]) ∧ Ext w w' ∧ Rows 1 encNs w' A (m.strange place tick).length (isort natLt (m.strange place tick))

theorem SkyAt.lights {w : World} {p : Nat} {s : Sky} (h : SkyAt w p s) (i t : Bool) : SkyAt ((w.setCell ⟨p, 6, none⟩ (.bool i)).setCell ⟨p, 7, none⟩ (.bool t)) p { s with ice := i, storm := t } := by
  have hs : ∀ o u, w.cell? ⟨p, o, none⟩ = some u → o ≠ 6 → o ≠ 7 → ((w.setCell ⟨p, 6, none⟩ (.bool i)).setCell ⟨p, 7, none⟩ (.bool t)).cell? ⟨p, o, none⟩ = some u := fun o u hu h6 h7 => by
    rw [cell_set_ne _ _ (Or.inr h7), cell_set_ne _ _ (Or.inr h6)]; exact hu
  refine ⟨by have := h.lt; simpa [World.setCell] using this, hs _ _ h.wlo (by omega) (by omega), hs _ _ h.whi (by omega) (by omega), hs _ _ h.slo (by omega) (by omega), hs _ _ h.shi (by omega) (by omega), hs _ _ h.clo (by omega) (by omega), hs _ _ h.chi (by omega) (by omega), ?_, ?_, fun o => ?_⟩
  · rw [cell_set_ne _ _ (Or.inr (by omega)), cell_set_eq _ _ (by rw [h.ice]; rfl)]
  · rw [cell_set_eq _ _ (by rw [isSome_setCell, h.storm]; rfl)]
  · exact (((ExtBut.refl p w).set 6 (.bool i)).set 7 (.bool t)).frozen h.lt o |>.trans (h.free o)
theorem SkyAt.put {w : World} {p : Nat} {t : Sky} (h : SkyAt w p t) (s : Sky) : SkyAt ((((((((w.setCell ⟨p, 0, none⟩ (.int .i64 s.w.lo)).setCell ⟨p, 1, none⟩ (.int .i64 s.w.hi)).setCell ⟨p, 2, none⟩ (.int .i64 s.s.lo)).setCell ⟨p, 3, none⟩ (.int .i64 s.s.hi)).setCell ⟨p, 4, none⟩ (.int .i64 s.c.lo)).setCell ⟨p, 5, none⟩ (.int .i64 s.c.hi)).setCell ⟨p, 6, none⟩ (.bool s.ice)).setCell ⟨p, 7, none⟩ (.bool s.storm)) p s := by
  refine ⟨by have := h.lt; simpa [World.setCell] using this, ?_, ?_, ?_, ?_, ?_, ?_, ?_, ?_, fun o => ?_⟩
  · rw [cell_set_ne _ _ (Or.inr (by omega)), cell_set_ne _ _ (Or.inr (by omega)), cell_set_ne _ _ (Or.inr (by omega)), cell_set_ne _ _ (Or.inr (by omega)), cell_set_ne _ _ (Or.inr (by omega)), cell_set_ne _ _ (Or.inr (by omega)), cell_set_ne _ _ (Or.inr (by omega)), cell_set_eq _ _ (by rw [h.wlo]; rfl)]
  · rw [cell_set_ne _ _ (Or.inr (by omega)), cell_set_ne _ _ (Or.inr (by omega)), cell_set_ne _ _ (Or.inr (by omega)), cell_set_ne _ _ (Or.inr (by omega)), cell_set_ne _ _ (Or.inr (by omega)), cell_set_ne _ _ (Or.inr (by omega)), cell_set_eq _ _ (by simp only [isSome_setCell]; rw [h.whi]; rfl)]
  · rw [cell_set_ne _ _ (Or.inr (by omega)), cell_set_ne _ _ (Or.inr (by omega)), cell_set_ne _ _ (Or.inr (by omega)), cell_set_ne _ _ (Or.inr (by omega)), cell_set_ne _ _ (Or.inr (by omega)), cell_set_eq _ _ (by simp only [isSome_setCell]; rw [h.slo]; rfl)]
  · rw [cell_set_ne _ _ (Or.inr (by omega)), cell_set_ne _ _ (Or.inr (by omega)), cell_set_ne _ _ (Or.inr (by omega)), cell_set_ne _ _ (Or.inr (by omega)), cell_set_eq _ _ (by simp only [isSome_setCell]; rw [h.shi]; rfl)]
  · rw [cell_set_ne _ _ (Or.inr (by omega)), cell_set_ne _ _ (Or.inr (by omega)), cell_set_ne _ _ (Or.inr (by omega)), cell_set_eq _ _ (by simp only [isSome_setCell]; rw [h.clo]; rfl)]
  · rw [cell_set_ne _ _ (Or.inr (by omega)), cell_set_ne _ _ (Or.inr (by omega)), cell_set_eq _ _ (by simp only [isSome_setCell]; rw [h.chi]; rfl)]
  · rw [cell_set_ne _ _ (Or.inr (by omega)), cell_set_eq _ _ (by simp only [isSome_setCell]; rw [h.ice]; rfl)]
  · rw [cell_set_eq _ _ (by simp only [isSome_setCell]; rw [h.storm]; rfl)]
  · exact (((((((((ExtBut.refl p w).set 0 (.int .i64 s.w.lo)).set 1 (.int .i64 s.w.hi)).set 2 (.int .i64 s.s.lo)).set 3 (.int .i64 s.s.hi)).set 4 (.int .i64 s.c.lo)).set 5 (.int .i64 s.c.hi)).set 6 (.bool s.ice)).set 7 (.bool s.storm)).frozen h.lt o |>.trans (h.free o)
theorem post_named {Q : Program} {fn : Func} {R : Ending → World → Prop} {x : Exit} {a : Act} {w : World} (P : World → Prop) (hP : P w) (h : ∀ W, P W → bodyPost Q fn R x a W) : bodyPost Q fn R x a w := h w hP
theorem Met.fcStep_eq {m : Met} {i : Nat} {x : Fc} (hx : m.fc i = x) (sk : Sky) (str : List Nat) : m.fcStep (sk, str) i = ({ sk.cut x.sky with ice := sk.ice && x.sky.ice, storm := sk.storm && x.sky.storm }, if sk.cuts x.sky = true then str ++ [i] else str) := by subst hx; rfl
theorem SkyAt.grown {w w' : World} {p : Nat} {s : Sky} {r : Option Nat} (h : SkyAt w p s) (k : w.grownBy w' r) (hp : ¬ (some p = r)) : SkyAt w' p s := by
  obtain ⟨c, f, z⟩ := grown_cells k
  exact ⟨z _ h.lt, (c _ _ h.lt hp).trans h.wlo, (c _ _ h.lt hp).trans h.whi, (c _ _ h.lt hp).trans h.slo, (c _ _ h.lt hp).trans h.shi, (c _ _ h.lt hp).trans h.clo, (c _ _ h.lt hp).trans h.chi, (c _ _ h.lt hp).trans h.ice, (c _ _ h.lt hp).trans h.storm, fun o => (f _ o h.lt hp).trans (h.free o)⟩

set_option maxRecDepth 100000 in
set_option maxHeartbeats 8000000 in
theorem may_76 (m : Met) (place tick : Int) (AF AS : Option Addr) (nF cF nS cS : Nat) (w : World) (hm : MetIn w m AF nF AS nS) (hg : m.good = true) (ht : 0 ≤ tick ∧ tick ≤ 2000) (hl : m.fcs.length ≤ 12) (hl2 : m.sights.length ≤ 12) :
    Calls Tryz.prog 76 #[m.val (.slice AF nF cF) (.slice AS nS cS), .int .i64 place, .int .i64 tick] w (MayPost m place tick w) := by
  obtain ⟨hF, hS⟩ := hm
  obtain rfl := hF.len
  obtain rfl := hS.len
  obtain ⟨g1, g2, g3, g4, g5, g6, g7⟩ := Met.good_parts hg
  clear hg
  simp only [Met.val]
  go_enter Tryz.func76, Tryz.ntmps76
  go_wp2
  refine name_world (R := fun W => Code.wp _ _ _ _ W) fun W0 hx0 hc0 hf0 hz0 => ?_
  simp at hz0
  have hF0 := hF.ext ((by with_reducible (repeat first | assumption | exact Ext.refl _ | refine Ext.set ?_ (by omega) _ | refine Ext.alloc ?_ _ | refine Ext.drew ?_ | refine Ext.drewN ?_ _ | refine Ext.trans ?_ (by assumption))) : Ext w W0)
  have hS0 := hS.ext ((by with_reducible (repeat first | assumption | exact Ext.refl _ | refine Ext.set ?_ (by omega) _ | refine Ext.alloc ?_ _ | refine Ext.drew ?_ | refine Ext.drewN ?_ _ | refine Ext.trans ?_ (by assumption))) : Ext w W0)
  go_loopw [8, 27] (fun v i wr => ∃ k : Nat, k ≤ m.fcs.length ∧ i = .int .i64 k ∧ Owns 3 1 encNs wr W0.heap.size v (m.covers0 place tick k) ∧ Ext W0 wr) (fun _ i _ => m.fcs.length - (intOf i).toNat)
  case atStart => exact ⟨0, Nat.zero_le _, rfl, Owns.nil _ _ _ _ _, Ext.refl _⟩
  case round =>
    obtain ⟨k, hk, rfl, hown, he⟩ := hrel
    by_cases hlt : k < m.fcs.length
    ·
      --<1
      obtain ⟨x, hx⟩ : ∃ x, m.fcs[k]? = some x := ⟨_, List.getElem?_eq_getElem hlt⟩
      obtain ⟨b0, off, rfl, hb0, q0, q1, q2, q3, q4, q5, q6, q7, q8, q9, q10, q11⟩ := (hF0.ext he).fc hlt hx
      obtain ⟨ok1, ok2, ok3, ok4⟩ := Fc.ok_parts (g6 x (List.mem_of_getElem? hx))
      have hcov := Lib.hid (Met.coversOf_eq (place := place) (tick := tick) hx)
      have hsucc := Lib.hid (m.covers0_succ place tick k)
      have hcl := m.covers0_length place tick k
      have hes := he.size
      obtain ⟨hcr, hfr, hzr⟩ := he.cells
      clear g6 g7 hx ok3 ok4
      go_wp2_with (first | (go_at_call 105; refine (within_105 _ _ _ _).mono ?_; rintro e1 w1 ⟨rfl, rfl⟩) | (at_builtin; refine append_one e_int encNs (fun _ => rfl) encNs_one rfl _ _ rfl W0.heap.size _ (m.covers0 place tick k) rfl k #[.int .i64 k] rfl _ rfl (by simp) (hown.ext (by with_reducible (repeat first | assumption | exact Ext.refl _ | refine Ext.set ?_ (by omega) _ | refine Ext.alloc ?_ _ | refine Ext.drew ?_ | refine Ext.drewN ?_ _ | refine Ext.trans ?_ (by assumption)))) (by simp; omega) (by omega) ?_; intro v' w1 hown1 hgrow))
      · go_roundw
        case rel => exact ⟨k + 1, by omega, by go_num, by rw [hsucc.out, if_pos (by rw [hcov.out]; simp [*])]; exact hown1, grown_ext W0 (by with_reducible (repeat first | assumption | exact Ext.refl _ | refine Ext.set ?_ (by omega) _ | refine Ext.alloc ?_ _ | refine Ext.drew ?_ | refine Ext.drewN ?_ _ | refine Ext.trans ?_ (by assumption))) (Nat.le_refl _) (fun g hg => (hown.lt hg).1) hgrow⟩
        case measure => simp [intOf]; omega
      all_goals
        go_roundw
        case rel => exact ⟨k + 1, by omega, by go_num, by rw [hsucc.out, if_neg (by rw [hcov.out]; simp [*]), List.append_nil]; exact hown.ext (by with_reducible (repeat first | assumption | exact Ext.refl _ | refine Ext.set ?_ (by omega) _ | refine Ext.alloc ?_ _ | refine Ext.drew ?_ | refine Ext.drewN ?_ _ | refine Ext.trans ?_ (by assumption))), (by with_reducible (repeat first | assumption | exact Ext.refl _ | refine Ext.set ?_ (by omega) _ | refine Ext.alloc ?_ _ | refine Ext.drew ?_ | refine Ext.drewN ?_ _ | refine Ext.trans ?_ (by assumption)))⟩
        case measure => simp [intOf]; omega
      -->1
    · obtain rfl : k = m.fcs.length := by omega
      have hLn := m.covers0_length place tick m.fcs.length
      have hLm : ∀ i ∈ m.covers0 place tick m.fcs.length, i < m.fcs.length := fun i hi => Met.covers0_mem hi
      have hcv := Lib.hid (show isort m.fcLt (m.covers0 place tick m.fcs.length) = m.covers place tick from rfl)
      have hcl := Lib.hid (isort_length m.fcLt (m.covers0 place tick m.fcs.length))
      have hcm := Lib.hid (fun i => mem_isort m.fcLt (m.covers0 place tick m.fcs.length) i)
      generalize m.covers0 place tick m.fcs.length = L0 at *
      obtain ⟨A2, c2, rfl, _⟩ := hown.rows (fun _ => rfl) (by omega)
      have hLm := Lib.hid hLm
      obtain ⟨hcr, hfr, hzr⟩ := he.cells
      have hbm : W0.cell? ⟨w.heap.size, 12, none⟩ = some (.slice AF m.fcs.length cF) := by go_simp
      go_wp2_with (go_at_call 106; refine (sortO_fc m AF cF w.heap.size W0.heap.size (.slice A2 L0.length c2) L0 W0 _ hown (Nat.le_refl _) hLm.out (by omega) he hF0 hbm (by go_simp)).mono ?_; rintro e1 w1 ⟨rfl, hO1, hx1⟩; obtain ⟨hc1, hf1, hz1⟩ := hx1.cells; clear hcr hfr hzr)
      have hsky : SkyAt w1 (w.heap.size + 1) m.any := ⟨by go_simp, by go_simp, by go_simp, by go_simp, by go_simp, by go_simp, by go_simp, by go_simp, by go_simp, fun o => by go_simp⟩
      have hlen1 := hcl.out
      have hF1 := hF0.ext hx1
      have hbm1 := (hx1.cells.1 w.heap.size 12 (by omega)).trans hbm
      have hAF : ∀ b off, AF = some ⟨b, off, none⟩ → 0 < m.fcs.length → b < w.heap.size := fun b off h hn => hF.block hn h
      have hA2 : ∀ b off, A2 = some ⟨b, off, none⟩ → w.heap.size + 2 ≤ b := fun b off h => by
        have := (hO1.lt (g := b) (by rw [h]; rfl)).1
        omega
      have hmem1 := hcm.out
      rw [hcv.out] at hO1 hlen1 hmem1
      have hmem1 := fun i hi => hLm.out i ((hmem1 i).1 hi)
      have HE := Lib.hid (show m.byFcs place tick = (m.covers place tick).foldl m.fcStep (m.any, []) from rfl)
      generalize m.covers place tick = L1 at *
      have hR1 : Rows 1 encNs w1 A2 L0.length L1 := by
        obtain ⟨A', c', e', hR⟩ := hO1.rows (fun _ => rfl) (by omega)
        simp only [Value.slice.injEq] at e'
        obtain ⟨rfl, _, _⟩ := e'
        rw [hlen1] at hR
        exact hR
      have hLn2 : L0.length ≤ 12 := by omega
      clear hLm hcm hcl hcv hown he hbm
      have hsz1 := hx1.size
      have hlen1 := Lib.hid hlen1
      have hmem1 := Lib.hid hmem1
      go_loopw [7, 55] (fun v i wr => ∃ k : Nat, k ≤ L0.length ∧ i = .int .i64 k ∧ SkyAt wr (w.heap.size + 1) ((L1.take k).foldl m.fcStep (m.any, [])).1 ∧ Owns 3 1 encNs wr w1.heap.size v ((L1.take k).foldl m.fcStep (m.any, [])).2 ∧ ((L1.take k).foldl m.fcStep (m.any, [])).2.length ≤ k ∧ ExtBut (w.heap.size + 1) w1 wr) (fun _ i _ => L0.length - (intOf i).toNat)
      case atStart => exact ⟨0, Nat.zero_le _, rfl, hsky, Owns.nil _ _ _ _ _, Nat.le_refl _, ExtBut.refl _ _⟩
      case round =>
        clear hsky
        obtain ⟨k, hk, rfl, hsk, hown, hsl, he⟩ := hrel
        by_cases hlt : k < L0.length
        ·
          --<2
          obtain ⟨i, hi⟩ : ∃ i, L1[k]? = some i := ⟨_, List.getElem?_eq_getElem (by rw [hlen1.out]; exact hlt)⟩
          have hil := hmem1.out i (List.mem_of_getElem? hi)
          obtain ⟨x, hx⟩ : ∃ x, m.fcs[i]? = some x := ⟨_, List.getElem?_eq_getElem hil⟩
          have hfc := Lib.hid (Met.fc_eq hx)
          have hstep := Lib.hid (foldl_take_succ m.fcStep (m.any, []) i L1 k hi)
          generalize (L1.take k).foldl m.fcStep (m.any, []) = st at *
          obtain ⟨sk, str⟩ := st
          dsimp only at hsk hown hsl
          obtain ⟨b2, off2, rfl, hb2, hi2⟩ := (hR1.but he (fun _ b off h => by have := hA2 b off h; omega)).nat hlt hi
          have hA2 := hA2 b2 off2 rfl
          obtain ⟨b0, off, rfl, hb0, q0, q1, q2, q3, q4, q5, q6, q7, q8, q9, q10, q11⟩ := (hF1.but he (fun hn b off h => by have := hAF b off h hn; omega)).fc hil hx
          have hAF := hAF b0 off rfl (by omega)
          have hbmr := (he.cells.1 w.heap.size 12 (by omega) (by omega)).trans hbm1
          have hes := he.size
          clear hx hi hc1 hf1 hz1 hc0 hf0
          go_wp2_with fail
          have hsk1 := hsk.ext ((Ext.refl wr).alloc (Obj.cells #[Value.int IntKind.i64 x.sky.w.lo, Value.int IntKind.i64 x.sky.w.hi, Value.int IntKind.i64 x.sky.s.lo, Value.int IntKind.i64 x.sky.s.hi, Value.int IntKind.i64 x.sky.c.lo, Value.int IntKind.i64 x.sky.c.hi, Value.bool x.sky.ice, Value.bool x.sky.storm] 25))
          refine (cut_108 (w.heap.size + 1) sk x.sky _ hsk1).mono ?_
          rintro e1 w2 ⟨rfl, hsk2, hbt2⟩
          obtain ⟨hcb, hfb, hzb⟩ := hbt2.cells
          have hb6 : w2.cell? ⟨wr.heap.size, 6, none⟩ = some (.bool x.sky.ice) := (hcb _ _ (by simp) (by omega)).trans (by go_simp)
          have hb7 : w2.cell? ⟨wr.heap.size, 7, none⟩ = some (.bool x.sky.storm) := (hcb _ _ (by simp) (by omega)).trans (by go_simp)
          have hz2 : wr.heap.size < w2.heap.size := hzb _ (by simp)
          have hown2 : Owns 3 1 encNs w2 w1.heap.size u7 str := (hown.ext ((Ext.refl wr).alloc _)).but hbt2 (by omega)
          have hbt := Lib.hid (he.trans ((((Ext.refl wr).alloc _).but _).trans hbt2))
          have hbt2 := Lib.hid hbt2
          have hcut : (sk.cut x.sky).ice = sk.ice := rfl
          have hcut' : (sk.cut x.sky).storm = sk.storm := rfl
          clear hcb hfb hzb q0 q1 q2 q3 q4 q5 q6 q7 q8 q9 q10 q11 hi2 hbmr hsk hsk1
          have hsk2' := Lib.hid hsk2
          obtain ⟨p0, -, -, -, -, -, -, p1, p2, pf⟩ := hsk2
          rw [hcut] at p1
          rw [hcut'] at p2
          clear hcut hcut'
          have hst := Lib.hid (hstep.out.trans (Met.fcStep_eq hfc.out sk str))
          have hlt1 : w.heap.size + 1 < w1.heap.size := by omega
          rcases Bool.eq_false_or_eq_true (sk.cuts x.sky) with hcu | hcu
          · have hnr : ∀ g, u7.ownBlock = some g → w1.heap.size ≤ g ∧ g < wr.heap.size := fun g hg => hown.lt hg
            have hn1 : ¬ (some (w.heap.size + 1) = u7.ownBlock) := fun h => by have := hnr _ h.symm; omega
            have hn2 : ¬ (some wr.heap.size = u7.ownBlock) := fun h => by have := hnr _ h.symm; omega
            have hCU := Lib.hid hcu
            have hnr := Lib.hid hnr
            have hO2 := Lib.hid hown2
            clear hown2 hown
            go_wp2_with (at_builtin; refine append_one e_int encNs (fun _ => rfl) encNs_one rfl _ _ rfl w1.heap.size u7 str rfl i #[.int .i64 i] rfl _ rfl (by simp) hO2.out (by omega) (by omega) ?_; intro v' w3 hown3 hgrow)
            have hO3 := Lib.hid hown3
            have hsk3' := Lib.hid ((hsk2'.out.ext ((Ext.refl w2).alloc _)).grown hgrow hn1)
            obtain ⟨hcg, hfg, hzg⟩ := grown_cells hgrow
            have hbt3 := Lib.hid (grown_but hgrow (hbt.out.alloc _) (fun g hg => (hnr.out g hg).1) hn1 (by simp; omega))
            have p1 := (hcg _ _ (by simp; omega) hn1).trans ((((Ext.refl w2).alloc _).cells.1 _ _ p0).trans p1)
            have p2 := (hcg _ _ (by simp; omega) hn1).trans ((((Ext.refl w2).alloc _).cells.1 _ _ p0).trans p2)
            have hb6 := (hcg _ _ (by simp; omega) hn2).trans ((((Ext.refl w2).alloc _).cells.1 _ _ hz2).trans hb6)
            have hb7 := (hcg _ _ (by simp; omega) hn2).trans ((((Ext.refl w2).alloc _).cells.1 _ _ hz2).trans hb7)
            have pf := hsk3'.out.free
            have p0 := hsk3'.out.lt
            clear hcg hfg hzg hgrow hown3
            cases hi1 : sk.ice <;> cases hi3 : sk.storm
            all_goals
              rw [hi1] at p1
              rw [hi3] at p2
              have hi1 := Lib.hid hi1
              have hi3 := Lib.hid hi3
              go_wp2_with fail
              go_region
              all_goals go_wp2
            all_goals
              go_roundw
              case rel => exact ⟨k + 1, by omega, by go_num, by rw [hst.out, hi1.out, hi3.out]; exact (hsk3'.out.lights _ _).ext (Ext.refl _).drew, by rw [hst.out, if_pos hCU.out]; exact hO3.out.but ((((ExtBut.refl _ w3).set 6 _).set 7 _).drew) (by omega), by rw [hst.out, if_pos hCU.out]; simp; omega, (((hbt3.out).set 6 _).set 7 _).drew⟩
              case measure => simp [intOf]; omega
          · have hCU := Lib.hid hcu
            have hO2 := Lib.hid hown2
            clear hown2
            cases hi1 : sk.ice <;> cases hi3 : sk.storm
            all_goals
              rw [hi1] at p1
              rw [hi3] at p2
              have hi1 := Lib.hid hi1
              have hi3 := Lib.hid hi3
              go_wp2_with fail
              go_region
              all_goals go_wp2
            all_goals
              go_roundw
              case rel => exact ⟨k + 1, by omega, by go_num, by rw [hst.out, hi1.out, hi3.out]; exact (hsk2'.out.lights _ _).ext (Ext.refl _).drew, by rw [hst.out, if_neg (by rw [hCU.out]; simp)]; exact hO2.out.but ((((ExtBut.refl _ w2).set 6 _).set 7 _).drew) (by omega), by rw [hst.out, if_neg (by rw [hCU.out]; simp)]; simp; omega, (((hbt.out).set 6 _).set 7 _).drew⟩
              case measure => simp [intOf]; omega
          -->2
        · obtain rfl : k = L0.length := by omega
          rw [List.take_of_length_le (by rw [hlen1.out]; omega), ← HE.out] at hsk hown hsl
          have hS1 := hS0.ext hx1
          have hAS : ∀ b off, AS = some ⟨b, off, none⟩ → 0 < m.sights.length → b < w.heap.size := fun b off h hn => hS.block hn h
          have hSr : Rows 7 Sight.enc wr AS m.sights.length m.sights := hS1.but he (fun hn b off h => by have := hAS b off h hn; omega)
          have hm12 : wr.cell? ⟨w.heap.size, 12, none⟩ = some (.slice AF m.fcs.length cF) := (he.cells.1 _ _ (by omega) (by omega)).trans ((hx1.cells.1 _ _ (by omega)).trans (by go_simp))
          have hm13 : wr.cell? ⟨w.heap.size, 13, none⟩ = some (.slice AS m.sights.length cS) := (he.cells.1 _ _ (by omega) (by omega)).trans ((hx1.cells.1 _ _ (by omega)).trans (by go_simp))
          have hm9 : wr.cell? ⟨w.heap.size, 9, none⟩ = some (.int .i64 m.wind) := (he.cells.1 _ _ (by omega) (by omega)).trans ((hx1.cells.1 _ _ (by omega)).trans (by go_simp))
          have hm10 : wr.cell? ⟨w.heap.size, 10, none⟩ = some (.int .i64 m.see) := (he.cells.1 _ _ (by omega) (by omega)).trans ((hx1.cells.1 _ _ (by omega)).trans (by go_simp))
          have hm11 : wr.cell? ⟨w.heap.size, 11, none⟩ = some (.int .i64 m.ceil) := (he.cells.1 _ _ (by omega) (by omega)).trans ((hx1.cells.1 _ _ (by omega)).trans (by go_simp))
          have hsz := he.size
          have hlw : w.heap.size + 2 ≤ wr.heap.size := by omega
          have hEw : Ext w wr := ExtBut.ext ((by with_reducible (repeat first | assumption | exact Ext.refl _ | refine Ext.set ?_ (by omega) _ | refine Ext.alloc ?_ _ | refine Ext.drew ?_ | refine Ext.drewN ?_ _ | refine Ext.trans ?_ (by assumption))) : Ext w w1) he (by omega)
          have hw1 : w.heap.size + 2 ≤ w1.heap.size := by omega
          clear hc1 hf1 hz1 hc0 hf0 hz0 hF0 hS0 hF1 hS1 hR1 hO1 hbm1 he hx1 hlen1 hmem1 HE hA2 hAF
          have hstr := Lib.hid (show m.strange place tick = (m.byFcs place tick).2 from rfl)
          generalize (m.byFcs place tick).2 = str at *
          obtain ⟨wq, rfl⟩ : ∃ x : World, x = wr := ⟨_, rfl⟩
          go_wp2_with fail
          refine name_world (R := fun W => Code.wp _ _ _ _ W) fun W2 hx2 hc2 hf2 hz2 => ?_
          have hS2 := hSr.ext hx2
          go_loopw [9, 93] (fun v i wr => ∃ k : Nat, k ≤ m.sights.length ∧ i = .int .i64 k ∧ Owns 3 1 encNs wr W2.heap.size v (m.seen0 place tick k) ∧ Ext W2 wr) (fun _ i _ => m.sights.length - (intOf i).toNat)
          case atStart => exact ⟨0, Nat.zero_le _, rfl, Owns.nil _ _ _ _ _, Ext.refl _⟩
          case round =>
            obtain ⟨k, hk, rfl, hown3, he⟩ := hrel
            by_cases hlt : k < m.sights.length
            ·
              --<3
              obtain ⟨x, hx⟩ : ∃ x, m.sights[k]? = some x := ⟨_, List.getElem?_eq_getElem hlt⟩
              obtain ⟨b0, off, rfl, hb0, q0, q1, q2, q3, q4, q5, q6⟩ := (hS2.ext he).sight hlt hx
              have hcov := Lib.hid (Met.seenOf_eq (place := place) (tick := tick) hx)
              have hsucc := Lib.hid (m.seen0_succ place tick k)
              have hcl := m.seen0_length place tick k
              have hes := he.size
              clear g6 g7 hx hc2 hf2 hz2 hm9 hm10 hm11 hm12 hm13
              go_wp2_with (at_builtin; refine append_one e_int encNs (fun _ => rfl) encNs_one rfl _ _ rfl W2.heap.size u9 (m.seen0 place tick k) rfl k #[.int .i64 k] rfl _ rfl (by simp) (hown3.ext (by with_reducible (repeat first | assumption | exact Ext.refl _ | refine Ext.set ?_ (by omega) _ | refine Ext.alloc ?_ _ | refine Ext.drew ?_ | refine Ext.drewN ?_ _ | refine Ext.trans ?_ (by assumption)))) (by simp; omega) (by omega) ?_; intro v' w1 hown1 hgrow)
              · go_roundw
                case rel => exact ⟨k + 1, by omega, by go_num, by rw [hsucc.out, if_pos (by rw [hcov.out]; simp [*])]; exact hown1, grown_ext W2 (by with_reducible (repeat first | assumption | exact Ext.refl _ | refine Ext.set ?_ (by omega) _ | refine Ext.alloc ?_ _ | refine Ext.drew ?_ | refine Ext.drewN ?_ _ | refine Ext.trans ?_ (by assumption))) (Nat.le_refl _) (fun g hg => (hown3.lt hg).1) hgrow⟩
                case measure => simp [intOf]; omega
              all_goals
                go_roundw
                case rel => exact ⟨k + 1, by omega, by go_num, by rw [hsucc.out, if_neg (by rw [hcov.out]; simp [*]), List.append_nil]; exact hown3.ext (by with_reducible (repeat first | assumption | exact Ext.refl _ | refine Ext.set ?_ (by omega) _ | refine Ext.alloc ?_ _ | refine Ext.drew ?_ | refine Ext.drewN ?_ _ | refine Ext.trans ?_ (by assumption))), (by with_reducible (repeat first | assumption | exact Ext.refl _ | refine Ext.set ?_ (by omega) _ | refine Ext.alloc ?_ _ | refine Ext.drew ?_ | refine Ext.drewN ?_ _ | refine Ext.trans ?_ (by assumption)))⟩
                case measure => simp [intOf]; omega
              -->3
            · obtain rfl : k = m.sights.length := by omega
              have hLn3 := m.seen0_length place tick m.sights.length
              have hLm3 : ∀ i ∈ m.seen0 place tick m.sights.length, i < m.sights.length := fun i hi => Met.seen0_mem hi
              have hcv3 := Lib.hid (show isort m.siLt (m.seen0 place tick m.sights.length) = m.seen place tick from rfl)
              have hcl3 := Lib.hid (isort_length m.siLt (m.seen0 place tick m.sights.length))
              have hcm3 := Lib.hid (fun i => mem_isort m.siLt (m.seen0 place tick m.sights.length) i)
              have hLs3 : ∀ i ∈ m.seen0 place tick m.sights.length, m.seenOf place tick i = true := fun i hi => Met.seen0_of hi
              generalize m.seen0 place tick m.sights.length = L3 at *
              have hLs3 := Lib.hid hLs3
              obtain ⟨A4, c4, rfl, _⟩ := hown3.rows (fun _ => rfl) (by omega)
              have hLm3 := Lib.hid hLm3
              have hbm2 : W2.cell? ⟨w.heap.size, 13, none⟩ = some (.slice AS m.sights.length cS) := (hx2.cells.1 _ _ (by omega)).trans hm13
              have hz2' := hx2.size
              go_wp2_with (go_at_call 106; refine (sortO_si m AS cS w.heap.size W2.heap.size (.slice A4 L3.length c4) L3 W2 _ hown3 (Nat.le_refl _) hLm3.out (by omega) he hS2 hbm2 (by omega)).mono ?_; rintro e1 w4 ⟨rfl, hO4, hx4⟩)
              have hx5 : Ext wq w4 := hx2.trans hx4
              have hlen4 := hcl3.out
              have hmem4 := hcm3.out
              rw [hcv3.out] at hO4 hlen4 hmem4
              have hmem4 := fun i hi => hLm3.out i ((hmem4 i).1 hi)
              have hseen4 : ∀ i ∈ m.seen place tick, m.seenOf place tick i = true := fun i hi => hLs3.out i ((hcm3.out i).1 (by rw [hcv3.out]; exact hi))
              have HS := Lib.hid (show m.sky place tick = (m.seen place tick).foldl (m.siStep tick) (m.byFcs place tick).1 from rfl)
              generalize m.seen place tick = L4 at *
              have hR4 : Rows 1 encNs w4 A4 L3.length L4 := by
                obtain ⟨A', c', e', hR⟩ := hO4.rows (fun _ => rfl) (by omega)
                simp only [Value.slice.injEq] at e'
                obtain ⟨rfl, _, _⟩ := e'
                rw [hlen4] at hR
                exact hR
              have hA4 : ∀ b off, A4 = some ⟨b, off, none⟩ → w.heap.size + 2 ≤ b := fun b off h => by
                have := (hO4.lt (g := b) (by rw [h]; rfl)).1
                omega
              have hsk4 := hsk.ext hx5
              have hown4 := hown.ext hx5
              have hS4 := hSr.ext hx5
              have hm9 := (hx5.cells.1 _ _ (by omega)).trans hm9
              have hm10 := (hx5.cells.1 _ _ (by omega)).trans hm10
              have hm11 := (hx5.cells.1 _ _ (by omega)).trans hm11
              have hm13 := (hx5.cells.1 _ _ (by omega)).trans hm13
              have hEw4 := hEw.trans hx5
              have hz5 := hx5.size
              generalize (m.byFcs place tick).1 = s0 at *
              have hseen4 := Lib.hid hseen4
              have hmem4 := Lib.hid hmem4
              have hlen4 := Lib.hid hlen4
              have hEw4 := Lib.hid hEw4
              clear hLm3 hLs3 hcm3 hcl3 hcv3 hown3 he hbm2 hS2 hSr hsk hown hm12 hc2 hf2 hz2 hx2 hx4 hx5 hEw hO4
              go_loopw [118] (fun i wr => ∃ k : Nat, k ≤ L3.length ∧ i = .int .i64 k ∧ SkyAt wr (w.heap.size + 1) ((L4.take k).foldl (m.siStep tick) s0) ∧ ExtBut (w.heap.size + 1) w4 wr) (fun i _ => L3.length - (intOf i).toNat)
              case atStart => exact ⟨0, Nat.zero_le _, rfl, hsk4, ExtBut.refl _ _⟩
              case round =>
                obtain ⟨k, hk, rfl, hsk, he⟩ := hrel
                by_cases hlt : k < L3.length
                ·
                  --<4
                  obtain ⟨i, hi⟩ : ∃ i, L4[k]? = some i := ⟨_, List.getElem?_eq_getElem (by rw [hlen4.out]; exact hlt)⟩
                  have hil := hmem4.out i (List.mem_of_getElem? hi)
                  obtain ⟨x, hx⟩ : ∃ x, m.sights[i]? = some x := ⟨_, List.getElem?_eq_getElem hil⟩
                  have hsi := Lib.hid (Met.si_eq hx)
                  have hstep := Lib.hid ((foldl_take_succ (m.siStep tick) s0 i L4 k hi).trans (Met.siStep_eq hsi.out tick _))
                  generalize (L4.take k).foldl (m.siStep tick) s0 = sk at *
                  obtain ⟨b2, off2, rfl, hb2, hi2⟩ := (hR4.but he (fun _ b off h => by have := hA4 b off h; omega)).nat hlt hi
                  have hA4 := hA4 b2 off2 rfl
                  obtain ⟨b0, off, rfl, hb0, q0, q1, q2, q3, q4, q5, q6⟩ := (hS4.but he (fun hn b off h => by have := hAS b off h hn; omega)).sight hil hx
                  have hAS := hAS b0 off rfl (by omega)
                  obtain ⟨hcr, hfr, hzr⟩ := he.cells
                  have r9 := (hcr _ _ (by omega) (by omega)).trans hm9
                  have r10 := (hcr _ _ (by omega) (by omega)).trans hm10
                  have r11 := (hcr _ _ (by omega) (by omega)).trans hm11
                  have r13 := (hcr _ _ (by omega) (by omega)).trans hm13
                  have hes := he.size
                  obtain ⟨o1, o2, o3, o4, o5⟩ := Sight.ok_parts (g7 x (List.mem_of_getElem? hx))
                  have hat : x.at_ ≤ tick := by
                    have := hseen4.out i (List.mem_of_getElem? hi)
                    rw [Met.seenOf_eq hx] at this
                    simp at this
                    exact this.2
                  have b1 := prod_bd (n := tick - x.at_) (by omega) (by omega) g3.1 g3.2
                  have b2' := prod_bd (n := tick - x.at_) (by omega) (by omega) g4.1 g4.2
                  have b3 := prod_bd (n := tick - x.at_) (by omega) (by omega) g5.1 g5.2
                  clear hx hi hcr hfr hzr hm9 hm10 hm11 hm13 g6 g7
                  go_wp2_with fail
                  refine name_world (R := fun W => Code.wp _ _ _ _ W) fun W5 hx5 hc5 hf5 hz5 => ?_
                  simp at hz5
                  have hskW := hsk.ext ((by with_reducible (repeat first | assumption | exact Ext.refl _ | refine Ext.set ?_ (by omega) _ | refine Ext.alloc ?_ _ | refine Ext.drew ?_ | refine Ext.drewN ?_ _ | refine Ext.trans ?_ (by assumption))) : Ext wr W5)
                  have e2 : W5.cell? ⟨wr.heap.size, 2, none⟩ = some (.int .i64 x.now.wind) := by go_simp
                  have e3 : W5.cell? ⟨wr.heap.size, 3, none⟩ = some (.int .i64 x.now.see) := by go_simp
                  have e4 : W5.cell? ⟨wr.heap.size, 4, none⟩ = some (.int .i64 x.now.ceil) := by go_simp
                  have e5 : W5.cell? ⟨wr.heap.size, 5, none⟩ = some (.bool x.now.ice) := by go_simp
                  have e6 : W5.cell? ⟨wr.heap.size, 6, none⟩ = some (.bool x.now.storm) := by go_simp
                  have hEwr : Ext wr W5 := (by with_reducible (repeat first | assumption | exact Ext.refl _ | refine Ext.set ?_ (by omega) _ | refine Ext.alloc ?_ _ | refine Ext.drew ?_ | refine Ext.drewN ?_ _ | refine Ext.trans ?_ (by assumption)))
                  have e9 := (hEwr.cells.1 _ _ (by omega)).trans r9
                  have e10 := (hEwr.cells.1 _ _ (by omega)).trans r10
                  have e11 := (hEwr.cells.1 _ _ (by omega)).trans r11
                  have n1 : ¬ (wr.heap.size = w.heap.size + 1) := by omega
                  have n2 : ¬ (w.heap.size = w.heap.size + 1) := by omega
                  have z1 : wr.heap.size < W5.heap.size := by omega
                  have z2 : w.heap.size < W5.heap.size := by omega
                  clear hz5 hc5 hf5 hi2 q0 q1 q2 q3 q4 q5 q6 r9 r10 r11 r13 hx5
                  obtain ⟨o31, o32⟩ := o3
                  obtain ⟨o41, o42⟩ := o4
                  obtain ⟨o51, o52⟩ := o5
                  obtain ⟨b11, b12⟩ := b1
                  obtain ⟨b21, b22⟩ := b2'
                  obtain ⟨b31, b32⟩ := b3
                  have wr1 : IntKind.i64.wrap ((tick - x.at_) * m.wind) = (tick - x.at_) * m.wind := IntWalk.i64_in _ (by omega)
                  have wr2 : IntKind.i64.wrap ((tick - x.at_) * m.see) = (tick - x.at_) * m.see := IntWalk.i64_in _ (by omega)
                  have wr3 : IntKind.i64.wrap ((tick - x.at_) * m.ceil) = (tick - x.at_) * m.ceil := IntWalk.i64_in _ (by omega)
                  go_region_held3 (fun w' => HoldsBut W5 (w.heap.size + 1) w') ((with_reducible ((repeat refine HoldsBut.drew ?_); first | (first | assumption | exact HoldsBut.refl _ _ | exact HoldsBut.of_drew (by assumption)) | (refine HoldsBut.ext ?_ (by assumption); first | assumption | exact HoldsBut.refl _ _ | exact HoldsBut.of_drew (by assumption)) | (refine HoldsBut.but ?_ (by assumption); first | assumption | exact HoldsBut.refl _ _ | exact HoldsBut.of_drew (by assumption)) | (refine HoldsBut.alloc ?_ _; first | assumption | exact HoldsBut.refl _ _ | exact HoldsBut.of_drew (by assumption))))) (first | (go_at_call 110; refine (near_110 _ _ _ _ (by assumption) (by assumption) (by assumption) (by assumption) (by decide)).mono ?_; rintro e1 w1 ⟨rfl, hb1⟩) | (go_at_call 108; refine (cut_108 (w.heap.size + 1) sk (m.around tick x) _ (hskW.ext (by with_reducible (repeat first | assumption | exact Ext.refl _ | refine Ext.set ?_ (by omega) _ | refine Ext.alloc ?_ _ | refine Ext.drew ?_ | refine Ext.drewN ?_ _ | refine Ext.trans ?_ (by assumption))))).mono ?_; rintro e1 w6 ⟨rfl, hsk6, hbt6⟩))
                  clear wr1 wr2 wr3
                  have hE1 : Ext W5 w1 := (by with_reducible (repeat first | assumption | exact Ext.refl _ | refine Ext.set ?_ (by omega) _ | refine Ext.alloc ?_ _ | refine Ext.drew ?_ | refine Ext.drewN ?_ _ | refine Ext.trans ?_ (by assumption)))
                  obtain ⟨hcb, hfb, hzb⟩ := hbt6.cells
                  have hzE := hE1.cells.2.2
                  have f5 := (hcb _ _ (hzE _ z1) n1).trans ((hE1.cells.1 _ _ z1).trans e5)
                  have f6 := (hcb _ _ (hzE _ z1) n1).trans ((hE1.cells.1 _ _ z1).trans e6)
                  have hbt := Lib.hid (he.trans (((hEwr.trans hE1).but _).trans hbt6))
                  have hs6 := Lib.hid hsk6
                  obtain ⟨p0, -, -, -, -, -, -, p1, p2, pf⟩ := hsk6
                  clear hcb hfb hzb hzE e2 e3 e4 e9 e10 e11 hE1 hEwr hbt6 hskW hsk
                  by_cases hn0 : tick - x.at_ = 0
                  · have hst := Lib.hid (hstep.out.trans (if_pos hn0))
                    have hn1 : ((tick - x.at_) == (0 : Int)) = true := by rw [beq_iff_eq]; exact hn0
                    have hn0 := Lib.hid hn0
                    go_wp2
                    go_region
                    all_goals go_wp2
                    go_roundw
                    case rel => exact ⟨k + 1, by omega, by go_num, by rw [hst.out]; exact (hs6.out.lights _ _).ext (Ext.refl _).drew, (((hbt.out).set 6 _).set 7 _).drew⟩
                    case measure => simp [intOf]; omega
                  · have hst := Lib.hid (hstep.out.trans (if_neg hn0))
                    have hn1 : ((tick - x.at_) == (0 : Int)) = false := by rw [beq_eq_false_iff_ne]; exact hn0
                    have hn0 := Lib.hid hn0
                    go_wp2
                    go_roundw
                    case rel => exact ⟨k + 1, by omega, by go_num, by rw [hst.out]; exact hs6.out, hbt.out⟩
                    case measure => simp [intOf]; omega
                  -->4
                · obtain rfl : k = L3.length := by omega
                  rw [List.take_of_length_le (by rw [hlen4.out]; omega), ← HS.out] at hsk
                  have hsky9 : ∃ s9, s9 = m.sky place tick := ⟨_, rfl⟩
                  obtain ⟨s9, hs9⟩ := hsky9
                  rw [← hs9] at hsk
                  replace hs9 := Lib.hid hs9
                  have hownr := hown4.but he (by omega)
                  have hEr := Lib.hid (ExtBut.ext hEw4.out he (by omega))
                  have hlr := Nat.le_trans hz5 he.size
                  have he := Lib.hid he
                  obtain ⟨A7, c7, rfl, _⟩ := hownr.rows (fun _ => rfl) (by omega)
                  have hnr : ∀ g, (Value.slice A7 str.length c7).ownBlock = some g → w1.heap.size ≤ g := fun g hg => (hownr.lt hg).1
                  have hn1 : ¬ (some (w.heap.size + 1) = (Value.slice A7 str.length c7).ownBlock) := fun h => by have := hnr _ h.symm; omega
                  have hnr := Lib.hid hnr
                  have hn1 := Lib.hid hn1
                  go_wp2_with (go_at_call 111; refine (sortO_111 w1.heap.size (.slice A7 str.length c7) str _ hownr (by omega)).mono ?_; rintro e1 w8 ⟨rfl, hO8, hg8⟩; have hO8 := Lib.hid hO8; have hs8 := Lib.hid (hsk.grown hg8 hn1.out); have hE8 := Lib.hid (hEr.out.below.grown hg8 (by omega) (fun g hg => by have := hnr.out g hg; omega)); obtain ⟨p0, p1, p2, p3, p4, p5, p6, p7, p8, pf⟩ := hsk.grown hg8 hn1.out; clear hg8)
                  clear p0 p1 p2 p3 p4 p5 p6 p7 p8 pf
                  refine post_named (fun W => SkyAt W (w.heap.size + 1) s9 ∧ Ext w W ∧ Owns 3 1 encNs W w1.heap.size (.slice A7 str.length c7) (isort natLt str)) ⟨hs8.out.put s9, ?_, ?_⟩ fun W => ?_
                  · have h : Ext w w8 := ⟨hE8.out⟩
                    exact (by with_reducible (repeat first | assumption | exact Ext.refl _ | refine Ext.set ?_ (by omega) _ | refine Ext.alloc ?_ _ | refine Ext.drew ?_ | refine Ext.drewN ?_ _ | refine Ext.trans ?_ (by assumption)))
                  · exact hO8.out.but ((((((((((ExtBut.refl _ w8).set _ _).set _ _).set _ _).set _ _).set _ _).set _ _).set _ _).set _ _)) (by omega)
                  · rintro ⟨⟨p0, p1, p2, p3, p4, p5, p6, p7, p8, pf⟩, hEW, hOW⟩
                    obtain ⟨A9, c9, e9, hR9⟩ := hOW.rows (fun _ => rfl) (by rw [isort_length]; omega)
                    simp only [Value.slice.injEq] at e9
                    obtain ⟨rfl, _, rfl⟩ := e9
                    refine bodyPost_ret (v := .tuple #[s9.val, .slice A7 str.length c7]) ?_ rfl ⟨A7, c7, by rw [hstr.out, ← hs9.out], hEW, by rw [hstr.out]; rw [isort_length] at hR9; exact hR9⟩
                    simp [results, go_sem, p1, p2, p3, p4, p5, p6, p7, p8]
end Go.Proofs.YtmmimbcfgobnaaaGreat
