/- The reference's weather: what may be. -/
import Derived.Test.YtmmimbcfgobnaaaGreatV2
import Derived.BigRegion
set_option linter.unusedVariables false
set_option linter.unusedSimpArgs false
namespace Go.Proofs.YtmmimbcfgobnaaaGreat
open Go.RowKit
attribute [local go_sem] stored_match isSome_setCell

theorem Met.few {m : Met} (h : m.good = true) : m.fcs.length ≤ 40 ∧ m.sights.length ≤ 20 := by
  unfold Met.good at h
  simp only [Bool.and_eq_true, decide_eq_true_eq] at h
  exact ⟨h.1.1.1.2, h.1.2⟩
def MayRef (m : Met) (place tick : Int) (w : World) (e : Ending) (w' : World) : Prop :=
  ∃ A c, e = .returned (.tuple #[(m.sky place tick).val, .slice A (m.strange place tick).length c]) ∧ Ext w w' ∧ Rows 1 encNs w' A (m.strange place tick).length (m.strange place tick)
theorem SkyAt.new (w : World) (s : Sky) : SkyAt (w.alloc (.cells #[.int .i64 s.w.lo, .int .i64 s.w.hi, .int .i64 s.s.lo, .int .i64 s.s.hi, .int .i64 s.c.lo, .int .i64 s.c.hi, .bool s.ice, .bool s.storm] 25)) w.heap.size s :=
  ⟨by simp, by simp, by simp, by simp, by simp, by simp, by simp, by simp, by simp, fun o => by simp⟩
theorem Met.fcStep_ref {m : Met} {i : Nat} {x : Fc} (hx : m.fcs[i]? = some x) (sk : Sky) (str : List Nat) : m.fcStep (sk, str) i = (sk.cutI x.sky, if sk.cuts x.sky = true then str ++ [i] else str) := Met.fcStep_eq (Met.fc_eq hx) sk str
/-- A met in a block of its own. -/
structure MetBox (m : Met) (F S : Value) (b : Nat) (w : World) : Prop where
  lt : b < w.heap.size
  p0 : w.cell? ⟨b, 0, none⟩ = some (.int .i64 m.places)
  p1 : w.cell? ⟨b, 1, none⟩ = some (.int .i64 m.any.w.lo)
  p2 : w.cell? ⟨b, 2, none⟩ = some (.int .i64 m.any.w.hi)
  p3 : w.cell? ⟨b, 3, none⟩ = some (.int .i64 m.any.s.lo)
  p4 : w.cell? ⟨b, 4, none⟩ = some (.int .i64 m.any.s.hi)
  p5 : w.cell? ⟨b, 5, none⟩ = some (.int .i64 m.any.c.lo)
  p6 : w.cell? ⟨b, 6, none⟩ = some (.int .i64 m.any.c.hi)
  p7 : w.cell? ⟨b, 7, none⟩ = some (.bool m.any.ice)
  p8 : w.cell? ⟨b, 8, none⟩ = some (.bool m.any.storm)
  p9 : w.cell? ⟨b, 9, none⟩ = some (.int .i64 m.wind)
  p10 : w.cell? ⟨b, 10, none⟩ = some (.int .i64 m.see)
  p11 : w.cell? ⟨b, 11, none⟩ = some (.int .i64 m.ceil)
  p12 : w.cell? ⟨b, 12, none⟩ = some F
  p13 : w.cell? ⟨b, 13, none⟩ = some S
theorem MetBox.ext {m : Met} {F S : Value} {b : Nat} {w w' : World} (h : MetBox m F S b w) (e : Ext w w') : MetBox m F S b w' := by
  obtain ⟨c, _, z⟩ := e.cells
  exact ⟨z _ h.lt, (c _ _ h.lt).trans h.p0, (c _ _ h.lt).trans h.p1, (c _ _ h.lt).trans h.p2, (c _ _ h.lt).trans h.p3, (c _ _ h.lt).trans h.p4, (c _ _ h.lt).trans h.p5, (c _ _ h.lt).trans h.p6, (c _ _ h.lt).trans h.p7, (c _ _ h.lt).trans h.p8, (c _ _ h.lt).trans h.p9, (c _ _ h.lt).trans h.p10, (c _ _ h.lt).trans h.p11, (c _ _ h.lt).trans h.p12, (c _ _ h.lt).trans h.p13⟩
theorem MetBox.but {m : Met} {F S : Value} {b p : Nat} {w w' : World} (h : MetBox m F S b w) (e : ExtBut p w w') (hp : b ≠ p) : MetBox m F S b w' := by
  obtain ⟨c, _, z⟩ := e.cells
  exact ⟨z _ h.lt, (c _ _ h.lt hp).trans h.p0, (c _ _ h.lt hp).trans h.p1, (c _ _ h.lt hp).trans h.p2, (c _ _ h.lt hp).trans h.p3, (c _ _ h.lt hp).trans h.p4, (c _ _ h.lt hp).trans h.p5, (c _ _ h.lt hp).trans h.p6, (c _ _ h.lt hp).trans h.p7, (c _ _ h.lt hp).trans h.p8, (c _ _ h.lt hp).trans h.p9, (c _ _ h.lt hp).trans h.p10, (c _ _ h.lt hp).trans h.p11, (c _ _ h.lt hp).trans h.p12, (c _ _ h.lt hp).trans h.p13⟩
theorem SkyAt.but {w w' : World} {p q : Nat} {s : Sky} (h : SkyAt w p s) (e : ExtBut q w w') (hp : p ≠ q) : SkyAt w' p s := by
  obtain ⟨c, f, z⟩ := e.cells
  exact ⟨z _ h.lt, (c _ _ h.lt hp).trans h.wlo, (c _ _ h.lt hp).trans h.whi, (c _ _ h.lt hp).trans h.slo, (c _ _ h.lt hp).trans h.shi, (c _ _ h.lt hp).trans h.clo, (c _ _ h.lt hp).trans h.chi, (c _ _ h.lt hp).trans h.ice, (c _ _ h.lt hp).trans h.storm, fun o => (f _ o h.lt).trans (h.free o)⟩
set_option maxRecDepth 100000 in
set_option maxHeartbeats 40000000 in
theorem may_141 (m : Met) (place tick : Int) (AF AS : Option Addr) (nF cF nS cS : Nat) (w : World) (hm : MetIn w m AF nF AS nS) (hg : m.good = true) (ht : 0 ≤ tick ∧ tick ≤ 2000) :
    Calls Tryz.prog 141 #[m.val (.slice AF nF cF) (.slice AS nS cS), .int .i64 place, .int .i64 tick] w (MayRef m place tick w) := by
  have hm' := Lib.hid hm
  obtain ⟨hF, hS⟩ := hm
  obtain rfl := hF.len
  obtain rfl := hS.len
  obtain ⟨g1, g2, g3, g4, g5, g6, g7⟩ := Met.good_parts hg
  obtain ⟨few1, few2⟩ := Met.few hg
  clear hg
  simp only [Met.val]
  go_enter Tryz.func141, Tryz.ntmps141
  go_upto_region 3 with (fail)
  refine name_as (P := fun W => SkyAt W (w.heap.size + 1 + 1) m.any ∧ SkyAt W (w.heap.size + 1) ⟨⟨0, 0⟩, ⟨0, 0⟩, ⟨0, 0⟩, false, false⟩ ∧ Ext w W ∧ MetBox m (.slice AF m.fcs.length cF) (.slice AS m.sights.length cS) w.heap.size W) (R := fun W => Code.wp _ _ _ _ W) ⟨⟨by first | (simp; done) | (simp; omega), by go_simp, by go_simp, by go_simp, by go_simp, by go_simp, by go_simp, by go_simp, by go_simp, fun o => by go_simp⟩, ⟨by first | (simp; done) | (simp; omega), by go_simp, by go_simp, by go_simp, by go_simp, by go_simp, by go_simp, by go_simp, by go_simp, fun o => by go_simp⟩, (by with_reducible (repeat first | assumption | exact Ext.refl _ | refine Ext.set ?_ (by omega) _ | refine Ext.alloc ?_ _ | refine Ext.drew ?_ | refine Ext.drewN ?_ _ | refine Ext.trans ?_ (by assumption))), ⟨by first | (simp; done) | (simp; omega), by go_simp, by go_simp, by go_simp, by go_simp, by go_simp, by go_simp, by go_simp, by go_simp, by go_simp, by go_simp, by go_simp, by go_simp, by go_simp, by go_simp⟩⟩ fun W1 ⟨hN, hRes, hxw, hBx⟩ => ?_
  replace hBx := Lib.hid hBx
  obtain ⟨lb, b0, b1, b2, b3, b4, b5, b6, b7, b8, b9, b10, b11, b12, b13⟩ := hBx.out
  go_upto_region 4 with (go_at_call 166; refine (covers_166 m place tick AF AS m.fcs.length cF m.sights.length cS _ (hm'.out.ext (by with_reducible (repeat first | assumption | exact Ext.refl _ | refine Ext.set ?_ (by omega) _ | refine Ext.alloc ?_ _ | refine Ext.drew ?_ | refine Ext.drewN ?_ _ | refine Ext.trans ?_ (by assumption)))) (by omega)).mono ?_; rintro e1 w2 ⟨v, rfl, hO, hx2⟩)
  have hlL : (m.covers place tick).length ≤ m.fcs.length := by
    unfold Met.covers; rw [isort_length]; exact Met.covers0_length _ _ _ _
  have hmL : ∀ i ∈ m.covers place tick, i < m.fcs.length := fun i hi => Met.covers0_mem ((mem_isort _ _ _).1 hi)
  have HE := Lib.hid (show m.byFcs place tick = (m.covers place tick).foldl m.fcStep (m.any, []) from rfl)
  have HS := Lib.hid (show m.sky place tick = (m.seen place tick).foldl (m.siStep tick) (m.byFcs place tick).1 from rfl)
  have hstr := Lib.hid (show m.strange place tick = (m.byFcs place tick).2 from rfl)
  obtain ⟨A1, c1, rfl, hR1⟩ := hO.rows (fun _ => rfl) (by omega)
  have hs1 := hxw.size
  have hl1 := hN.lt
  have hA1 : ∀ b off, A1 = some ⟨b, off, none⟩ → W1.heap.size ≤ b := fun b off h => (hO.lt (g := b) (by rw [h]; rfl)).1
  have hs2 := hx2.size
  generalize m.covers place tick = L1 at *
  have hF2 := Lib.hid (hF.ext (hxw.trans hx2))
  have hS2 := Lib.hid (hS.ext (hxw.trans hx2))
  have hB2 := Lib.hid (hBx.out.ext hx2)
  have hN2 := hN.ext hx2
  have hRes2 := Lib.hid (hRes.ext hx2)
  have hxw2 : Ext w w2 := hxw.trans hx2
  have hAF : ∀ b off, AF = some ⟨b, off, none⟩ → 0 < m.fcs.length → b < w.heap.size := fun b off h hn => hF.block hn h
  have hAS : ∀ b off, AS = some ⟨b, off, none⟩ → 0 < m.sights.length → b < w.heap.size := fun b off h hn => hS.block hn h
  replace hAF := Lib.hid hAF
  replace hAS := Lib.hid hAS
  replace hA1 := Lib.hid hA1
  replace hR1 := Lib.hid hR1
  replace hmL := Lib.hid hmL
  clear b0 b1 b2 b3 b4 b5 b6 b7 b8 b9 b10 b11 b12 b13 lb hO hx2 hN hRes hBx hF hS
  go_wp2_with fail
  go_loopw [9, 11] (fun v i wr => ∃ k : Nat, k ≤ L1.length ∧ i = .int .i64 k ∧ SkyAt wr (w.heap.size + 1 + 1) ((L1.take k).foldl m.fcStep (m.any, [])).1 ∧ Owns 3 1 encNs wr w2.heap.size v ((L1.take k).foldl m.fcStep (m.any, [])).2 ∧ ((L1.take k).foldl m.fcStep (m.any, [])).2.length ≤ k ∧ ExtBut (w.heap.size + 1 + 1) w2 wr) (fun _ i _ => L1.length - (intOf i).toNat)
  case atStart => exact ⟨0, Nat.zero_le _, rfl, hN2, Owns.nil _ _ _ _ _, Nat.le_refl _, ExtBut.refl _ _⟩
  case round =>
    clear hN2
    obtain ⟨k, hk, rfl, hsk, hown, hsl, he⟩ := hrel
    have hBr := hB2.out.but he (by omega)
    by_cases hlt : k < L1.length
    · obtain ⟨i, hi⟩ : ∃ i, L1[k]? = some i := ⟨_, List.getElem?_eq_getElem hlt⟩
      have hil := hmL.out i (List.mem_of_getElem? hi)
      obtain ⟨x, hx⟩ : ∃ x, m.fcs[i]? = some x := ⟨_, List.getElem?_eq_getElem hil⟩
      have hstep := foldl_take_succ m.fcStep (m.any, []) i L1 k hi
      generalize (L1.take k).foldl m.fcStep (m.any, []) = st at *
      obtain ⟨sk, str⟩ := st
      rw [Met.fcStep_ref hx] at hstep
      replace hstep := Lib.hid hstep
      dsimp only at hsk hown hsl
      obtain ⟨b2, off2, hA2, hb2, hi2⟩ := (hR1.out.but he (fun _ b off h => by have := hA1.out b off h; omega)).nat hlt hi
      have hA2' := hA1.out b2 off2 hA2
      obtain ⟨bf, offf, hA3, hbf, -, -, -, -, q4, q5, q6, q7, q8, q9, q10, q11⟩ := (hF2.out.but he (fun hn b off h => by have := hAF.out b off h hn; omega)).fc hil hx
      have hA3' := hAF.out bf offf hA3 (by omega)
      obtain ⟨-, -, -, -, -, -, -, -, -, -, -, -, -, b12, -⟩ := hBr
      subst hA2 hA3
      have hes := he.size
      have r12 := b12
      have i1 : (k : Int) < (L1.length : Int) := by omega
      have i2 : (i : Int) < (m.fcs.length : Int) := by omega
      have i3 : (0 : Int) ≤ (k : Int) := by omega
      have i4 : (0 : Int) ≤ (i : Int) := by omega
      have hskx := Lib.hid hsk
      obtain ⟨s0, s1, s2, s3, s4, s5, s6, s7, s8, -⟩ := hsk
      have lbr : w.heap.size < wr.heap.size := by omega
      clear hi hx
      go_upto_region 7 with (fail)
      go_cut [12, 13] (fun s12 s13 wx => ∃ bn, s12 = .pointer (some ⟨bn, 0, none⟩) ∧ s13 = .bool (sk.cuts x.sky) ∧ wr.heap.size ≤ bn ∧ SkyAt wx bn (sk.cutI x.sky) ∧ Ext wr wx)
      case first =>
        go_region_held3 (fun w' => HoldsAll wr w') (first | (with_reducible (refine HoldsAll.fresh ?_ (Nat.le_refl _) _; refine HoldsAll.fresh ?_ (Nat.le_refl _) _; refine HoldsAll.fresh ?_ (Nat.le_refl _) _; refine HoldsAll.fresh ?_ (Nat.le_refl _) _; refine HoldsAll.fresh ?_ (Nat.le_refl _) _; refine HoldsAll.fresh ?_ (Nat.le_refl _) _; refine HoldsAll.fresh ?_ (Nat.le_refl _) _; refine HoldsAll.fresh ?_ (Nat.le_refl _) _; assumption)) | ((with_reducible ((repeat refine HoldsAll.drew ?_); first | (first | (first | (first | assumption | exact HoldsAll.refl _ | exact (HoldsAll.refl _).drew | exact HoldsAll.of_drew (by assumption)) | (refine HoldsAll.ext ?_ (by assumption); first | assumption | exact HoldsAll.refl _ | exact (HoldsAll.refl _).drew | exact HoldsAll.of_drew (by assumption))) | (refine HoldsAll.alloc ?_ _; first | (first | assumption | exact HoldsAll.refl _ | exact (HoldsAll.refl _).drew | exact HoldsAll.of_drew (by assumption)) | (refine HoldsAll.ext ?_ (by assumption); first | assumption | exact HoldsAll.refl _ | exact (HoldsAll.refl _).drew | exact HoldsAll.of_drew (by assumption))) | (refine HoldsAll.ext ?_ (by assumption); refine HoldsAll.alloc ?_ _; first | (first | assumption | exact HoldsAll.refl _ | exact (HoldsAll.refl _).drew | exact HoldsAll.of_drew (by assumption)) | (refine HoldsAll.ext ?_ (by assumption); first | assumption | exact HoldsAll.refl _ | exact (HoldsAll.refl _).drew | exact HoldsAll.of_drew (by assumption)))) | (refine HoldsAll.fresh ?_ (by omega) _; repeat refine HoldsAll.fresh ?_ (by omega) _; first | (first | (first | assumption | exact HoldsAll.refl _ | exact (HoldsAll.refl _).drew | exact HoldsAll.of_drew (by assumption)) | (refine HoldsAll.ext ?_ (by assumption); first | assumption | exact HoldsAll.refl _ | exact (HoldsAll.refl _).drew | exact HoldsAll.of_drew (by assumption))) | (refine HoldsAll.alloc ?_ _; first | (first | assumption | exact HoldsAll.refl _ | exact (HoldsAll.refl _).drew | exact HoldsAll.of_drew (by assumption)) | (refine HoldsAll.ext ?_ (by assumption); first | assumption | exact HoldsAll.refl _ | exact (HoldsAll.refl _).drew | exact HoldsAll.of_drew (by assumption))) | (refine HoldsAll.ext ?_ (by assumption); refine HoldsAll.alloc ?_ _; first | (first | assumption | exact HoldsAll.refl _ | exact (HoldsAll.refl _).drew | exact HoldsAll.of_drew (by assumption)) | (refine HoldsAll.ext ?_ (by assumption); first | assumption | exact HoldsAll.refl _ | exact (HoldsAll.refl _).drew | exact HoldsAll.of_drew (by assumption)))))))) (first | (go_at_call 167; refine (cutSky_167 sk x.sky _).mono ?_; rintro e1 w6 ⟨rfl, hb6⟩; obtain ⟨hc6, hf6, hz6⟩ := hb6.cells))
        · go_wp2_with fail
          go_meet
          exact ⟨w6.heap.size, rfl, rfl, by have := hb6.size; simp at this; omega, SkyAt.new w6 (sk.cutI x.sky), (by with_reducible (repeat first | assumption | exact Ext.refl _ | refine Ext.set ?_ (by omega) _ | refine Ext.alloc ?_ _ | refine Ext.drew ?_ | refine Ext.drewN ?_ _ | refine Ext.trans ?_ (by assumption)))⟩
        · have hz6 := (SkyAt.new wr ⟨⟨0, 0⟩, ⟨0, 0⟩, ⟨0, 0⟩, false, false⟩).ext (w' := w6) (by with_reducible first | exact hb6 | exact Ext.trans ((Ext.refl _).drew) hb6)
          go_wp2_with fail
          go_meet
          exact ⟨wr.heap.size, rfl, rfl, Nat.le_refl _, hz6.put (sk.cutI x.sky), (by with_reducible (repeat first | assumption | exact Ext.refl _ | refine Ext.set ?_ (by omega) _ | refine Ext.alloc ?_ _ | refine Ext.drew ?_ | refine Ext.drewN ?_ _ | refine Ext.trans ?_ (by assumption)))⟩
      case rest =>
        obtain ⟨bn, rfl, rfl, hbn, hskn, hxc⟩ := hcut
        clear q4 q5 q6 q7 q8 q9 q10 q11 s0 s1 s2 s3 s4 s5 s6 s7 s8 r12 b12 lbr
        obtain ⟨n0, n1, n2, n3, n4, n5, n6, n7, n8, -⟩ := hskn
        have hskc := Lib.hid (hskx.out.ext hxc)
        obtain ⟨s0, s1, s2, s3, s4, s5, s6, s7, s8, sf⟩ := hskc.out
        have hp1 : ¬ w.heap.size + 1 + 1 = bn := by omega
        have hp2 : ¬ bn = w.heap.size + 1 + 1 := by omega
        have hcutI := Lib.hid (show sk.cutI x.sky = sk.cutI x.sky from rfl)
        obtain ⟨s', hs'⟩ : ∃ s', sk.cutI x.sky = s' := ⟨_, rfl⟩
        rw [hs'] at n1 n2 n3 n4 n5 n6 n7 n8 hstep
        replace hs' := Lib.hid hs'
        go_upto_region 9 with (fail)
        refine name_as (P := fun W => SkyAt W (w.heap.size + 1 + 1) s' ∧ ExtBut (w.heap.size + 1 + 1) wr W) (R := fun W => Code.wp _ _ _ _ W) ⟨hskc.out.put s', ((((((((hxc.but (w.heap.size + 1 + 1)).set _ _).set _ _).set _ _).set _ _).set _ _).set _ _).set _ _).set _ _⟩ fun W5 ⟨hsk5, hE5⟩ => ?_
        clear n0 n1 n2 n3 n4 n5 n6 n7 n8 s0 s1 s2 s3 s4 s5 s6 s7 s8 sf hskc hskx hxc hp1 hp2
        have hi5 := (hE5.cells.1 _ _ hb2 (by omega)).trans hi2
        have hb5 := hE5.cells.2.2 _ hb2
        have hO5 := Lib.hid (hown.but hE5 (by omega))
        have hE2 := Lib.hid (he.trans hE5)
        have hs5 := hE5.size
        have hp5 := hsk5.lt
        replace hsk5 := Lib.hid hsk5
        clear hi2 hown he hE5
        rcases Bool.eq_false_or_eq_true (sk.cuts x.sky) with hcu | hcu
        · have hst := Lib.hid (hstep.out.trans (show (s', if sk.cuts x.sky = true then str ++ [i] else str) = (s', str ++ [i]) by rw [if_pos hcu]))
          have hnr : ∀ g, u9.ownBlock = some g → w2.heap.size ≤ g ∧ g < W5.heap.size := fun g hg => hO5.out.lt hg
          have hn1 : ¬ (some (w.heap.size + 1 + 1) = u9.ownBlock) := fun h => by have := hnr _ h.symm; omega
          replace hn1 := Lib.hid hn1
          replace hnr := Lib.hid hnr
          have hq1 := Lib.hid (show w2.heap.size ≤ W5.heap.size by omega)
          have hq2 := Lib.hid (show str.length ≤ 1000000000 by omega)
          rw [hcu]
          replace hcu := Lib.hid hcu
          go_wp2_with (at_builtin; refine append_one e_int encNs (fun _ => rfl) encNs_one rfl _ _ rfl w2.heap.size u9 str rfl i #[.int .i64 i] rfl W5.heap.size rfl rfl (w := W5) hO5.out hq1.out hq2.out ?_; intro v' w7 hown3 hgrow)
          go_roundw
          case rel => exact ⟨k + 1, by omega, by go_num, by rw [hst.out]; exact (hsk5.out.ext ((Ext.refl W5).alloc _)).grown hgrow hn1.out, by rw [hst.out]; exact hown3, by rw [hst.out]; simp; omega, grown_but hgrow (hE2.out.alloc _) (fun g hg => (hnr.out g hg).1) hn1.out (by simp; omega)⟩
          case measure => simp [intOf]; omega
        · have hst := Lib.hid (hstep.out.trans (show (s', if sk.cuts x.sky = true then str ++ [i] else str) = (s', str) by rw [if_neg (by simp [hcu])]))
          rw [hcu]
          replace hcu := Lib.hid hcu
          go_wp2_with fail
          go_roundw
          case rel => exact ⟨k + 1, by omega, by go_num, by rw [hst.out]; exact hsk5.out, by rw [hst.out]; exact hO5.out, by rw [hst.out]; dsimp only; omega, hE2.out⟩
          case measure => simp [intOf]; omega
    · obtain rfl : k = L1.length := by omega
      rw [List.take_of_length_le (Nat.le_refl _), ← HE.out] at hsk hown hsl
      have hstr9 := hstr.out
      have HS9 := HS.out
      generalize m.byFcs place tick = st at hsk hown hsl hstr9 HS9
      obtain ⟨s0, str⟩ := st
      dsimp only at hsk hown hsl hstr9 HS9
      obtain ⟨lbr, b0, b1, b2, b3, b4, b5, b6, b7, b8, b9, b10, b11, b12, b13⟩ := hBr
      have hs3 := he.size
      have hEw : Ext w wr := ExtBut.ext hxw2 he (by omega)
      have hBr2 := Lib.hid (hB2.out.but he (by omega))
      have hResr := Lib.hid (hRes2.out.but he (by omega))
      replace hsk := Lib.hid hsk
      replace hown := Lib.hid hown
      replace hstr9 := Lib.hid hstr9
      have hseen4 : ∀ i ∈ m.seen place tick, m.seenOf place tick i = true := fun i hi => Met.seen0_of ((mem_isort _ _ _).1 hi)
      have hmem4 : ∀ i ∈ m.seen place tick, i < m.sights.length := fun i hi => Met.seen0_mem ((mem_isort _ _ _).1 hi)
      have hlen4 : (m.seen place tick).length ≤ m.sights.length := by unfold Met.seen; rw [isort_length]; exact Met.seen0_length _ _ _ _
      obtain ⟨L4, hL4⟩ : ∃ L, m.seen place tick = L := ⟨_, rfl⟩
      rw [hL4] at hseen4 hmem4 hlen4 HS9
      replace hL4 := Lib.hid hL4
      replace HS9 := Lib.hid HS9
      replace hseen4 := Lib.hid hseen4
      replace hmem4 := Lib.hid hmem4
      clear he
      go_wp2_with (go_at_call 168; refine (seen_168 m place tick AF AS m.fcs.length cF m.sights.length cS _ (hm'.out.ext hEw) (by omega)).mono ?_; rw [hL4.out]; rintro e1 w4 ⟨v, rfl, hO4, hx4⟩)
      obtain ⟨A4, c4, rfl, hR4⟩ := hO4.rows (fun _ => rfl) (by omega)
      have hA4 : ∀ b off, A4 = some ⟨b, off, none⟩ → wr.heap.size ≤ b := fun b off h => (hO4.lt (g := b) (by rw [h]; rfl)).1
      have hs4 := hx4.size
      replace hA4 := Lib.hid hA4
      replace hR4 := Lib.hid hR4
      have hS4 := Lib.hid (hS2.out.ext (Ext.refl _))
      have hB4 := Lib.hid (hBr2.out.ext hx4)
      have hRes4 := Lib.hid (hResr.out.ext hx4)
      have hown4 := Lib.hid (hown.out.ext hx4)
      have hsk4 := hsk.out.ext hx4
      have hEw4 : Ext w w4 := hEw.trans hx4
      have hSs := Lib.hid (hm'.out.sights.ext hEw4)
      clear b0 b1 b2 b3 b4 b5 b6 b7 b8 b9 b10 b11 b12 b13 lbr hO4 hx4 hS4
      go_wp2_with fail
      go_loopw [15] (fun i wr => ∃ k : Nat, k ≤ L4.length ∧ i = .int .i64 k ∧ SkyAt wr (w.heap.size + 1 + 1) ((L4.take k).foldl (m.siStep tick) s0) ∧ ExtBut (w.heap.size + 1 + 1) w4 wr) (fun i _ => L4.length - (intOf i).toNat)
      case atStart => exact ⟨0, Nat.zero_le _, rfl, hsk4, ExtBut.refl _ _⟩
      case round =>
        clear hsk4
        obtain ⟨k, hk, rfl, hsk, he⟩ := hrel
        have hBr := hB4.out.but he (by omega)
        by_cases hlt : k < L4.length
        · obtain ⟨i, hi⟩ : ∃ i, L4[k]? = some i := ⟨_, List.getElem?_eq_getElem hlt⟩
          have hil := hmem4.out i (List.mem_of_getElem? hi)
          obtain ⟨x, hx⟩ : ∃ x, m.sights[i]? = some x := ⟨_, List.getElem?_eq_getElem hil⟩
          have hstep := Lib.hid ((foldl_take_succ (m.siStep tick) s0 i L4 k hi).trans (Met.siStep_eq (Met.si_eq hx) tick _))
          generalize (L4.take k).foldl (m.siStep tick) s0 = sk at *
          obtain ⟨b2, off2, hA2, hb2, hi2⟩ := (hR4.out.but he (fun _ b off h => by have := hA4.out b off h; omega)).nat hlt hi
          have hA2' := hA4.out b2 off2 hA2
          obtain ⟨bf, offf, hA3, hbf, q0, q1, q2, q3, q4, q5, q6⟩ := (hSs.out.but he (fun hn b off h => by have := hAS.out b off h hn; omega)).sight hil hx
          have hA3' := hAS.out bf offf hA3 (by omega)
          obtain ⟨lbr, -, -, -, -, -, -, -, -, -, b9, b10, b11, -, b13⟩ := hBr
          subst hA2 hA3
          have hes := he.size
          obtain ⟨o1, o2, o3, o4, o5⟩ := Sight.ok_parts (g7 x (List.mem_of_getElem? hx))
          have hat : x.at_ ≤ tick := by
            have := hseen4.out i (List.mem_of_getElem? hi)
            rw [Met.seenOf_eq hx] at this
            simp at this
            exact this.2
          have b1 := prod_bd (n := tick - x.at_) (by omega) (by omega) g3.1 g3.2
          have b2' := prod_bd (n := tick - x.at_) (by omega) (by omega) g4.1 g4.2
          have b3 := prod_bd (n := tick - x.at_) (by omega) (by omega) g5.1 g5.2
          clear hi hx
          go_upto_region 15 with (fail)
          go_cut [16] (fun s16 wx => ∃ be, s16 = .pointer (some ⟨be, 0, none⟩) ∧ wr.heap.size ≤ be ∧ be < wx.heap.size ∧ wx.cell? ⟨be, 1, none⟩ = some (.int .i64 x.at_) ∧ wx.cell? ⟨be, 2, none⟩ = some (.int .i64 x.now.wind) ∧ wx.cell? ⟨be, 3, none⟩ = some (.int .i64 x.now.see) ∧ wx.cell? ⟨be, 4, none⟩ = some (.int .i64 x.now.ceil) ∧ wx.cell? ⟨be, 5, none⟩ = some (.bool x.now.ice) ∧ wx.cell? ⟨be, 6, none⟩ = some (.bool x.now.storm) ∧ Ext wr wx)
          case first =>
            go_region
            all_goals
              go_wp2_with fail
              go_meet
              exact ⟨wr.heap.size, rfl, Nat.le_refl _, by simp, by go_simp, by go_simp, by go_simp, by go_simp, by go_simp, by go_simp, (by with_reducible (repeat first | assumption | exact Ext.refl _ | refine Ext.set ?_ (by omega) _ | refine Ext.alloc ?_ _ | refine Ext.drew ?_ | refine Ext.drewN ?_ _ | refine Ext.trans ?_ (by assumption)))⟩
          case rest =>
            obtain ⟨be, rfl, hbe, hle, e1, e2, e3, e4, e5, e6, hxc⟩ := hcut
            obtain ⟨w5, rfl⟩ : ∃ W, W = wc := ⟨_, rfl⟩
            have hskc := Lib.hid (hsk.ext hxc)
            obtain ⟨lp, s0, s1, s2, s3, s4, s5, s6, s7, sf⟩ := hskc.out
            have c9 := (hxc.cells.1 _ _ lbr).trans b9
            have c10 := (hxc.cells.1 _ _ lbr).trans b10
            have c11 := (hxc.cells.1 _ _ lbr).trans b11
            have lbc := hxc.cells.2.2 _ lbr
            have np1 : ¬ be = w.heap.size + 1 + 1 := by omega
            have np2 : ¬ w.heap.size = w.heap.size + 1 + 1 := by omega
            obtain ⟨o31, o32⟩ := o3
            obtain ⟨o41, o42⟩ := o4
            obtain ⟨o51, o52⟩ := o5
            obtain ⟨b11', b12'⟩ := b1
            obtain ⟨b21, b22⟩ := b2'
            obtain ⟨b31, b32⟩ := b3
            clear q0 q1 q2 q3 q4 q5 q6 hi2 b9 b10 b11 b13
            have wr1 : IntKind.i64.wrap ((tick - x.at_) * m.wind) = (tick - x.at_) * m.wind := IntWalk.i64_in _ (by omega)
            have hxc := Lib.hid hxc
            go_upto_region 17 with (fail)
            go_cut [17] (fun s17 wx => s17 = .int .i64 (tick - x.at_) ∧ Put2 (w.heap.size + 1 + 1) 0 (cut sk.w (near x.now.wind ((tick - x.at_) * m.wind) 300)).1 w5 wx)
            case first =>
              go_region_with (first | (go_at_call 170; refine (around_170 _ _ _ _ (by assumption) (by assumption) (by assumption) (by assumption) (by decide)).mono ?_; rintro e1' w6 ⟨rfl, hb6⟩; have t6 : Ext w5 w6 := (by with_reducible (repeat first | assumption | exact Ext.refl _ | refine Ext.set ?_ (by omega) _ | refine Ext.alloc ?_ _ | refine Ext.drew ?_ | refine Ext.drewN ?_ _ | refine Ext.trans ?_ (by assumption))); obtain ⟨hc6, hf6, hz6⟩ := t6.cells) | (go_at_call 169; refine (cut_169 sk.w (near x.now.wind ((tick - x.at_) * m.wind) 300) _).mono ?_; rintro e1' w7 ⟨rfl, hb7⟩; have t7 : Ext w5 w7 := (by with_reducible (repeat first | assumption | exact Ext.refl _ | refine Ext.set ?_ (by omega) _ | refine Ext.alloc ?_ _ | refine Ext.drew ?_ | refine Ext.drewN ?_ _ | refine Ext.trans ?_ (by assumption))); obtain ⟨hc7, hf7, hz7⟩ := t7.cells))
              all_goals
                go_wp2_with fail
                go_meet
                exact ⟨rfl, Put2.of t7 lp (by rw [s0]; rfl) (by rw [s1]; rfl)⟩
            case rest =>
              obtain ⟨rfl, hPA⟩ := hcut
              obtain ⟨wA, rfl⟩ : ∃ W, W = wc := ⟨_, rfl⟩
              have hw17 := Lib.hid wr1
              clear wr1
              have e3' := (hPA.but.cells.1 _ _ hle np1).trans e3
              have e4' := (hPA.but.cells.1 _ _ hle np1).trans e4
              have e5' := (hPA.but.cells.1 _ _ hle np1).trans e5
              have e6' := (hPA.but.cells.1 _ _ hle np1).trans e6
              have c10' := (hPA.but.cells.1 _ _ lbc np2).trans c10
              have c11' := (hPA.but.cells.1 _ _ lbc np2).trans c11
              have s2' := (hPA.same 2 (by omega) (by omega)).trans s2
              have s3' := (hPA.same 3 (by omega) (by omega)).trans s3
              have s4' := (hPA.same 4 (by omega) (by omega)).trans s4
              have s5' := (hPA.same 5 (by omega) (by omega)).trans s5
              have sf' := fun o => (hPA.but.frozen lp o).trans (sf o)
              have hle' := hPA.but.cells.2.2 _ hle
              have lbc' := hPA.but.cells.2.2 _ lbc
              have lp' := hPA.but.cells.2.2 _ lp
              clear e1 e2 e3 e4 e5 e6 c9 c10 c11 s0 s1 s2 s3 s4 s5 s6 s7 sf
              have wr1 : IntKind.i64.wrap ((tick - x.at_) * m.see) = (tick - x.at_) * m.see := IntWalk.i64_in _ (by omega)
              go_upto_region 18 with (fail)
              go_cut [17] (fun s17 wx => s17 = .int .i64 (tick - x.at_) ∧ Put2 (w.heap.size + 1 + 1) 2 (cut sk.s (near x.now.see ((tick - x.at_) * m.see) 20000)).1 wA wx)
              case first =>
                go_region_with (first | (go_at_call 170; refine (around_170 _ _ _ _ (by assumption) (by assumption) (by assumption) (by assumption) (by decide)).mono ?_; rintro e1' w6 ⟨rfl, hb6⟩; have t6 : Ext wA w6 := (by with_reducible (repeat first | assumption | exact Ext.refl _ | refine Ext.set ?_ (by omega) _ | refine Ext.alloc ?_ _ | refine Ext.drew ?_ | refine Ext.drewN ?_ _ | refine Ext.trans ?_ (by assumption))); obtain ⟨hc6, hf6, hz6⟩ := t6.cells) | (go_at_call 169; refine (cut_169 sk.s (near x.now.see ((tick - x.at_) * m.see) 20000) _).mono ?_; rintro e1' w7 ⟨rfl, hb7⟩; have t7 : Ext wA w7 := (by with_reducible (repeat first | assumption | exact Ext.refl _ | refine Ext.set ?_ (by omega) _ | refine Ext.alloc ?_ _ | refine Ext.drew ?_ | refine Ext.drewN ?_ _ | refine Ext.trans ?_ (by assumption))); obtain ⟨hc7, hf7, hz7⟩ := t7.cells))
                all_goals
                  go_wp2_with fail
                  go_meet
                  exact ⟨rfl, Put2.of t7 lp' (by rw [s2']; rfl) (by rw [s3']; rfl)⟩
              case rest =>
                obtain ⟨rfl, hPB⟩ := hcut
                obtain ⟨wB, rfl⟩ : ∃ W, W = wc := ⟨_, rfl⟩
                clear wr1
                have e4'' := (hPB.but.cells.1 _ _ hle' np1).trans e4'
                have e5'' := (hPB.but.cells.1 _ _ hle' np1).trans e5'
                have e6'' := (hPB.but.cells.1 _ _ hle' np1).trans e6'
                have c11'' := (hPB.but.cells.1 _ _ lbc' np2).trans c11'
                have s4'' := (hPB.same 4 (by omega) (by omega)).trans s4'
                have s5'' := (hPB.same 5 (by omega) (by omega)).trans s5'
                have sf'' := fun o => (hPB.but.frozen lp' o).trans (sf' o)
                have hle'' := hPB.but.cells.2.2 _ hle'
                have lbc'' := hPB.but.cells.2.2 _ lbc'
                have lp'' := hPB.but.cells.2.2 _ lp'
                clear e3' e4' e5' e6' c10' c11' s2' s3' s4' s5' sf'
                have wr1 : IntKind.i64.wrap ((tick - x.at_) * m.ceil) = (tick - x.at_) * m.ceil := IntWalk.i64_in _ (by omega)
                go_upto_region 19 with (fail)
                go_cut [17] (fun s17 wx => s17 = .int .i64 (tick - x.at_) ∧ Put2 (w.heap.size + 1 + 1) 4 (cut sk.c (near x.now.ceil ((tick - x.at_) * m.ceil) 20000)).1 wB wx)
                case first =>
                  go_region_with (first | (go_at_call 170; refine (around_170 _ _ _ _ (by assumption) (by assumption) (by assumption) (by assumption) (by decide)).mono ?_; rintro e1' w6 ⟨rfl, hb6⟩; have t6 : Ext wB w6 := (by with_reducible (repeat first | assumption | exact Ext.refl _ | refine Ext.set ?_ (by omega) _ | refine Ext.alloc ?_ _ | refine Ext.drew ?_ | refine Ext.drewN ?_ _ | refine Ext.trans ?_ (by assumption))); obtain ⟨hc6, hf6, hz6⟩ := t6.cells) | (go_at_call 169; refine (cut_169 sk.c (near x.now.ceil ((tick - x.at_) * m.ceil) 20000) _).mono ?_; rintro e1' w7 ⟨rfl, hb7⟩; have t7 : Ext wB w7 := (by with_reducible (repeat first | assumption | exact Ext.refl _ | refine Ext.set ?_ (by omega) _ | refine Ext.alloc ?_ _ | refine Ext.drew ?_ | refine Ext.drewN ?_ _ | refine Ext.trans ?_ (by assumption))); obtain ⟨hc7, hf7, hz7⟩ := t7.cells))
                  all_goals
                    go_wp2_with fail
                    go_meet
                    exact ⟨rfl, Put2.of t7 lp'' (by rw [s4'']; rfl) (by rw [s5'']; rfl)⟩
                case rest =>
                  obtain ⟨rfl, hPC⟩ := hcut
                  clear wr1
                  obtain ⟨hskd, hEd⟩ := sky_puts (b := m.around tick x) hsk hxc.out hPA hPB hPC
                  have f5 := (hPC.but.cells.1 _ _ hle'' np1).trans e5''
                  have f6 := (hPC.but.cells.1 _ _ hle'' np1).trans e6''
                  have lf := hPC.but.cells.2.2 _ hle''
                  have hEe := Lib.hid (he.trans hEd)
                  have hs6 := Lib.hid hskd
                  obtain ⟨lq, -, -, -, -, -, -, y6, y7, yf⟩ := hskd
                  clear e4'' e5'' e6'' c11'' s4'' s5'' sf'' hle'' lbc'' lp'' hle' lbc' lp' hEd
                  by_cases hn0 : tick - x.at_ = 0
                  · have hst := Lib.hid (hstep.out.trans (if_pos hn0))
                    have hn1 : ((tick - x.at_) == (0 : Int)) = true := by rw [beq_iff_eq]; exact hn0
                    have hn0 := Lib.hid hn0
                    go_wp2_with fail
                    go_roundw
                    case rel => exact ⟨k + 1, by omega, by go_num, by rw [hst.out]; exact hs6.out.lights _ _, ((hEe.out).set 6 _).set 7 _⟩
                    case measure => simp [intOf]; omega
                  · have hst := Lib.hid (hstep.out.trans (if_neg hn0))
                    have hn1 : ((tick - x.at_) == (0 : Int)) = false := by rw [beq_eq_false_iff_ne]; exact hn0
                    have hn0 := Lib.hid hn0
                    go_wp2_with fail
                    go_roundw
                    case rel => exact ⟨k + 1, by omega, by go_num, by rw [hst.out]; exact hs6.out, hEe.out⟩
                    case measure => simp [intOf]; omega
        · obtain rfl : k = L4.length := by omega
          rw [List.take_of_length_le (Nat.le_refl _), ← HS9.out] at hsk
          obtain ⟨s9, hs9⟩ : ∃ s9, m.sky place tick = s9 := ⟨_, rfl⟩
          rw [hs9] at hsk
          replace hs9 := Lib.hid hs9
          have hRr := Lib.hid (hRes4.out.but he (by omega))
          have hOr := Lib.hid (hown4.out.but he (by omega))
          have hEr := Lib.hid (ExtBut.ext hEw4 he (by omega))
          obtain ⟨A9, c9, rfl, hR9⟩ := hOr.out.rows (fun _ => rfl) (by omega)
          have hA9 : ∀ b off, A9 = some ⟨b, off, none⟩ → w2.heap.size ≤ b := fun b off h => (hOr.out.lt (g := b) (by rw [h]; rfl)).1
          replace hR9 := Lib.hid hR9
          replace hA9 := Lib.hid hA9
          obtain ⟨l9, s0, s1, s2, s3, s4, s5, s6, s7, sf⟩ := hsk
          obtain ⟨lr, r0, r1, r2, r3, r4, r5, r6, r7, rf⟩ := hRr.out
          go_wp2_with fail
          refine post_as (fun W => SkyAt W (w.heap.size + 1) s9 ∧ Ext w W ∧ Rows 1 encNs W A9 str.length str) ⟨hRr.out.put s9, ?_, ?_⟩ fun W => ?_
          · have h1 := hEr.out
            exact (by with_reducible (repeat first | assumption | exact Ext.refl _ | refine Ext.set ?_ (by omega) _ | refine Ext.alloc ?_ _ | refine Ext.drew ?_ | refine Ext.drewN ?_ _ | refine Ext.trans ?_ (by assumption)))
          · exact hR9.out.but ((((((((((ExtBut.refl (w.heap.size + 1) wr).set _ _).set _ _).set _ _).set _ _).set _ _).set _ _).set _ _).set _ _)) (fun _ b off h => by have := hA9.out b off h; omega)
          · rintro ⟨⟨p0, p1, p2, p3, p4, p5, p6, p7, p8, pf⟩, hEW, hRW⟩
            refine bodyPost_ret (v := .tuple #[s9.val, .slice A9 str.length c9]) ?_ rfl ⟨A9, c9, by rw [hstr9.out, hs9.out], hEW, by rw [hstr9.out]; exact hRW⟩
            simp [results, go_sem, p1, p2, p3, p4, p5, p6, p7, p8]
end Go.Proofs.YtmmimbcfgobnaaaGreat
