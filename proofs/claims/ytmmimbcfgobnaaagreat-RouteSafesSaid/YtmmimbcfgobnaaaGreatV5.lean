/- The reference: havens, checkTick, Havens. -/
import Derived.Test.YtmmimbcfgobnaaaGreatV4
import Derived.Test.YtmmimbcfgobnaaaGreatQ12
set_option linter.unusedVariables false
set_option linter.unusedSimpArgs false
namespace Go.Proofs.YtmmimbcfgobnaaaGreat
open Go.RowKit
attribute [local go_sem] stored_match isSome_setCell

/-- A met, minima and a flight, boxed at b and at the two blocks behind it. -/
structure Box3 (I : Inp) (b : Nat) (w : World) : Prop where
  met : MetBox I.m (.slice I.AF I.nF I.cF) (.slice I.AS I.nS I.cS) b w
  min : MinAt w (b + 1) I.l
  lt : b + 1 + 1 < w.heap.size
  f0 : w.cell? ⟨b + 1 + 1, 0, none⟩ = some (.slice I.AR I.nR I.cR)
  f1 : w.cell? ⟨b + 1 + 1, 1, none⟩ = some (.int .i64 I.f.depart)
  f2 : w.cell? ⟨b + 1 + 1, 2, none⟩ = some (.int .i64 I.f.fuel)
  f3 : w.cell? ⟨b + 1 + 1, 3, none⟩ = some (.int .i64 I.f.burn)
  f4 : w.cell? ⟨b + 1 + 1, 4, none⟩ = some (.int .i64 I.f.reserve)
theorem Box3.ext {I : Inp} {b : Nat} {w w' : World} (h : Box3 I b w) (e : Ext w w') : Box3 I b w' := by
  obtain ⟨c, _, z⟩ := e.cells
  exact ⟨h.met.ext e, h.min.ext e, z _ h.lt, (c _ _ h.lt).trans h.f0, (c _ _ h.lt).trans h.f1, (c _ _ h.lt).trans h.f2, (c _ _ h.lt).trans h.f3, (c _ _ h.lt).trans h.f4⟩
theorem Plan.keeps_ref (P : Plan) (tick : Int) (k : Nat) {h : Haven} {is : Bool} (hx : P.reach tick k = (h, is)) : P.keeps tick false k = (is && decide (0 ≤ h.at_) && decide (h.at_ ≤ 2000) && P.f.lasts h.at_ && (P.N.met.opened P.l k h.at_).1) := by
  have hp : h.place = k := by have := P.reach_place (tick := tick) (place := k); rw [hx] at this; exact this
  unfold Plan.keeps Plan.opens
  rw [hx, hp]
  cases is
  · rfl
  · by_cases hc : checkOpen P.N.met P.l k h.at_ = 0
    · have ho : P.N.met.opened P.l k h.at_ = (P.N.met.isOpen P.l k h.at_, 0) := by unfold Met.opened; rw [if_pos hc]
      have h0 : 0 ≤ h.at_ := by
        unfold checkOpen at hc
        by_cases h1 : checkMinima P.N.met P.l = 0
        · rw [if_pos h1] at hc; exact (checkAt_zero hc).2.2.1
        · rw [if_neg h1] at hc; exact absurd hc h1
      rw [ho, decide_eq_true h0]
      simp
      cases P.f.lasts h.at_ <;> simp
    · have ho : P.N.met.opened P.l k h.at_ = (false, checkOpen P.N.met P.l k h.at_) := by unfold Met.opened; rw [if_neg hc]
      rw [ho]
      simp
set_option maxRecDepth 100000 in
set_option maxHeartbeats 2000000 in
theorem havens_60 (I : Inp) (tick : Int) (w : World) (h : I.In w) (hn : I.N.good = true) (hf : I.f.good I.m.places I.N.L = true) (t0 : I.f.depart ≤ tick) (t1 : tick ≤ I.f.arrival I.N.L) :
    Calls Tryz.prog 60 #[I.vm, I.l.val, I.vn, I.vf, .int .i64 tick] w (HvPost (I.P.all tick false) w) := by
  obtain ⟨-, -, ⟨n1, n2, n3, n4⟩, -, -⟩ := Net.good_parts hn
  have hbd := Lib.hid (fun place => I.P.reach_bd (place := place) hn hf t0 t1)
  have hfp := Lib.hid (Flight.good_parts hf).1
  replace hn := Lib.hid hn
  replace hf := Lib.hid hf
  replace t0 := Lib.hid t0
  replace t1 := Lib.hid t1
  simp only [Inp.vm, Inp.vn, Inp.vf, Met.val, Flight.val, Minima.val]
  go_enter Tryz.func60, Tryz.ntmps60
  go_upto_region 1 with (fail)
  refine name_as (P := fun W => Box3 I w.heap.size W ∧ Ext w W) (R := fun W => Code.wp _ _ _ _ W) ⟨⟨⟨by first | (simp; done) | (simp; omega), by go_simp, by go_simp, by go_simp, by go_simp, by go_simp, by go_simp, by go_simp, by go_simp, by go_simp, by go_simp, by go_simp, by go_simp, by go_simp, by go_simp⟩, ⟨by first | (simp; done) | (simp; omega), by go_simp, by go_simp, by go_simp, by go_simp, by go_simp⟩, by simp, by go_simp, by go_simp, by go_simp, by go_simp, by go_simp⟩, (by with_reducible (repeat first | assumption | exact Ext.refl _ | refine Ext.set ?_ (by omega) _ | refine Ext.alloc ?_ _ | refine Ext.drew ?_ | refine Ext.drewN ?_ _ | refine Ext.trans ?_ (by assumption)))⟩ fun W1 ⟨hB, hxw⟩ => ?_
  replace hB := Lib.hid hB
  have hs1 := hxw.size
  go_wp2_with fail
  go_loopw [11, 12] (fun v i wr => ∃ k : Nat, k ≤ I.N.n ∧ i = .int .i64 k ∧ Owns 46 3 Haven.enc wr W1.heap.size v (I.P.havens tick false k) ∧ Ext W1 wr) (fun _ i _ => I.N.n - (intOf i).toNat)
  case atStart => exact ⟨0, Nat.zero_le _, rfl, Owns.nil _ _ _ _ _, Ext.refl _⟩
  case round =>
    obtain ⟨k, hk, rfl, hown, he⟩ := hrel
    obtain ⟨⟨lb, p0, p1, p2, p3, p4, p5, p6, p7, p8, p9, p10, p11, p12, p13⟩, ⟨lm, m0, m1, m2, m3, m4⟩, lf, f0, f1, f2, f3, f4⟩ := hB.out.ext he
    have hIr := Lib.hid (h.ext (hxw.trans he))
    have hes := he.size
    by_cases hlt : k < I.N.n
    · have hlt2 : (k : Int) < I.m.places := by omega
      obtain ⟨⟨hv, is⟩, hx⟩ : ∃ x, I.P.reach tick k = x := ⟨_, rfl⟩
      have hpl : hv.place = k := by have := I.P.reach_place (tick := tick) (place := k); rw [hx] at this; exact this
      have hb := hbd.out (k : Int)
      rw [hx] at hb
      obtain ⟨b1, b2⟩ := hb
      dsimp only at b1 b2
      have hkp := I.P.keeps_ref tick k hx
      have hsucc := Lib.hid (I.P.havens_succ tick false k)
      have hle := I.P.havens_length tick false k
      have hr1 := show (I.P.reach tick k).1 = hv by rw [hx]
      replace hr1 := Lib.hid hr1
      have h47 : I.P.at47 tick k = if is = true then (hv.at_, hv.back) else (-1, false) := by unfold Plan.at47; rw [hx]
      replace hx := Lib.hid hx
      replace hown := Lib.hid hown
      have hpl := Lib.hid hpl
      cases is
      · have hkf := Lib.hid (show I.P.keeps tick false k = false by rw [hkp]; rfl)
        replace h47 := Lib.hid (show I.P.at47 tick k = (-1, false) from h47)
        clear hkp
        go_wp2_with (go_at_call 47; refine (Reach_47 I tick k _ (hIr.out.ext (by with_reducible (repeat first | assumption | exact Ext.refl _ | refine Ext.set ?_ (by omega) _ | refine Ext.alloc ?_ _ | refine Ext.drew ?_ | refine Ext.drewN ?_ _ | refine Ext.trans ?_ (by assumption)))) hn.out hf.out t0.out t1.out hlt).mono ?_; rw [h47.out]; rintro e1 w2 ⟨rfl, hb2⟩; have hx2 : Ext wr w2 := (by with_reducible (repeat first | assumption | exact Ext.refl _ | refine Ext.set ?_ (by omega) _ | refine Ext.alloc ?_ _ | refine Ext.drew ?_ | refine Ext.drewN ?_ _ | refine Ext.trans ?_ (by assumption))); obtain ⟨hc2, hf2, hz2⟩ := hx2.cells; have hs2 := hb2.size)
        go_roundw
        case rel => exact ⟨k + 1, by omega, by go_num, by rw [hsucc.out, if_neg (by simp [hkf.out]), List.append_nil]; exact hown.out.ext (by with_reducible (repeat first | assumption | exact Ext.refl _ | refine Ext.set ?_ (by omega) _ | refine Ext.alloc ?_ _ | refine Ext.drew ?_ | refine Ext.drewN ?_ _ | refine Ext.trans ?_ (by assumption))), (by with_reducible (repeat first | assumption | exact Ext.refl _ | refine Ext.set ?_ (by omega) _ | refine Ext.alloc ?_ _ | refine Ext.drew ?_ | refine Ext.drewN ?_ _ | refine Ext.trans ?_ (by assumption)))⟩
        case measure => simp [intOf]; omega
      · replace h47 := Lib.hid (show I.P.at47 tick k = (hv.at_, hv.back) from h47)
        by_cases c1 : hv.at_ < 0
        · have hkf := Lib.hid (show I.P.keeps tick false k = false by rw [hkp, decide_eq_false (show ¬ 0 ≤ hv.at_ by omega)]; rfl)
          clear hkp
          go_wp2_with (go_at_call 47; refine (Reach_47 I tick k _ (hIr.out.ext (by with_reducible (repeat first | assumption | exact Ext.refl _ | refine Ext.set ?_ (by omega) _ | refine Ext.alloc ?_ _ | refine Ext.drew ?_ | refine Ext.drewN ?_ _ | refine Ext.trans ?_ (by assumption)))) hn.out hf.out t0.out t1.out hlt).mono ?_; rw [h47.out]; rintro e1 w2 ⟨rfl, hb2⟩; have hx2 : Ext wr w2 := (by with_reducible (repeat first | assumption | exact Ext.refl _ | refine Ext.set ?_ (by omega) _ | refine Ext.alloc ?_ _ | refine Ext.drew ?_ | refine Ext.drewN ?_ _ | refine Ext.trans ?_ (by assumption))); obtain ⟨hc2, hf2, hz2⟩ := hx2.cells; have hs2 := hb2.size)
          go_roundw
          case rel => exact ⟨k + 1, by omega, by go_num, by rw [hsucc.out, if_neg (by simp [hkf.out]), List.append_nil]; exact hown.out.ext (by with_reducible (repeat first | assumption | exact Ext.refl _ | refine Ext.set ?_ (by omega) _ | refine Ext.alloc ?_ _ | refine Ext.drew ?_ | refine Ext.drewN ?_ _ | refine Ext.trans ?_ (by assumption))), (by with_reducible (repeat first | assumption | exact Ext.refl _ | refine Ext.set ?_ (by omega) _ | refine Ext.alloc ?_ _ | refine Ext.drew ?_ | refine Ext.drewN ?_ _ | refine Ext.trans ?_ (by assumption)))⟩
          case measure => simp [intOf]; omega
        · by_cases c2 : 2000 < hv.at_
          · have hkf := Lib.hid (show I.P.keeps tick false k = false by rw [hkp, decide_eq_false (show ¬ hv.at_ ≤ 2000 by omega)]; simp)
            clear hkp
            go_wp2_with (go_at_call 47; refine (Reach_47 I tick k _ (hIr.out.ext (by with_reducible (repeat first | assumption | exact Ext.refl _ | refine Ext.set ?_ (by omega) _ | refine Ext.alloc ?_ _ | refine Ext.drew ?_ | refine Ext.drewN ?_ _ | refine Ext.trans ?_ (by assumption)))) hn.out hf.out t0.out t1.out hlt).mono ?_; rw [h47.out]; rintro e1 w2 ⟨rfl, hb2⟩; have hx2 : Ext wr w2 := (by with_reducible (repeat first | assumption | exact Ext.refl _ | refine Ext.set ?_ (by omega) _ | refine Ext.alloc ?_ _ | refine Ext.drew ?_ | refine Ext.drewN ?_ _ | refine Ext.trans ?_ (by assumption))); obtain ⟨hc2, hf2, hz2⟩ := hx2.cells; have hs2 := hb2.size)
            go_roundw
            case rel => exact ⟨k + 1, by omega, by go_num, by rw [hsucc.out, if_neg (by simp [hkf.out]), List.append_nil]; exact hown.out.ext (by with_reducible (repeat first | assumption | exact Ext.refl _ | refine Ext.set ?_ (by omega) _ | refine Ext.alloc ?_ _ | refine Ext.drew ?_ | refine Ext.drewN ?_ _ | refine Ext.trans ?_ (by assumption))), (by with_reducible (repeat first | assumption | exact Ext.refl _ | refine Ext.set ?_ (by omega) _ | refine Ext.alloc ?_ _ | refine Ext.drew ?_ | refine Ext.drewN ?_ _ | refine Ext.trans ?_ (by assumption)))⟩
            case measure => simp [intOf]; omega
          · rw [decide_eq_true (show 0 ≤ hv.at_ by omega), decide_eq_true (show hv.at_ ≤ 2000 by omega), Bool.true_and, Bool.true_and, Bool.true_and] at hkp
            rcases Bool.eq_false_or_eq_true (I.f.lasts hv.at_) with hl | hl
            · obtain ⟨⟨o, c⟩, ho⟩ : ∃ x, I.m.opened I.l k hv.at_ = x := ⟨_, rfl⟩
              rw [show I.P.f.lasts hv.at_ = true from hl, show I.P.N.met.opened I.P.l k hv.at_ = (o, c) from ho, Bool.true_and] at hkp
              replace hl := Lib.hid hl
              replace ho := Lib.hid ho
              replace hkp := Lib.hid hkp
              cases o
              · go_upto_region 6 with (go_at_call 47; refine (Reach_47 I tick k _ (hIr.out.ext (by with_reducible (repeat first | assumption | exact Ext.refl _ | refine Ext.set ?_ (by omega) _ | refine Ext.alloc ?_ _ | refine Ext.drew ?_ | refine Ext.drewN ?_ _ | refine Ext.trans ?_ (by assumption)))) hn.out hf.out t0.out t1.out hlt).mono ?_; rw [h47.out]; rintro e1 w2 ⟨rfl, hb2⟩; have hx2 : Ext wr w2 := (by with_reducible (repeat first | assumption | exact Ext.refl _ | refine Ext.set ?_ (by omega) _ | refine Ext.alloc ?_ _ | refine Ext.drew ?_ | refine Ext.drewN ?_ _ | refine Ext.trans ?_ (by assumption))); obtain ⟨hc2, hf2, hz2⟩ := hx2.cells; have hs2 := hb2.size)
                have c1' : ¬ hv.at_ < 0 := by omega
                have c2' : ¬ 2000 < hv.at_ := by omega
                go_wp2_with (first | (go_at_call 83; refine (lasts_83 I hv.at_ (by omega) (by omega) _ hfp.out).mono ?_; rw [hl.out]; rintro e1 w3 ⟨rfl, hb3⟩; have hx3 : Ext wr w3 := (by with_reducible (repeat first | assumption | exact Ext.refl _ | refine Ext.set ?_ (by omega) _ | refine Ext.alloc ?_ _ | refine Ext.drew ?_ | refine Ext.drewN ?_ _ | refine Ext.trans ?_ (by assumption))); obtain ⟨hc3, hf3, hz3⟩ := hx3.cells; have hs3 := hb3.size) | (go_at_call 91; refine (Open_91 I.m I.l k hv.at_ I.AF I.AS I.nF I.cF I.nS I.cS _ (hIr.out.met.ext (by with_reducible (repeat first | assumption | exact Ext.refl _ | refine Ext.set ?_ (by omega) _ | refine Ext.alloc ?_ _ | refine Ext.drew ?_ | refine Ext.drewN ?_ _ | refine Ext.trans ?_ (by assumption))))).mono ?_; rw [ho.out]; rintro e1 w4 ⟨rfl, hb4⟩; have hx4 : Ext wr w4 := (by with_reducible (repeat first | assumption | exact Ext.refl _ | refine Ext.set ?_ (by omega) _ | refine Ext.alloc ?_ _ | refine Ext.drew ?_ | refine Ext.drewN ?_ _ | refine Ext.trans ?_ (by assumption))); obtain ⟨hc4, hf4, hz4⟩ := hx4.cells; have hs4 := hb4.size))
                go_roundw
                case rel => exact ⟨k + 1, by omega, by go_num, by rw [hsucc.out, if_neg (by simp [hkp.out]), List.append_nil]; exact hown.out.ext (by with_reducible (repeat first | assumption | exact Ext.refl _ | refine Ext.set ?_ (by omega) _ | refine Ext.alloc ?_ _ | refine Ext.drew ?_ | refine Ext.drewN ?_ _ | refine Ext.trans ?_ (by assumption))), (by with_reducible (repeat first | assumption | exact Ext.refl _ | refine Ext.set ?_ (by omega) _ | refine Ext.alloc ?_ _ | refine Ext.drew ?_ | refine Ext.drewN ?_ _ | refine Ext.trans ?_ (by assumption)))⟩
                case measure => simp [intOf]; omega
              · have hq1 := Lib.hid (show (I.P.havens tick false k).length ≤ 1000000000 by omega)
                have hq2 := Lib.hid (fun g (hg : u11.ownBlock = some g) => (hown.out.lt hg).1)
                go_upto_region 6 with (go_at_call 47; refine (Reach_47 I tick k _ (hIr.out.ext (by with_reducible (repeat first | assumption | exact Ext.refl _ | refine Ext.set ?_ (by omega) _ | refine Ext.alloc ?_ _ | refine Ext.drew ?_ | refine Ext.drewN ?_ _ | refine Ext.trans ?_ (by assumption)))) hn.out hf.out t0.out t1.out hlt).mono ?_; rw [h47.out]; rintro e1 w2 ⟨rfl, hb2⟩; have hx2 : Ext wr w2 := (by with_reducible (repeat first | assumption | exact Ext.refl _ | refine Ext.set ?_ (by omega) _ | refine Ext.alloc ?_ _ | refine Ext.drew ?_ | refine Ext.drewN ?_ _ | refine Ext.trans ?_ (by assumption))); obtain ⟨hc2, hf2, hz2⟩ := hx2.cells; have hs2 := hb2.size)
                have c1' : ¬ hv.at_ < 0 := by omega
                have c2' : ¬ 2000 < hv.at_ := by omega
                go_wp2_with (first | (go_at_call 83; refine (lasts_83 I hv.at_ (by omega) (by omega) _ hfp.out).mono ?_; rw [hl.out]; rintro e1 w3 ⟨rfl, hb3⟩; have hx3 : Ext wr w3 := (by with_reducible (repeat first | assumption | exact Ext.refl _ | refine Ext.set ?_ (by omega) _ | refine Ext.alloc ?_ _ | refine Ext.drew ?_ | refine Ext.drewN ?_ _ | refine Ext.trans ?_ (by assumption))); obtain ⟨hc3, hf3, hz3⟩ := hx3.cells; have hs3 := hb3.size) | (go_at_call 91; refine (Open_91 I.m I.l k hv.at_ I.AF I.AS I.nF I.cF I.nS I.cS _ (hIr.out.met.ext (by with_reducible (repeat first | assumption | exact Ext.refl _ | refine Ext.set ?_ (by omega) _ | refine Ext.alloc ?_ _ | refine Ext.drew ?_ | refine Ext.drewN ?_ _ | refine Ext.trans ?_ (by assumption))))).mono ?_; rw [ho.out]; rintro e1 w4 ⟨rfl, hb4⟩; have hx4 : Ext wr w4 := (by with_reducible (repeat first | assumption | exact Ext.refl _ | refine Ext.set ?_ (by omega) _ | refine Ext.alloc ?_ _ | refine Ext.drew ?_ | refine Ext.drewN ?_ _ | refine Ext.trans ?_ (by assumption))); obtain ⟨hc4, hf4, hz4⟩ := hx4.cells; have hs4 := hb4.size) | (at_builtin; go_loud (refine append_one e_haven Haven.enc (fun _ => rfl) haven_one rfl _ _ rfl W1.heap.size u11 (I.P.havens tick false k) rfl (⟨k, hv.at_, hv.back⟩ : Haven) #[.int .i64 k, .int .i64 hv.at_, .bool hv.back] rfl _ rfl (by first | rfl | simp) (hown.out.ext (by with_reducible (repeat first | assumption | exact Ext.refl _ | refine Ext.set ?_ (by omega) _ | refine Ext.alloc ?_ _ | refine Ext.drew ?_ | refine Ext.drewN ?_ _ | refine Ext.trans ?_ (by assumption)))) (Nat.le_trans hes hx4.size) hq1.out ?_); intro v' w5 hown2 hgrow))
                go_roundw
                case rel => exact ⟨k + 1, by omega, by go_num, by rw [hsucc.out, if_pos hkp.out, hr1.out, show hv = (⟨k, hv.at_, hv.back⟩ : Haven) by rw [← hpl.out]]; exact hown2, grown_ext W1 (by with_reducible (repeat first | assumption | exact Ext.refl _ | refine Ext.set ?_ (by omega) _ | refine Ext.alloc ?_ _ | refine Ext.drew ?_ | refine Ext.drewN ?_ _ | refine Ext.trans ?_ (by assumption))) (Nat.le_refl _) (fun g hg => hq2.out g hg) hgrow⟩
                case measure => simp [intOf]; omega
            · rw [show I.P.f.lasts hv.at_ = false from hl, Bool.false_and] at hkp
              replace hl := Lib.hid hl
              replace hkp := Lib.hid hkp
              go_upto_region 6 with (go_at_call 47; refine (Reach_47 I tick k _ (hIr.out.ext (by with_reducible (repeat first | assumption | exact Ext.refl _ | refine Ext.set ?_ (by omega) _ | refine Ext.alloc ?_ _ | refine Ext.drew ?_ | refine Ext.drewN ?_ _ | refine Ext.trans ?_ (by assumption)))) hn.out hf.out t0.out t1.out hlt).mono ?_; rw [h47.out]; rintro e1 w2 ⟨rfl, hb2⟩; have hx2 : Ext wr w2 := (by with_reducible (repeat first | assumption | exact Ext.refl _ | refine Ext.set ?_ (by omega) _ | refine Ext.alloc ?_ _ | refine Ext.drew ?_ | refine Ext.drewN ?_ _ | refine Ext.trans ?_ (by assumption))); obtain ⟨hc2, hf2, hz2⟩ := hx2.cells; have hs2 := hb2.size)
              have c1' : ¬ hv.at_ < 0 := by omega
              have c2' : ¬ 2000 < hv.at_ := by omega
              go_wp2_with (first | (go_at_call 83; refine (lasts_83 I hv.at_ (by omega) (by omega) _ hfp.out).mono ?_; rw [hl.out]; rintro e1 w3 ⟨rfl, hb3⟩; have hx3 : Ext wr w3 := (by with_reducible (repeat first | assumption | exact Ext.refl _ | refine Ext.set ?_ (by omega) _ | refine Ext.alloc ?_ _ | refine Ext.drew ?_ | refine Ext.drewN ?_ _ | refine Ext.trans ?_ (by assumption))); obtain ⟨hc3, hf3, hz3⟩ := hx3.cells; have hs3 := hb3.size))
              go_roundw
              case rel => exact ⟨k + 1, by omega, by go_num, by rw [hsucc.out, if_neg (by simp [hkp.out]), List.append_nil]; exact hown.out.ext (by with_reducible (repeat first | assumption | exact Ext.refl _ | refine Ext.set ?_ (by omega) _ | refine Ext.alloc ?_ _ | refine Ext.drew ?_ | refine Ext.drewN ?_ _ | refine Ext.trans ?_ (by assumption))), (by with_reducible (repeat first | assumption | exact Ext.refl _ | refine Ext.set ?_ (by omega) _ | refine Ext.alloc ?_ _ | refine Ext.drew ?_ | refine Ext.drewN ?_ _ | refine Ext.trans ?_ (by assumption)))⟩
              case measure => simp [intOf]; omega
    · obtain rfl : k = I.N.n := by omega
      have hlt2 : ¬ ((I.N.n : Int) < I.m.places) := by omega
      replace hown := Lib.hid hown
      go_wp2_with fail
      go_ret
      exact ⟨_, rfl, hown.out.base hs1, (by with_reducible (repeat first | assumption | exact Ext.refl _ | refine Ext.set ?_ (by omega) _ | refine Ext.alloc ?_ _ | refine Ext.drew ?_ | refine Ext.drewN ?_ _ | refine Ext.trans ?_ (by assumption)))⟩
end Go.Proofs.YtmmimbcfgobnaaaGreat
