/- NoReturn: the reference's. Middle: the program's and the reference's. Middle: the reference's. -/
import Derived.Test.YtmmimbcfgobnaaaGreatQ10
import Derived.Test.YtmmimbcfgobnaaaGreatT0
set_option linter.unusedVariables false
set_option linter.unusedSimpArgs false
namespace Go.Proofs.YtmmimbcfgobnaaaGreat
open Go.RowKit
set_option linter.unusedVariables false
set_option linter.unusedSimpArgs false
attribute [local go_sem] stored_match isSome_setCell

/-- A met and a flight, boxed at b and at the block behind it. -/
structure Boxed2 (I : Inp) (b : Nat) (w : World) : Prop where
  p0 : w.cell? ⟨b, 0, none⟩ = some (.int .i64 I.m.places)
  p1 : w.cell? ⟨b, 1, none⟩ = some (.int .i64 I.m.any.w.lo)
  p2 : w.cell? ⟨b, 2, none⟩ = some (.int .i64 I.m.any.w.hi)
  p3 : w.cell? ⟨b, 3, none⟩ = some (.int .i64 I.m.any.s.lo)
  p4 : w.cell? ⟨b, 4, none⟩ = some (.int .i64 I.m.any.s.hi)
  p5 : w.cell? ⟨b, 5, none⟩ = some (.int .i64 I.m.any.c.lo)
  p6 : w.cell? ⟨b, 6, none⟩ = some (.int .i64 I.m.any.c.hi)
  p7 : w.cell? ⟨b, 7, none⟩ = some (.bool I.m.any.ice)
  p8 : w.cell? ⟨b, 8, none⟩ = some (.bool I.m.any.storm)
  p9 : w.cell? ⟨b, 9, none⟩ = some (.int .i64 I.m.wind)
  p10 : w.cell? ⟨b, 10, none⟩ = some (.int .i64 I.m.see)
  p11 : w.cell? ⟨b, 11, none⟩ = some (.int .i64 I.m.ceil)
  p12 : w.cell? ⟨b, 12, none⟩ = some (.slice I.AF I.nF I.cF)
  p13 : w.cell? ⟨b, 13, none⟩ = some (.slice I.AS I.nS I.cS)
  f0 : w.cell? ⟨b + 1, 0, none⟩ = some (.slice I.AR I.nR I.cR)
  f1 : w.cell? ⟨b + 1, 1, none⟩ = some (.int .i64 I.f.depart)
  f2 : w.cell? ⟨b + 1, 2, none⟩ = some (.int .i64 I.f.fuel)
  f3 : w.cell? ⟨b + 1, 3, none⟩ = some (.int .i64 I.f.burn)
  f4 : w.cell? ⟨b + 1, 4, none⟩ = some (.int .i64 I.f.reserve)
  lt : b + 1 < w.heap.size
theorem Boxed2.ext {I : Inp} {b : Nat} {w w' : World} (h : Boxed2 I b w) (e : Ext w w') : Boxed2 I b w' := by
  obtain ⟨c, _, z⟩ := e.cells
  have l := h.lt
  exact ⟨(c _ _ (by omega)).trans h.p0, (c _ _ (by omega)).trans h.p1, (c _ _ (by omega)).trans h.p2, (c _ _ (by omega)).trans h.p3, (c _ _ (by omega)).trans h.p4, (c _ _ (by omega)).trans h.p5, (c _ _ (by omega)).trans h.p6, (c _ _ (by omega)).trans h.p7, (c _ _ (by omega)).trans h.p8, (c _ _ (by omega)).trans h.p9, (c _ _ (by omega)).trans h.p10, (c _ _ (by omega)).trans h.p11, (c _ _ (by omega)).trans h.p12, (c _ _ (by omega)).trans h.p13, (c _ _ l).trans h.f0, (c _ _ l).trans h.f1, (c _ _ l).trans h.f2, (c _ _ l).trans h.f3, (c _ _ l).trans h.f4, z _ l⟩
theorem Boxed2.new (I : Inp) (w : World) : Boxed2 I w.heap.size ((w.alloc (.cells #[.int .i64 I.m.places, .int .i64 I.m.any.w.lo, .int .i64 I.m.any.w.hi, .int .i64 I.m.any.s.lo, .int .i64 I.m.any.s.hi, .int .i64 I.m.any.c.lo, .int .i64 I.m.any.c.hi, .bool I.m.any.ice, .bool I.m.any.storm, .int .i64 I.m.wind, .int .i64 I.m.see, .int .i64 I.m.ceil, .slice I.AF I.nF I.cF, .slice I.AS I.nS I.cS] 29)).alloc (.cells #[.slice I.AR I.nR I.cR, .int .i64 I.f.depart, .int .i64 I.f.fuel, .int .i64 I.f.burn, .int .i64 I.f.reserve] 37)) := by
  have h0 := heap_old w (.cells #[.int .i64 I.m.places, .int .i64 I.m.any.w.lo, .int .i64 I.m.any.w.hi, .int .i64 I.m.any.s.lo, .int .i64 I.m.any.s.hi, .int .i64 I.m.any.c.lo, .int .i64 I.m.any.c.hi, .bool I.m.any.ice, .bool I.m.any.storm, .int .i64 I.m.wind, .int .i64 I.m.see, .int .i64 I.m.ceil, .slice I.AF I.nF I.cF, .slice I.AS I.nS I.cS] 29) (.cells #[.slice I.AR I.nR I.cR, .int .i64 I.f.depart, .int .i64 I.f.fuel, .int .i64 I.f.burn, .int .i64 I.f.reserve] 37)
  have h1 := heap_two w (.cells #[.int .i64 I.m.places, .int .i64 I.m.any.w.lo, .int .i64 I.m.any.w.hi, .int .i64 I.m.any.s.lo, .int .i64 I.m.any.s.hi, .int .i64 I.m.any.c.lo, .int .i64 I.m.any.c.hi, .bool I.m.any.ice, .bool I.m.any.storm, .int .i64 I.m.wind, .int .i64 I.m.see, .int .i64 I.m.ceil, .slice I.AF I.nF I.cF, .slice I.AS I.nS I.cS] 29) (.cells #[.slice I.AR I.nR I.cR, .int .i64 I.f.depart, .int .i64 I.f.fuel, .int .i64 I.f.burn, .int .i64 I.f.reserve] 37)
  generalize (w.alloc (.cells #[.int .i64 I.m.places, .int .i64 I.m.any.w.lo, .int .i64 I.m.any.w.hi, .int .i64 I.m.any.s.lo, .int .i64 I.m.any.s.hi, .int .i64 I.m.any.c.lo, .int .i64 I.m.any.c.hi, .bool I.m.any.ice, .bool I.m.any.storm, .int .i64 I.m.wind, .int .i64 I.m.see, .int .i64 I.m.ceil, .slice I.AF I.nF I.cF, .slice I.AS I.nS I.cS] 29)).alloc (.cells #[.slice I.AR I.nR I.cR, .int .i64 I.f.depart, .int .i64 I.f.fuel, .int .i64 I.f.burn, .int .i64 I.f.reserve] 37) = W at *
  refine ⟨?_, ?_, ?_, ?_, ?_, ?_, ?_, ?_, ?_, ?_, ?_, ?_, ?_, ?_, ?_, ?_, ?_, ?_, ?_, (Array.getElem?_eq_some_iff.1 h1).1⟩
  all_goals first | (simp only [World.cell?, h0]; rfl) | (simp only [World.cell?, h1]; rfl)
theorem Reach_47' (I : Inp) {A : Option Addr} (hA : I.AR = A) (tick : Int) (pl : Nat) (w : World) (h : I.In w) (hn : I.N.good = true) (hf : I.f.good I.m.places I.N.L = true) (t0 : I.f.depart ≤ tick) (t1 : tick ≤ I.f.arrival I.N.L) (p1 : pl < I.N.n) :
    Calls Tryz.prog 47 #[I.vm, I.vn, I.f.val (.slice A I.nR I.cR), .int .i64 tick, .int .i64 pl] w fun e w' => e = .returned (.tuple #[.int .i64 (I.P.at47 tick pl).1, .bool (I.P.at47 tick pl).2]) ∧ Ext w w' := by
  subst hA; exact Reach_47 I tick pl w h hn hf t0 t1 p1
theorem lasts_83' (I : Inp) {A : Option Addr} (hA : I.AR = A) (tick : Int) (t0 : -1000000 ≤ tick) (t1 : tick ≤ 1000000) (w : World) (hf : I.f.plain = true) :
    Calls Tryz.prog 83 #[I.f.val (.slice A I.nR I.cR), .int .i64 tick] w fun e w' => e = .returned (.bool (I.f.lasts tick)) ∧ Ext w w' := by
  subst hA; exact lasts_83 I tick t0 t1 w hf
set_option maxRecDepth 100000 in
set_option maxHeartbeats 2000000 in
theorem NoReturn_38 (I : Inp) (w : World) (h : I.In w) :
    Calls Tryz.prog 38 #[I.vm, I.vn, I.vf] w fun e w' => e = .returned (.tuple #[.int .i64 I.nr.1, .int .i64 I.nr.2]) ∧ Ext w w' := by
  simp only [Inp.vm, Inp.vn, Inp.vf, Met.val, Flight.val]
  by_cases hc : I.err0 = 0
  · have hnr := Lib.hid (show I.nr = I.P0.noRet by unfold Inp.nr; rw [if_pos hc])
    obtain ⟨hn, hf⟩ := Inp.err0_good hc
    obtain ⟨⟨l1, l2⟩, ⟨d1, d2⟩, -⟩ := Flight.plain_parts (Flight.good_parts hf).1
    have ha := (Flight.good_parts hf).2.2.2
    obtain ⟨x0, x1⟩ := Flight.place_ok hn hf 0 (Nat.zero_le _)
    have n2 := (Net.good_parts hn).2.2.1.1
    have hpl : I.f.route.getD 0 0 < I.P0.N.met.places := by show _ < I.N.met.places; omega
    have hda : I.f.depart ≤ I.f.arrival I.N.L := (Flight.at_step (Net.good_parts hn).2.2.2.1 hf I.f.last (by unfold Flight.last; omega)).1
    have hti : (I.P0.ticks : Int) = I.f.arrival I.N.L - I.f.depart + 1 := by unfold Plan.ticks; show ((I.f.arrival I.N.L - I.f.depart + 1).toNat : Int) = _; omega
    have hon := Lib.hid (fun (t : Int) (t0 : I.f.depart ≤ t) (t1 : t ≤ I.f.arrival I.N.L) => And.intro (I.P0.reach_on hn hf (tick := t) t0 t1 (j := 0) (Nat.zero_le _)) (I.P0.reach_bd hn hf (place := I.f.route.getD 0 0) t0 t1))
    have hc := Lib.hid hc
    have hf0 := Lib.hid (Flight.good_parts hf).1
    have hn := Lib.hid hn
    have hf := Lib.hid hf
    have hgs := getD_some (r := I.f.route) (i := 0) (by omega)
    have hgo : ∀ k : Nat, I.P0.gone k = !I.f.lasts (I.P0.home (I.f.arrival I.N.L - k)) := fun k => rfl
    have hho : ∀ t, I.P0.home t = (I.P0.reach t (I.f.route.getD 0 0)).1.at_ := fun t => rfl
    have hgo := Lib.hid hgo
    have hho := Lib.hid hho
    have hnn := Lib.hid (fun (k : Nat) h1 h2 h3 => (I.P0.noRet_at (k := k) h1 h2 h3 : I.P0.noRet = (I.f.arrival I.N.L - k, 0)))
    have hno := Lib.hid (Plan.noRet_none (P := I.P0))
    generalize harr : I.f.arrival I.N.L = arr at *
    have harr := Lib.hid harr
    generalize I.f.route.getD 0 0 = x at *
    obtain ⟨xn, rfl⟩ := Int.eq_ofNat_of_zero_le x0
    have hxn : xn < I.N.n := by omega
    go_enter Tryz.func38, Tryz.ntmps38
    go_upto_region 1 with (fail)
    refine name_world_as (P := fun W => Boxed2 I w.heap.size W ∧ Ext w W) (R := fun W => Code.wp _ _ _ _ W) ⟨Boxed2.new I w, (by with_reducible (repeat first | assumption | exact Ext.refl _ | refine Ext.set ?_ (by omega) _ | refine Ext.alloc ?_ _ | refine Ext.drew ?_ | refine Ext.drewN ?_ _ | refine Ext.trans ?_ (by assumption)))⟩ fun W1 ⟨hB, hxw⟩ => ?_
    have hBx := Lib.hid hB
    obtain ⟨p0, p1, p2, p3, p4, p5, p6, p7, p8, p9, p10, p11, p12, p13, f0, f1, f2, f3, f4, lb⟩ := hB
    have lb0 : w.heap.size < W1.heap.size := by omega
    go_wp2_with (first | (go_at_call 25; refine (Check_25 I _ (h.ext (by with_reducible (repeat first | assumption | exact Ext.refl _ | refine Ext.set ?_ (by omega) _ | refine Ext.alloc ?_ _ | refine Ext.drew ?_ | refine Ext.drewN ?_ _ | refine Ext.trans ?_ (by assumption))))).mono ?_; rw [hc.out]; rintro e1 w1 ⟨rfl, hb1⟩; obtain ⟨hc1, hf1, hz1⟩ := hb1.cells; have hs1 := hb1.size) | (go_at_call 80; refine (end_80 I _ (h.ext (by with_reducible (repeat first | assumption | exact Ext.refl _ | refine Ext.set ?_ (by omega) _ | refine Ext.alloc ?_ _ | refine Ext.drew ?_ | refine Ext.drewN ?_ _ | refine Ext.trans ?_ (by assumption)))) hn.out hf.out).mono ?_; rw [harr.out]; rintro e1 w2 ⟨rfl, hb2⟩; obtain ⟨hc2, hf2, hz2⟩ := hb2.cells; have hs2 := hb2.size))
    have hx2 : Ext W1 w2 := hb1.trans hb2
    have hw2 : Ext w w2 := hxw.trans hx2
    clear p0 p1 p2 p3 p4 p5 p6 p7 p8 p9 p10 p11 p12 p13 f0 f1 f2 f3 f4 lb lb0 hc1 hf1 hz1 hc2 hf2 hz2
    go_loopw [9] (fun i wr => ∃ k : Nat, k ≤ I.P0.ticks ∧ i = .int .i64 (arr - k) ∧ (∀ j, j < k → I.P0.gone j = true) ∧ Ext w2 wr) (fun i _ => (intOf i - I.f.depart + 1).toNat)
    case atStart => exact ⟨0, Nat.zero_le _, by simp, fun j hj => absurd hj (Nat.not_lt_zero _), Ext.refl _⟩
    case round =>
      obtain ⟨k, hk, rfl, hlow, he⟩ := hrel
      have hlow := Lib.hid hlow
      have hxr : Ext W1 wr := hx2.trans he
      obtain ⟨p0, p1, p2, p3, p4, p5, p6, p7, p8, p9, p10, p11, p12, p13, f0, f1, f2, f3, f4, lb⟩ := hBx.out.ext hxr
      have lb0 : w.heap.size < wr.heap.size := by omega
      have hIr := Lib.hid (h.ext (hw2.trans he))
      obtain ⟨b1, off1, hA, hb1', k1⟩ := hIr.out.route.intx (j := 0) (by rw [← hIr.out.route.len]; omega) hgs
      have l9 := hIr.out.route.len
      have l8 : (0 : Int) < (I.nR : Int) := by omega
      have l8n : 0 < I.nR := by omega
      simp only [Nat.add_zero] at k1
      rw [hA] at f0
      replace hA := Lib.hid hA
      by_cases hlt : k < I.P0.ticks
      · have t0 : I.f.depart ≤ arr - k := by omega
        have t1 : arr - (k : Int) ≤ arr := by omega
        obtain ⟨o1, o2, o3⟩ := hon.out (arr - k) t0 t1
        obtain ⟨⟨hv, is⟩, hx⟩ : ∃ y, I.P0.reach (arr - k) xn = y := ⟨_, rfl⟩
        have hh := hho.out (arr - k)
        rw [hx] at o1 o2 o3 hh
        obtain rfl : is = true := o1
        have hg := hgo.out k
        rw [hh] at hg
        have h47 := Lib.hid (show I.P.at47 (arr - k) xn = (hv.at_, hv.back) by
          have e : I.P.reach (arr - k) xn = (hv, true) := hx
          unfold Plan.at47; rw [e]; rfl)
        have hx := Lib.hid hx
        dsimp only at o2 o3 hg
        have t0' := Lib.hid t0
        rcases Bool.eq_false_or_eq_true (I.f.lasts hv.at_) with hl | hl
        · rw [hl] at hg
          have hres := Lib.hid (hnn.out k hlow.out hg hlt)
          go_wp2_with fail
          go_region_held3 (fun w' => HoldsAll wr w') ((with_reducible ((repeat refine HoldsAll.drew ?_); first | (first | assumption | exact HoldsAll.refl _ | exact HoldsAll.of_drew (by assumption)) | (refine HoldsAll.ext ?_ (by assumption); first | assumption | exact HoldsAll.refl _ | exact HoldsAll.of_drew (by assumption)) | (refine HoldsAll.alloc ?_ _; first | assumption | exact HoldsAll.refl _ | exact HoldsAll.of_drew (by assumption)) | exact HoldsAll.realloc (by first | assumption | exact HoldsAll.refl _ | exact HoldsAll.of_drew (by assumption)) (by omega) | ((repeat first | refine HoldsAll.fresh ?_ (by omega) _); first | assumption | exact HoldsAll.refl _ | exact HoldsAll.of_drew (by assumption))))) (first | (go_at_call 47; refine (Reach_47' I hA.out (arr - k) xn _ (hIr.out.ext (by with_reducible (repeat first | assumption | exact Ext.refl _ | refine Ext.set ?_ (by omega) _ | refine Ext.alloc ?_ _ | refine Ext.drew ?_ | refine Ext.drewN ?_ _ | refine Ext.trans ?_ (by assumption)))) hn.out hf.out t0'.out (by rw [harr.out]; omega) hxn).mono ?_; rw [h47.out]; rintro e1 w3 ⟨rfl, hb3⟩))
          go_wp2_with (first | (go_at_call 83; refine (lasts_83' I hA.out hv.at_ (by omega) (by omega) _ hf0.out).mono ?_; rw [hl]; rintro e1 w4 ⟨rfl, hb4⟩; obtain ⟨hc4, hf4, hz4⟩ := hb4.cells))
          go_ret2
          exact ⟨by rw [hnr.out, hres.out]; rfl, (by with_reducible (repeat first | assumption | exact Ext.refl _ | refine Ext.set ?_ (by omega) _ | refine Ext.alloc ?_ _ | refine Ext.drew ?_ | refine Ext.drewN ?_ _ | refine Ext.trans ?_ (by assumption)))⟩
        · rw [hl] at hg
          go_wp2_with fail
          go_region_held3 (fun w' => HoldsAll wr w') ((with_reducible ((repeat refine HoldsAll.drew ?_); first | (first | assumption | exact HoldsAll.refl _ | exact HoldsAll.of_drew (by assumption)) | (refine HoldsAll.ext ?_ (by assumption); first | assumption | exact HoldsAll.refl _ | exact HoldsAll.of_drew (by assumption)) | (refine HoldsAll.alloc ?_ _; first | assumption | exact HoldsAll.refl _ | exact HoldsAll.of_drew (by assumption)) | exact HoldsAll.realloc (by first | assumption | exact HoldsAll.refl _ | exact HoldsAll.of_drew (by assumption)) (by omega) | ((repeat first | refine HoldsAll.fresh ?_ (by omega) _); first | assumption | exact HoldsAll.refl _ | exact HoldsAll.of_drew (by assumption))))) (first | (go_at_call 47; refine (Reach_47' I hA.out (arr - k) xn _ (hIr.out.ext (by with_reducible (repeat first | assumption | exact Ext.refl _ | refine Ext.set ?_ (by omega) _ | refine Ext.alloc ?_ _ | refine Ext.drew ?_ | refine Ext.drewN ?_ _ | refine Ext.trans ?_ (by assumption)))) hn.out hf.out t0'.out (by rw [harr.out]; omega) hxn).mono ?_; rw [h47.out]; rintro e1 w3 ⟨rfl, hb3⟩))
          go_wp2_with (first | (go_at_call 83; refine (lasts_83' I hA.out hv.at_ (by omega) (by omega) _ hf0.out).mono ?_; rw [hl]; rintro e1 w4 ⟨rfl, hb4⟩; obtain ⟨hc4, hf4, hz4⟩ := hb4.cells))
          go_roundw
          case rel => exact ⟨k + 1, by omega, by congr 1; omega, fun j hj => (by rcases Nat.lt_or_ge j k with gg | gg; exact hlow.out j gg; obtain rfl : j = k := (by omega); exact hg), (by with_reducible (repeat first | assumption | exact Ext.refl _ | refine Ext.set ?_ (by omega) _ | refine Ext.alloc ?_ _ | refine Ext.drew ?_ | refine Ext.drewN ?_ _ | refine Ext.trans ?_ (by assumption)))⟩
          case measure => simp [intOf]; omega
      · obtain rfl : k = I.P0.ticks := by omega
        have hres := Lib.hid (hno.out hlow.out)
        have t0 : ¬ I.f.depart ≤ arr - (I.P0.ticks : Int) := by omega
        go_wp2_with fail
        go_ret2
        exact ⟨by rw [hnr.out, hres.out]; rfl, (by with_reducible (repeat first | assumption | exact Ext.refl _ | refine Ext.set ?_ (by omega) _ | refine Ext.alloc ?_ _ | refine Ext.drew ?_ | refine Ext.drewN ?_ _ | refine Ext.trans ?_ (by assumption)))⟩
  · have hnr := Lib.hid (show I.nr = (0, I.err0) by unfold Inp.nr; rw [if_neg hc])
    replace hc := Lib.hid hc
    have hbn : (I.err0 != (0 : Int)) = true := by rw [bne_iff_ne]; exact hc.out
    go_enter Tryz.func38, Tryz.ntmps38
    go_wp2_with (go_at_call 25; refine (Check_25 I _ (h.ext (by with_reducible (repeat first | assumption | exact Ext.refl _ | refine Ext.set ?_ (by omega) _ | refine Ext.alloc ?_ _ | refine Ext.drew ?_ | refine Ext.drewN ?_ _ | refine Ext.trans ?_ (by assumption))))).mono ?_; rintro e1 w1 ⟨rfl, hb1⟩; obtain ⟨hc1, hf1, hz1⟩ := hb1.cells)
    go_ret2
    exact ⟨by rw [hnr.out]; rfl, (by with_reducible (repeat first | assumption | exact Ext.refl _ | refine Ext.set ?_ (by omega) _ | refine Ext.alloc ?_ _ | refine Ext.drew ?_ | refine Ext.drewN ?_ _ | refine Ext.trans ?_ (by assumption)))⟩
end Go.Proofs.YtmmimbcfgobnaaaGreat
namespace Go.Proofs.YtmmimbcfgobnaaaGreat
open Go.RowKit
set_option linter.unusedVariables false
set_option linter.unusedSimpArgs false
attribute [local go_sem] stored_match isSome_setCell

def Inp.mid (I : Inp) : Int × Int := if I.err0 = 0 then (I.P0.middle, 0) else (0, I.err0)
set_option maxRecDepth 100000 in
set_option maxHeartbeats 2000000 in
theorem Middle_39 (I : Inp) (w : World) (h : I.In w) :
    Calls Tryz.prog 39 #[I.vm, I.vn, I.vf] w fun e w' => e = .returned (.tuple #[.int .i64 I.mid.1, .int .i64 I.mid.2]) ∧ Ext w w' := by
  simp only [Inp.vm, Inp.vn, Inp.vf, Met.val, Flight.val]
  by_cases hc : I.err0 = 0
  · have hnr := Lib.hid (show I.mid = (I.P0.middle, 0) by unfold Inp.mid; rw [if_pos hc])
    obtain ⟨hn, hf⟩ := Inp.err0_good hc
    obtain ⟨⟨l1, l2⟩, ⟨d1, d2⟩, -⟩ := Flight.plain_parts (Flight.good_parts hf).1
    have ha := (Flight.good_parts hf).2.2.2
    have hll : I.f.last + 1 = I.f.route.length := by unfold Flight.last; omega
    obtain ⟨x0, x1⟩ := Flight.place_ok hn hf 0 (Nat.zero_le _)
    obtain ⟨y0, y1⟩ := Flight.place_ok hn hf I.f.last (Nat.le_refl _)
    have n2 := (Net.good_parts hn).2.2.1.1
    have n2 : (I.N.n : Int) ≤ I.P0.N.met.places := n2
    have hda : I.f.depart ≤ I.f.arrival I.N.L := (Flight.at_step (Net.good_parts hn).2.2.2.1 hf I.f.last (by omega)).1
    have hti : (I.P0.ticks : Int) = I.f.arrival I.N.L - I.f.depart + 1 := by unfold Plan.ticks; show ((I.f.arrival I.N.L - I.f.depart + 1).toNat : Int) = _; omega
    have hon := Lib.hid (fun (t : Int) (t0 : I.f.depart ≤ t) (t1 : t ≤ I.f.arrival I.N.L) => And.intro (I.P0.reach_on hn hf (tick := t) t0 t1 (j := 0) (Nat.zero_le _)) (I.P0.reach_bd hn hf (place := I.f.route.getD 0 0) t0 t1))
    have hon2 := Lib.hid (fun (t : Int) (t0 : I.f.depart ≤ t) (t1 : t ≤ I.f.arrival I.N.L) => And.intro (I.P0.reach_on hn hf (tick := t) t0 t1 (j := I.f.last) (Nat.le_refl _)) (I.P0.reach_bd hn hf (place := I.f.route.getD I.f.last 0) t0 t1))
    have hue := Lib.hid (show I.P0.ahead (I.f.arrival I.N.L) ≤ I.P0.home (I.f.arrival I.N.L) from I.P0.under_end hn hf)
    have hn := Lib.hid hn
    have hf0 := Lib.hid (Flight.good_parts hf).1
    have hf := Lib.hid hf
    have hc := Lib.hid hc
    have hgs := getD_some (r := I.f.route) (i := 0) (by omega)
    have hgl := getD_some (r := I.f.route) (i := I.f.last) (by omega)
    have hgo : ∀ k : Nat, I.P0.under k = decide (I.P0.home (I.f.depart + k) < I.P0.ahead (I.f.depart + k)) := fun k => rfl
    have hho : ∀ t, I.P0.home t = (I.P0.reach t (I.f.route.getD 0 0)).1.at_ := fun t => rfl
    have hha : ∀ t, I.P0.ahead t = (I.P0.reach t (I.f.route.getD I.f.last 0)).1.at_ := fun t => rfl
    have hgo := Lib.hid hgo
    have hho := Lib.hid hho
    have hha := Lib.hid hha
    have hnn := Lib.hid (fun (k : Nat) h1 h2 h3 => (I.P0.middle_at (k := k) h1 h2 h3 : I.P0.middle = I.f.depart + k))
    have hno := Lib.hid (fun (k : Nat) h1 h2 => (I.P0.middle_end (k := k) h1 h2 : I.P0.middle = I.f.depart + k))
    generalize harr : I.f.arrival I.N.L = arr at *
    have harr := Lib.hid harr
    generalize I.f.route.getD 0 0 = x at *
    generalize I.f.route.getD I.f.last 0 = y at *
    obtain ⟨xn, rfl⟩ := Int.eq_ofNat_of_zero_le x0
    obtain ⟨yn, rfl⟩ := Int.eq_ofNat_of_zero_le y0
    have hxn : xn < I.N.n := by omega
    have hyn : yn < I.N.n := by omega
    have hplx := Lib.hid (show (xn : Int) < I.P0.N.met.places by omega)
    have hply := Lib.hid (show (yn : Int) < I.P0.N.met.places by omega)
    go_enter Tryz.func39, Tryz.ntmps39
    go_wp2_with (go_at_call 64; refine (newFlight_ok0 I _ (h.ext (by with_reducible (repeat first | assumption | exact Ext.refl _ | refine Ext.set ?_ (by omega) _ | refine Ext.alloc ?_ _ | refine Ext.drew ?_ | refine Ext.drewN ?_ _ | refine Ext.trans ?_ (by assumption)))) hc.out).mono ?_; rintro e1 w2 ⟨⟨p, r, rfl, hP⟩, hb1⟩; obtain ⟨hc1, hf1, hz1⟩ := hb1.cells; have hs1 := hb1.size; (try simp at hs1); replace hP := Lib.hid hP)
    have hw2 : Ext w w2 := (by with_reducible (repeat first | assumption | exact Ext.refl _ | refine Ext.set ?_ (by omega) _ | refine Ext.alloc ?_ _ | refine Ext.drew ?_ | refine Ext.drewN ?_ _ | refine Ext.trans ?_ (by assumption)))
    have q0 : w2.cell? ⟨w.heap.size + 1, 0, none⟩ = some (.slice I.AR I.nR I.cR) := by go_simp
    have q2 : w.heap.size + 1 < w2.heap.size := by omega
    clear hc1 hf1 hz1
    go_loopw [10, 11, 13] (fun i _ _ wr => ∃ k : Nat, k ≤ I.P0.ticks - 1 ∧ i = .int .i64 (I.f.depart + k) ∧ (∀ j, j < k → I.P0.under j = true) ∧ Ext w2 wr) (fun i _ _ _ => (arr - intOf i).toNat)
    case atStart => exact ⟨0, Nat.zero_le _, by simp, fun j hj => absurd hj (Nat.not_lt_zero _), Ext.refl _⟩
    case round =>
      obtain ⟨k, hk, rfl, hlow, he⟩ := hrel
      have hlow := Lib.hid hlow
      have g0 := (he.cells.1 _ _ (show w.heap.size + 1 < w2.heap.size from q2)).trans q0
      have g2 := he.cells.2.2 _ q2
      have hes := he.size
      have hIr := Lib.hid (h.ext (hw2.trans he))
      have hPr := Lib.hid (hP.out.ext he)
      obtain ⟨b1, off1, hA1, hb1', k1⟩ := hIr.out.route.intx (j := 0) (by rw [← hIr.out.route.len]; omega) hgs
      obtain ⟨b2, off2, hA2, hb2', k2⟩ := hIr.out.route.intx (j := I.f.last) (by rw [← hIr.out.route.len]; omega) hgl
      rw [hA1] at hA2
      simp only [Option.some.injEq, Addr.mk.injEq, and_true] at hA2
      obtain ⟨rfl, rfl⟩ := hA2
      have l9 := hIr.out.route.len
      have hv4 : (I.nR : Int) - 1 = (I.f.last : Int) := by omega
      simp only [Nat.add_zero] at k1
      rw [hA1] at g0
      replace hA1 := Lib.hid hA1
      by_cases hlt : I.f.depart + (k : Int) < arr
      · have t0 : I.f.depart ≤ I.f.depart + k := by omega
        have t1 : I.f.depart + (k : Int) ≤ arr := by omega
        obtain ⟨o1, o2, o3⟩ := hon.out (I.f.depart + k) t0 t1
        obtain ⟨⟨hv, is⟩, hx⟩ : ∃ z, I.P0.reach (I.f.depart + k) xn = z := ⟨_, rfl⟩
        have hh := hho.out (I.f.depart + k)
        rw [hx] at o1 o2 o3 hh
        obtain rfl : is = true := o1
        obtain ⟨o4, o5, o6⟩ := hon2.out (I.f.depart + k) t0 t1
        obtain ⟨⟨hu, is⟩, hy⟩ : ∃ z, I.P0.reach (I.f.depart + k) yn = z := ⟨_, rfl⟩
        have hh2 := hha.out (I.f.depart + k)
        rw [hy] at o4 o5 o6 hh2
        obtain rfl : is = true := o4
        have hg := hgo.out k
        rw [hh, hh2] at hg
        have hx := Lib.hid hx
        have hy := Lib.hid hy
        dsimp only at o2 o3 o5 o6 hg
        have t0' := Lib.hid t0
        have t1' := Lib.hid (show I.f.depart + (k : Int) ≤ I.f.arrival I.N.L by rw [harr.out]; exact t1)
        by_cases hl : hv.at_ < hu.at_
        · rw [decide_eq_true hl] at hg
          have tok1 : True := trivial
          go_wp2_with (first | (go_at_call 77; refine (arrival_77 I.P0 p r _ (hPr.out.ext (by with_reducible (repeat first | assumption | exact Ext.refl _ | refine Ext.set ?_ (by omega) _ | refine Ext.alloc ?_ _ | refine Ext.drew ?_ | refine Ext.drewN ?_ _ | refine Ext.trans ?_ (by assumption))))).mono ?_; rw [harr.out]; rintro e1 w7 ⟨rfl, hb7⟩; obtain ⟨hc7, hf7, hz7⟩ := hb7.cells; have hs7 := hb7.size) | (go_at_call 81; clear tok1; refine (reach_81 I.P0 p r (I.f.depart + k) xn _ (hPr.out.ext (by with_reducible (repeat first | assumption | exact Ext.refl _ | refine Ext.set ?_ (by omega) _ | refine Ext.alloc ?_ _ | refine Ext.drew ?_ | refine Ext.drewN ?_ _ | refine Ext.trans ?_ (by assumption)))) t0'.out t1'.out (Int.natCast_nonneg _) hplx.out).mono ?_; rw [hx.out]; rintro e1 w3 ⟨rfl, hb3⟩; obtain ⟨hc3, hf3, hz3⟩ := hb3.cells; have hs3 := hb3.size; have g3 := (hb3.cells.1 _ _ (show w.heap.size + 1 < w7.heap.size by omega)).trans ((hb7.cells.1 _ _ g2).trans g0); have g4 : w.heap.size + 1 < w3.heap.size := (by omega); have k3 := (hb3.cells.1 _ _ (show b1 < w7.heap.size by omega)).trans ((hb7.cells.1 _ _ hb2').trans k2); have g5 : b1 < w3.heap.size := (by omega)) | (go_at_call 81; refine (reach_81 I.P0 p r (I.f.depart + k) yn _ (hPr.out.ext (by with_reducible (repeat first | assumption | exact Ext.refl _ | refine Ext.set ?_ (by omega) _ | refine Ext.alloc ?_ _ | refine Ext.drew ?_ | refine Ext.drewN ?_ _ | refine Ext.trans ?_ (by assumption)))) t0'.out t1'.out (Int.natCast_nonneg _) hply.out).mono ?_; rw [hy.out]; rintro e1 w4 ⟨rfl, hb4⟩; obtain ⟨hc4, hf4, hz4⟩ := hb4.cells; have hs4 := hb4.size; (try simp at hs4)))
          go_roundw
          case rel => exact ⟨k + 1, by omega, by congr 1; omega, fun j hj => (by rcases Nat.lt_or_ge j k with gg | gg; exact hlow.out j gg; obtain rfl : j = k := (by omega); exact hg), (by with_reducible (repeat first | assumption | exact Ext.refl _ | refine Ext.set ?_ (by omega) _ | refine Ext.alloc ?_ _ | refine Ext.drew ?_ | refine Ext.drewN ?_ _ | refine Ext.trans ?_ (by assumption)))⟩
          case measure => simp [intOf]; omega
        · rw [decide_eq_false hl] at hg
          have hres := Lib.hid (hnn.out k hlow.out hg (by omega))
          have tok1 : True := trivial
          go_wp2_with (first | (go_at_call 77; refine (arrival_77 I.P0 p r _ (hPr.out.ext (by with_reducible (repeat first | assumption | exact Ext.refl _ | refine Ext.set ?_ (by omega) _ | refine Ext.alloc ?_ _ | refine Ext.drew ?_ | refine Ext.drewN ?_ _ | refine Ext.trans ?_ (by assumption))))).mono ?_; rw [harr.out]; rintro e1 w7 ⟨rfl, hb7⟩; obtain ⟨hc7, hf7, hz7⟩ := hb7.cells; have hs7 := hb7.size) | (go_at_call 81; clear tok1; refine (reach_81 I.P0 p r (I.f.depart + k) xn _ (hPr.out.ext (by with_reducible (repeat first | assumption | exact Ext.refl _ | refine Ext.set ?_ (by omega) _ | refine Ext.alloc ?_ _ | refine Ext.drew ?_ | refine Ext.drewN ?_ _ | refine Ext.trans ?_ (by assumption)))) t0'.out t1'.out (Int.natCast_nonneg _) hplx.out).mono ?_; rw [hx.out]; rintro e1 w3 ⟨rfl, hb3⟩; obtain ⟨hc3, hf3, hz3⟩ := hb3.cells; have hs3 := hb3.size; have g3 := (hb3.cells.1 _ _ (show w.heap.size + 1 < w7.heap.size by omega)).trans ((hb7.cells.1 _ _ g2).trans g0); have g4 : w.heap.size + 1 < w3.heap.size := (by omega); have k3 := (hb3.cells.1 _ _ (show b1 < w7.heap.size by omega)).trans ((hb7.cells.1 _ _ hb2').trans k2); have g5 : b1 < w3.heap.size := (by omega)) | (go_at_call 81; refine (reach_81 I.P0 p r (I.f.depart + k) yn _ (hPr.out.ext (by with_reducible (repeat first | assumption | exact Ext.refl _ | refine Ext.set ?_ (by omega) _ | refine Ext.alloc ?_ _ | refine Ext.drew ?_ | refine Ext.drewN ?_ _ | refine Ext.trans ?_ (by assumption)))) t0'.out t1'.out (Int.natCast_nonneg _) hply.out).mono ?_; rw [hy.out]; rintro e1 w4 ⟨rfl, hb4⟩; obtain ⟨hc4, hf4, hz4⟩ := hb4.cells; have hs4 := hb4.size; (try simp at hs4)))
          go_ret2
          exact ⟨by rw [hnr.out, hres.out]; rfl, (by with_reducible (repeat first | assumption | exact Ext.refl _ | refine Ext.set ?_ (by omega) _ | refine Ext.alloc ?_ _ | refine Ext.drew ?_ | refine Ext.drewN ?_ _ | refine Ext.trans ?_ (by assumption)))⟩
      · have hres := Lib.hid (hno.out k hlow.out (by omega))
        go_wp2_with (go_at_call 77; refine (arrival_77 I.P0 p r _ (hPr.out.ext (by with_reducible (repeat first | assumption | exact Ext.refl _ | refine Ext.set ?_ (by omega) _ | refine Ext.alloc ?_ _ | refine Ext.drew ?_ | refine Ext.drewN ?_ _ | refine Ext.trans ?_ (by assumption))))).mono ?_; rw [harr.out]; rintro e1 w7 ⟨rfl, hb7⟩; obtain ⟨hc7, hf7, hz7⟩ := hb7.cells; have hs7 := hb7.size)
        go_ret2
        exact ⟨by rw [hnr.out, hres.out]; rfl, (by with_reducible (repeat first | assumption | exact Ext.refl _ | refine Ext.set ?_ (by omega) _ | refine Ext.alloc ?_ _ | refine Ext.drew ?_ | refine Ext.drewN ?_ _ | refine Ext.trans ?_ (by assumption)))⟩
  · have hnr := Lib.hid (show I.mid = (0, I.err0) by unfold Inp.mid; rw [if_neg hc])
    replace hc := Lib.hid hc
    have hbn : (I.err0 != (0 : Int)) = true := by rw [bne_iff_ne]; exact hc.out
    go_enter Tryz.func39, Tryz.ntmps39
    go_wp2_with (go_at_call 64; refine (newFlight_bad0 I _ (h.ext (by with_reducible (repeat first | assumption | exact Ext.refl _ | refine Ext.set ?_ (by omega) _ | refine Ext.alloc ?_ _ | refine Ext.drew ?_ | refine Ext.drewN ?_ _ | refine Ext.trans ?_ (by assumption)))) hc.out).mono ?_; rintro e1 w1 ⟨rfl, hb1⟩)
    go_ret2
    exact ⟨by rw [hnr.out]; rfl, (by with_reducible (repeat first | assumption | exact Ext.refl _ | refine Ext.set ?_ (by omega) _ | refine Ext.alloc ?_ _ | refine Ext.drew ?_ | refine Ext.drewN ?_ _ | refine Ext.trans ?_ (by assumption)))⟩
end Go.Proofs.YtmmimbcfgobnaaaGreat
namespace Go.Proofs.YtmmimbcfgobnaaaGreat
open Go.RowKit
set_option linter.unusedVariables false
set_option linter.unusedSimpArgs false
attribute [local go_sem] stored_match isSome_setCell

set_option maxRecDepth 100000 in
set_option maxHeartbeats 2000000 in
theorem Middle_40 (I : Inp) (w : World) (h : I.In w) :
    Calls Tryz.prog 40 #[I.vm, I.vn, I.vf] w fun e w' => e = .returned (.tuple #[.int .i64 I.mid.1, .int .i64 I.mid.2]) ∧ Ext w w' := by
  simp only [Inp.vm, Inp.vn, Inp.vf, Met.val, Flight.val]
  by_cases hc : I.err0 = 0
  · have hnr := Lib.hid (show I.mid = (I.P0.middle, 0) by unfold Inp.mid; rw [if_pos hc])
    obtain ⟨hn, hf⟩ := Inp.err0_good hc
    obtain ⟨⟨l1, l2⟩, ⟨d1, d2⟩, -⟩ := Flight.plain_parts (Flight.good_parts hf).1
    have ha := (Flight.good_parts hf).2.2.2
    have hll : I.f.last + 1 = I.f.route.length := by unfold Flight.last; omega
    obtain ⟨x0, x1⟩ := Flight.place_ok hn hf 0 (Nat.zero_le _)
    obtain ⟨y0, y1⟩ := Flight.place_ok hn hf I.f.last (Nat.le_refl _)
    have n2 := (Net.good_parts hn).2.2.1.1
    have n2 : (I.N.n : Int) ≤ I.P0.N.met.places := n2
    have hda : I.f.depart ≤ I.f.arrival I.N.L := (Flight.at_step (Net.good_parts hn).2.2.2.1 hf I.f.last (by omega)).1
    have hti : (I.P0.ticks : Int) = I.f.arrival I.N.L - I.f.depart + 1 := by unfold Plan.ticks; show ((I.f.arrival I.N.L - I.f.depart + 1).toNat : Int) = _; omega
    have hon := Lib.hid (fun (t : Int) (t0 : I.f.depart ≤ t) (t1 : t ≤ I.f.arrival I.N.L) => And.intro (I.P0.reach_on hn hf (tick := t) t0 t1 (j := 0) (Nat.zero_le _)) (I.P0.reach_bd hn hf (place := I.f.route.getD 0 0) t0 t1))
    have hon2 := Lib.hid (fun (t : Int) (t0 : I.f.depart ≤ t) (t1 : t ≤ I.f.arrival I.N.L) => And.intro (I.P0.reach_on hn hf (tick := t) t0 t1 (j := I.f.last) (Nat.le_refl _)) (I.P0.reach_bd hn hf (place := I.f.route.getD I.f.last 0) t0 t1))
    have hue := Lib.hid (show I.P0.ahead (I.f.arrival I.N.L) ≤ I.P0.home (I.f.arrival I.N.L) from I.P0.under_end hn hf)
    have hn := Lib.hid hn
    have hf0 := Lib.hid (Flight.good_parts hf).1
    have hf := Lib.hid hf
    have hc := Lib.hid hc
    have hgs := getD_some (r := I.f.route) (i := 0) (by omega)
    have hgl := getD_some (r := I.f.route) (i := I.f.last) (by omega)
    have hgo : ∀ k : Nat, I.P0.under k = decide (I.P0.home (I.f.depart + k) < I.P0.ahead (I.f.depart + k)) := fun k => rfl
    have hho : ∀ t, I.P0.home t = (I.P0.reach t (I.f.route.getD 0 0)).1.at_ := fun t => rfl
    have hha : ∀ t, I.P0.ahead t = (I.P0.reach t (I.f.route.getD I.f.last 0)).1.at_ := fun t => rfl
    have hgo := Lib.hid hgo
    have hho := Lib.hid hho
    have hha := Lib.hid hha
    have hnn := Lib.hid (fun (k : Nat) h1 h2 h3 => (I.P0.middle_at (k := k) h1 h2 h3 : I.P0.middle = I.f.depart + k))
    have hno := Lib.hid (fun (k : Nat) h1 h2 => (I.P0.middle_end (k := k) h1 h2 : I.P0.middle = I.f.depart + k))
    generalize harr : I.f.arrival I.N.L = arr at *
    have harr := Lib.hid harr
    generalize I.f.route.getD 0 0 = x at *
    generalize I.f.route.getD I.f.last 0 = y at *
    obtain ⟨xn, rfl⟩ := Int.eq_ofNat_of_zero_le x0
    obtain ⟨yn, rfl⟩ := Int.eq_ofNat_of_zero_le y0
    have hxn : xn < I.N.n := by omega
    have hyn : yn < I.N.n := by omega
    go_enter Tryz.func40, Tryz.ntmps40
    go_upto_region 1 with (fail)
    refine name_world_as (P := fun W => Boxed2 I w.heap.size W ∧ Ext w W) (R := fun W => Code.wp _ _ _ _ W) ⟨Boxed2.new I w, (by with_reducible (repeat first | assumption | exact Ext.refl _ | refine Ext.set ?_ (by omega) _ | refine Ext.alloc ?_ _ | refine Ext.drew ?_ | refine Ext.drewN ?_ _ | refine Ext.trans ?_ (by assumption)))⟩ fun W1 ⟨hB, hxw⟩ => ?_
    have hBx := Lib.hid hB
    obtain ⟨p0, p1, p2, p3, p4, p5, p6, p7, p8, p9, p10, p11, p12, p13, f0, f1, f2, f3, f4, lb⟩ := hB
    have lb0 : w.heap.size < W1.heap.size := by omega
    go_wp2_with (go_at_call 25; refine (Check_25 I _ (h.ext (by with_reducible (repeat first | assumption | exact Ext.refl _ | refine Ext.set ?_ (by omega) _ | refine Ext.alloc ?_ _ | refine Ext.drew ?_ | refine Ext.drewN ?_ _ | refine Ext.trans ?_ (by assumption))))).mono ?_; rw [hc.out]; rintro e1 w2 ⟨rfl, hb1⟩; obtain ⟨hc1, hf1, hz1⟩ := hb1.cells; have hs1 := hb1.size)
    have hx2 : Ext W1 w2 := hb1
    have hw2 : Ext w w2 := hxw.trans hx2
    clear p0 p1 p2 p3 p4 p5 p6 p7 p8 p9 p10 p11 p12 p13 f0 f1 f2 f3 f4 lb lb0 hc1 hf1 hz1
    go_loopw [9] (fun i wr => ∃ k : Nat, k ≤ I.P0.ticks - 1 ∧ i = .int .i64 (I.f.depart + k) ∧ (∀ j, j < k → I.P0.under j = true) ∧ Ext w2 wr) (fun i _ => (arr - intOf i).toNat)
    case atStart => exact ⟨0, Nat.zero_le _, by simp, fun j hj => absurd hj (Nat.not_lt_zero _), Ext.refl _⟩
    case round =>
      obtain ⟨k, hk, rfl, hlow, he⟩ := hrel
      have hlow := Lib.hid hlow
      have hxr : Ext W1 wr := hx2.trans he
      obtain ⟨p0, p1, p2, p3, p4, p5, p6, p7, p8, p9, p10, p11, p12, p13, f0, f1, f2, f3, f4, lb⟩ := hBx.out.ext hxr
      have lb0 : w.heap.size < wr.heap.size := by omega
      have hIr := Lib.hid (h.ext (hw2.trans he))
      obtain ⟨b1, off1, hA, hb1', k1⟩ := hIr.out.route.intx (j := 0) (by rw [← hIr.out.route.len]; omega) hgs
      obtain ⟨b2, off2, hA2, hb2', k2⟩ := hIr.out.route.intx (j := I.f.last) (by rw [← hIr.out.route.len]; omega) hgl
      rw [hA] at hA2
      simp only [Option.some.injEq, Addr.mk.injEq, and_true] at hA2
      obtain ⟨rfl, rfl⟩ := hA2
      have l9 := hIr.out.route.len
      have l8 : (0 : Int) < (I.nR : Int) := by omega
      have l8n : 0 < I.nR := by omega
      have hv4 : (I.nR : Int) - 1 = (I.f.last : Int) := by omega
      have hv5 : IntKind.i64.wrap ((I.nR : Int) - 1) = (I.f.last : Int) := by rw [hv4]; exact IntWalk.i64_in _ (by omega)
      have hv6 : (I.f.last : Int) < (I.nR : Int) := by omega
      have hv7 : (0 : Int) ≤ (I.f.last : Int) := by omega
      have hv8 : IntKind.i64.wrap (I.f.last : Int) = (I.f.last : Int) := IntWalk.i64_in _ (by omega)
      have hv9 : ((I.f.last : Int)).toNat = I.f.last := by omega
      have hv10 : I.f.last < I.nR := by omega
      simp only [Nat.add_zero] at k1
      rw [hA] at f0
      replace hA := Lib.hid hA
      have t0 : I.f.depart ≤ I.f.depart + k := by omega
      have t1 : I.f.depart + (k : Int) ≤ arr := by omega
      obtain ⟨o1, o2, o3⟩ := hon.out (I.f.depart + k) t0 t1
      obtain ⟨⟨hv, is⟩, hx⟩ : ∃ z, I.P0.reach (I.f.depart + k) xn = z := ⟨_, rfl⟩
      have hh := hho.out (I.f.depart + k)
      rw [hx] at o1 o2 o3 hh
      obtain rfl : is = true := o1
      obtain ⟨o4, o5, o6⟩ := hon2.out (I.f.depart + k) t0 t1
      obtain ⟨⟨hu, is⟩, hy⟩ : ∃ z, I.P0.reach (I.f.depart + k) yn = z := ⟨_, rfl⟩
      have hh2 := hha.out (I.f.depart + k)
      rw [hy] at o4 o5 o6 hh2
      obtain rfl : is = true := o4
      have hg := hgo.out k
      rw [hh, hh2] at hg
      have h47 := Lib.hid (show I.P.at47 (I.f.depart + k) xn = (hv.at_, hv.back) by
        have e : I.P.reach (I.f.depart + k) xn = (hv, true) := hx
        unfold Plan.at47; rw [e]; rfl)
      have h48 := Lib.hid (show I.P.at47 (I.f.depart + k) yn = (hu.at_, hu.back) by
        have e : I.P.reach (I.f.depart + k) yn = (hu, true) := hy
        unfold Plan.at47; rw [e]; rfl)
      have hx := Lib.hid hx
      have hy := Lib.hid hy
      dsimp only at o2 o3 o5 o6 hg
      have t0' := Lib.hid t0
      have t1' := Lib.hid (show I.f.depart + (k : Int) ≤ I.f.arrival I.N.L by rw [harr.out]; exact t1)
      have hk2 : hv.at_ < hu.at_ → k + 1 ≤ I.P0.ticks - 1 := fun hl => by
        by_cases e : I.f.depart + (k : Int) = arr
        · have q := hue.out
          rw [← e, hh, hh2] at q
          dsimp only at q
          omega
        · omega
      by_cases hl : hv.at_ < hu.at_
      · rw [decide_eq_true hl] at hg
        have hk3 := hk2 hl
        go_wp2_with fail
        go_region_held3 (fun w' => HoldsAll wr w') ((with_reducible ((repeat refine HoldsAll.drew ?_); first | (first | assumption | exact HoldsAll.refl _ | exact HoldsAll.of_drew (by assumption)) | (refine HoldsAll.ext ?_ (by assumption); first | assumption | exact HoldsAll.refl _ | exact HoldsAll.of_drew (by assumption)) | (refine HoldsAll.alloc ?_ _; first | assumption | exact HoldsAll.refl _ | exact HoldsAll.of_drew (by assumption)) | exact HoldsAll.realloc (by first | assumption | exact HoldsAll.refl _ | exact HoldsAll.of_drew (by assumption)) (by omega) | ((repeat first | refine HoldsAll.fresh ?_ (by omega) _); first | assumption | exact HoldsAll.refl _ | exact HoldsAll.of_drew (by assumption))))) (first | (go_at_call 47; refine (Reach_47' I hA.out (I.f.depart + k) xn _ (hIr.out.ext (by with_reducible (repeat first | assumption | exact Ext.refl _ | refine Ext.set ?_ (by omega) _ | refine Ext.alloc ?_ _ | refine Ext.drew ?_ | refine Ext.drewN ?_ _ | refine Ext.trans ?_ (by assumption)))) hn.out hf.out t0'.out t1'.out hxn).mono ?_; rw [h47.out]; rintro e1 w3 ⟨rfl, hb3⟩))
        go_wp2_with fail
        go_region_held3 (fun w' => HoldsAll wr w') ((with_reducible ((repeat refine HoldsAll.drew ?_); first | (first | assumption | exact HoldsAll.refl _ | exact HoldsAll.of_drew (by assumption)) | (refine HoldsAll.ext ?_ (by assumption); first | assumption | exact HoldsAll.refl _ | exact HoldsAll.of_drew (by assumption)) | (refine HoldsAll.alloc ?_ _; first | assumption | exact HoldsAll.refl _ | exact HoldsAll.of_drew (by assumption)) | exact HoldsAll.realloc (by first | assumption | exact HoldsAll.refl _ | exact HoldsAll.of_drew (by assumption)) (by omega) | ((repeat first | refine HoldsAll.fresh ?_ (by omega) _); first | assumption | exact HoldsAll.refl _ | exact HoldsAll.of_drew (by assumption))))) (first | (go_at_call 47; refine (Reach_47' I hA.out (I.f.depart + k) yn _ (hIr.out.ext (by with_reducible (repeat first | assumption | exact Ext.refl _ | refine Ext.set ?_ (by omega) _ | refine Ext.alloc ?_ _ | refine Ext.drew ?_ | refine Ext.drewN ?_ _ | refine Ext.trans ?_ (by assumption)))) hn.out hf.out t0'.out t1'.out hyn).mono ?_; rw [h48.out]; rintro e1 w3 ⟨rfl, hb3⟩))
        go_wp2_with fail
        go_roundw
        case rel => exact ⟨k + 1, by omega, by congr 1; omega, fun j hj => (by rcases Nat.lt_or_ge j k with gg | gg; exact hlow.out j gg; obtain rfl : j = k := (by omega); exact hg), (by with_reducible (repeat first | assumption | exact Ext.refl _ | refine Ext.set ?_ (by omega) _ | refine Ext.alloc ?_ _ | refine Ext.drew ?_ | refine Ext.drewN ?_ _ | refine Ext.trans ?_ (by assumption)))⟩
        case measure => simp [intOf]; omega
      · rw [decide_eq_false hl] at hg
        have hres := Lib.hid (show I.P0.middle = I.f.depart + k by
          by_cases e : k < I.P0.ticks - 1
          · exact hnn.out k hlow.out hg e
          · exact hno.out k hlow.out (by omega))
        go_wp2_with fail
        go_region_held3 (fun w' => HoldsAll wr w') ((with_reducible ((repeat refine HoldsAll.drew ?_); first | (first | assumption | exact HoldsAll.refl _ | exact HoldsAll.of_drew (by assumption)) | (refine HoldsAll.ext ?_ (by assumption); first | assumption | exact HoldsAll.refl _ | exact HoldsAll.of_drew (by assumption)) | (refine HoldsAll.alloc ?_ _; first | assumption | exact HoldsAll.refl _ | exact HoldsAll.of_drew (by assumption)) | exact HoldsAll.realloc (by first | assumption | exact HoldsAll.refl _ | exact HoldsAll.of_drew (by assumption)) (by omega) | ((repeat first | refine HoldsAll.fresh ?_ (by omega) _); first | assumption | exact HoldsAll.refl _ | exact HoldsAll.of_drew (by assumption))))) (first | (go_at_call 47; refine (Reach_47' I hA.out (I.f.depart + k) xn _ (hIr.out.ext (by with_reducible (repeat first | assumption | exact Ext.refl _ | refine Ext.set ?_ (by omega) _ | refine Ext.alloc ?_ _ | refine Ext.drew ?_ | refine Ext.drewN ?_ _ | refine Ext.trans ?_ (by assumption)))) hn.out hf.out t0'.out t1'.out hxn).mono ?_; rw [h47.out]; rintro e1 w3 ⟨rfl, hb3⟩))
        go_wp2_with fail
        go_region_held3 (fun w' => HoldsAll wr w') ((with_reducible ((repeat refine HoldsAll.drew ?_); first | (first | assumption | exact HoldsAll.refl _ | exact HoldsAll.of_drew (by assumption)) | (refine HoldsAll.ext ?_ (by assumption); first | assumption | exact HoldsAll.refl _ | exact HoldsAll.of_drew (by assumption)) | (refine HoldsAll.alloc ?_ _; first | assumption | exact HoldsAll.refl _ | exact HoldsAll.of_drew (by assumption)) | exact HoldsAll.realloc (by first | assumption | exact HoldsAll.refl _ | exact HoldsAll.of_drew (by assumption)) (by omega) | ((repeat first | refine HoldsAll.fresh ?_ (by omega) _); first | assumption | exact HoldsAll.refl _ | exact HoldsAll.of_drew (by assumption))))) (first | (go_at_call 47; refine (Reach_47' I hA.out (I.f.depart + k) yn _ (hIr.out.ext (by with_reducible (repeat first | assumption | exact Ext.refl _ | refine Ext.set ?_ (by omega) _ | refine Ext.alloc ?_ _ | refine Ext.drew ?_ | refine Ext.drewN ?_ _ | refine Ext.trans ?_ (by assumption)))) hn.out hf.out t0'.out t1'.out hyn).mono ?_; rw [h48.out]; rintro e1 w3 ⟨rfl, hb3⟩))
        have hl2 : hu.at_ ≤ hv.at_ := by omega
        go_wp2_with fail
        go_ret2
        exact ⟨by rw [hnr.out, hres.out]; rfl, (by with_reducible (repeat first | assumption | exact Ext.refl _ | refine Ext.set ?_ (by omega) _ | refine Ext.alloc ?_ _ | refine Ext.drew ?_ | refine Ext.drewN ?_ _ | refine Ext.trans ?_ (by assumption)))⟩
  · have hnr := Lib.hid (show I.mid = (0, I.err0) by unfold Inp.mid; rw [if_neg hc])
    replace hc := Lib.hid hc
    have hbn : (I.err0 != (0 : Int)) = true := by rw [bne_iff_ne]; exact hc.out
    go_enter Tryz.func40, Tryz.ntmps40
    go_wp2_with (go_at_call 25; refine (Check_25 I _ (h.ext (by with_reducible (repeat first | assumption | exact Ext.refl _ | refine Ext.set ?_ (by omega) _ | refine Ext.alloc ?_ _ | refine Ext.drew ?_ | refine Ext.drewN ?_ _ | refine Ext.trans ?_ (by assumption))))).mono ?_; rintro e1 w1 ⟨rfl, hb1⟩; obtain ⟨hc1, hf1, hz1⟩ := hb1.cells)
    go_ret2
    exact ⟨by rw [hnr.out]; rfl, (by with_reducible (repeat first | assumption | exact Ext.refl _ | refine Ext.set ?_ (by omega) _ | refine Ext.alloc ?_ _ | refine Ext.drew ?_ | refine Ext.drewN ?_ _ | refine Ext.trans ?_ (by assumption)))⟩
end Go.Proofs.YtmmimbcfgobnaaaGreat
