/- The reference: checkTick, Havens, Best; the law's look at two lists of havens. -/
import Derived.Test.YtmmimbcfgobnaaaGreatV5
set_option linter.unusedVariables false
set_option linter.unusedSimpArgs false
namespace Go.Proofs.YtmmimbcfgobnaaaGreat
open Go.RowKit
attribute [local go_sem] stored_match isSome_setCell

theorem Inp.code_err {I : Inp} {tick : Int} (h : I.err ≠ 0) : I.code tick = I.err := by unfold Inp.code; rw [if_neg h]
set_option maxRecDepth 100000 in
set_option maxHeartbeats 2000000 in
theorem checkTick_59 (I : Inp) (tick : Int) (w : World) (h : I.In w) :
    Calls Tryz.prog 59 #[I.vm, I.l.val, I.vn, I.vf, .int .i64 tick] w fun e w' => e = .returned (.int .i64 (I.code tick)) ∧ Ext w w' := by
  simp only [Inp.vm, Inp.vn, Inp.vf, Met.val, Flight.val, Minima.val]
  by_cases he : I.err = 0
  · obtain ⟨hn, -, hf, -⟩ := Inp.err_good he
    rcases Bool.eq_false_or_eq_true (within tick I.f.depart (I.f.arrival I.N.L)) with ht | ht
    all_goals
      have hcode : I.code tick = if within tick I.f.depart (I.f.arrival I.N.L) = true then 0 else 1 := by unfold Inp.code; rw [if_pos he]
      rw [ht] at hcode
      replace hcode := Lib.hid hcode
      replace ht := Lib.hid ht
      have he' := Lib.hid he
      have hn' := Lib.hid hn
      have hf' := Lib.hid hf
      clear he hn hf
      go_enter Tryz.func59, Tryz.ntmps59
      go_upto_region 1 with (fail)
      refine name_as (P := fun W => Box3 I w.heap.size W ∧ Ext w W) (R := fun W => Code.wp _ _ _ _ W) ⟨⟨⟨by first | (simp; done) | (simp; omega), by go_simp, by go_simp, by go_simp, by go_simp, by go_simp, by go_simp, by go_simp, by go_simp, by go_simp, by go_simp, by go_simp, by go_simp, by go_simp, by go_simp⟩, ⟨by first | (simp; done) | (simp; omega), by go_simp, by go_simp, by go_simp, by go_simp, by go_simp⟩, by simp, by go_simp, by go_simp, by go_simp, by go_simp, by go_simp⟩, (by with_reducible (repeat first | assumption | exact Ext.refl _ | refine Ext.set ?_ (by omega) _ | refine Ext.alloc ?_ _ | refine Ext.drew ?_ | refine Ext.drewN ?_ _ | refine Ext.trans ?_ (by assumption)))⟩ fun W1 ⟨hB, hxw⟩ => ?_
      replace hB := Lib.hid hB
      obtain ⟨⟨lb, p0, p1, p2, p3, p4, p5, p6, p7, p8, p9, p10, p11, p12, p13⟩, ⟨lm, m0, m1, m2, m3, m4⟩, lf, f0, f1, f2, f3, f4⟩ := hB.out
      have hI := Lib.hid (h.ext hxw)
      go_upto_region 4 with (go_at_call 79; refine (checkAll_79 I _ (hI.out.ext (by with_reducible (repeat first | assumption | exact Ext.refl _ | refine Ext.set ?_ (by omega) _ | refine Ext.alloc ?_ _ | refine Ext.drew ?_ | refine Ext.drewN ?_ _ | refine Ext.trans ?_ (by assumption))))).mono ?_; rw [he'.out]; rintro e1 w2 ⟨rfl, hb2⟩; have hx2 : Ext W1 w2 := (by with_reducible (repeat first | assumption | exact Ext.refl _ | refine Ext.set ?_ (by omega) _ | refine Ext.alloc ?_ _ | refine Ext.drew ?_ | refine Ext.drewN ?_ _ | refine Ext.trans ?_ (by assumption))); obtain ⟨hc2, hf2, hz2⟩ := hx2.cells; have hs2 := hb2.size)
      obtain ⟨⟨lb, p0, p1, p2, p3, p4, p5, p6, p7, p8, p9, p10, p11, p12, p13⟩, ⟨lm, m0, m1, m2, m3, m4⟩, lf, f0, f1, f2, f3, f4⟩ := hB.out.ext hx2
      clear hc2 hf2 hz2
      go_region_held3 (fun w' => HoldsAll w2 w') ((with_reducible ((repeat refine HoldsAll.drew ?_); first | (first | assumption | exact HoldsAll.refl _ | exact HoldsAll.of_drew (by assumption)) | (refine HoldsAll.ext ?_ (by assumption); first | assumption | exact HoldsAll.refl _ | exact HoldsAll.of_drew (by assumption)) | (refine HoldsAll.alloc ?_ _; first | assumption | exact HoldsAll.refl _ | exact HoldsAll.of_drew (by assumption)) | exact HoldsAll.realloc (by first | assumption | exact HoldsAll.refl _ | exact HoldsAll.of_drew (by assumption)) (by omega) | ((repeat first | refine HoldsAll.fresh ?_ (by omega) _); first | assumption | exact HoldsAll.refl _ | exact HoldsAll.of_drew (by assumption))))) (first | (go_at_call 80; refine (end_80 I _ (hI.out.ext (by with_reducible (repeat first | assumption | exact Ext.refl _ | refine Ext.set ?_ (by omega) _ | refine Ext.alloc ?_ _ | refine Ext.drew ?_ | refine Ext.drewN ?_ _ | refine Ext.trans ?_ (by assumption)))) hn'.out hf'.out).mono ?_; rintro e1 w3 ⟨rfl, hb3⟩) | (go_at_call 62; refine (within_62 _ _ _ _).mono ?_; rw [ht.out]; rintro e1 w4 ⟨rfl, rfl⟩))
      go_wp2_with fail
      go_ret
      exact ⟨by rw [hcode.out]; rfl, (by with_reducible (repeat first | assumption | exact Ext.refl _ | refine Ext.set ?_ (by omega) _ | refine Ext.alloc ?_ _ | refine Ext.drew ?_ | refine Ext.drewN ?_ _ | refine Ext.trans ?_ (by assumption)))⟩
  · have hcode := Lib.hid (Inp.code_err (tick := tick) he)
    have hbb : (I.err == (0 : Int)) = false := beq_eq_false_iff_ne.2 he
    have hbn : (I.err != (0 : Int)) = true := by rw [bne_iff_ne]; exact he
    replace he := Lib.hid he
    go_enter Tryz.func59, Tryz.ntmps59
    go_upto_region 1 with (fail)
    refine name_as (P := fun W => Box3 I w.heap.size W ∧ Ext w W) (R := fun W => Code.wp _ _ _ _ W) ⟨⟨⟨by first | (simp; done) | (simp; omega), by go_simp, by go_simp, by go_simp, by go_simp, by go_simp, by go_simp, by go_simp, by go_simp, by go_simp, by go_simp, by go_simp, by go_simp, by go_simp, by go_simp⟩, ⟨by first | (simp; done) | (simp; omega), by go_simp, by go_simp, by go_simp, by go_simp, by go_simp⟩, by simp, by go_simp, by go_simp, by go_simp, by go_simp, by go_simp⟩, (by with_reducible (repeat first | assumption | exact Ext.refl _ | refine Ext.set ?_ (by omega) _ | refine Ext.alloc ?_ _ | refine Ext.drew ?_ | refine Ext.drewN ?_ _ | refine Ext.trans ?_ (by assumption)))⟩ fun W1 ⟨hB, hxw⟩ => ?_
    replace hB := Lib.hid hB
    obtain ⟨⟨lb, p0, p1, p2, p3, p4, p5, p6, p7, p8, p9, p10, p11, p12, p13⟩, ⟨lm, m0, m1, m2, m3, m4⟩, lf, f0, f1, f2, f3, f4⟩ := hB.out
    have hI := Lib.hid (h.ext hxw)
    go_wp2_with (go_at_call 79; refine (checkAll_79 I _ (hI.out.ext (by with_reducible (repeat first | assumption | exact Ext.refl _ | refine Ext.set ?_ (by omega) _ | refine Ext.alloc ?_ _ | refine Ext.drew ?_ | refine Ext.drewN ?_ _ | refine Ext.trans ?_ (by assumption))))).mono ?_; rintro e1 w2 ⟨rfl, hb2⟩; have hx2 : Ext W1 w2 := (by with_reducible (repeat first | assumption | exact Ext.refl _ | refine Ext.set ?_ (by omega) _ | refine Ext.alloc ?_ _ | refine Ext.drew ?_ | refine Ext.drewN ?_ _ | refine Ext.trans ?_ (by assumption))); obtain ⟨hc2, hf2, hz2⟩ := hx2.cells; have hs2 := hb2.size)
    go_ret
    exact ⟨by rw [hcode.out]; rfl, (by with_reducible (repeat first | assumption | exact Ext.refl _ | refine Ext.set ?_ (by omega) _ | refine Ext.alloc ?_ _ | refine Ext.drew ?_ | refine Ext.drewN ?_ _ | refine Ext.trans ?_ (by assumption)))⟩
set_option maxRecDepth 100000 in
set_option maxHeartbeats 2000000 in
theorem Havens_18 (I : Inp) (tick : Int) (w : World) (h : I.In w) :
    Calls Tryz.prog 18 #[I.vm, I.l.val, I.vn, I.vf, .int .i64 tick] w (HavensPost (I.code tick) (I.P.all tick false) w) := by
  simp only [Inp.vm, Inp.vn, Inp.vf, Met.val, Flight.val, Minima.val]
  by_cases hc : I.code tick = 0
  · obtain ⟨he, t0, t1⟩ := Inp.code_zero hc
    obtain ⟨hn, -, hf, -⟩ := Inp.err_good he
    have hcc := Lib.hid hc
    have hn' := Lib.hid hn
    have hf' := Lib.hid hf
    have t0' := Lib.hid t0
    have t1' := Lib.hid t1
    have hal : (I.P.all tick false).length ≤ I.N.n := I.P.all_length tick false
    have hnn : I.N.n ≤ 8 := (Net.good_parts hn).2.2.1.2.2.2
    clear hc he hn hf t0 t1
    go_enter Tryz.func18, Tryz.ntmps18
    go_upto_region 1 with (fail)
    refine name_as (P := fun W => Box3 I w.heap.size W ∧ Ext w W) (R := fun W => Code.wp _ _ _ _ W) ⟨⟨⟨by first | (simp; done) | (simp; omega), by go_simp, by go_simp, by go_simp, by go_simp, by go_simp, by go_simp, by go_simp, by go_simp, by go_simp, by go_simp, by go_simp, by go_simp, by go_simp, by go_simp⟩, ⟨by first | (simp; done) | (simp; omega), by go_simp, by go_simp, by go_simp, by go_simp, by go_simp⟩, by simp, by go_simp, by go_simp, by go_simp, by go_simp, by go_simp⟩, (by with_reducible (repeat first | assumption | exact Ext.refl _ | refine Ext.set ?_ (by omega) _ | refine Ext.alloc ?_ _ | refine Ext.drew ?_ | refine Ext.drewN ?_ _ | refine Ext.trans ?_ (by assumption)))⟩ fun W1 ⟨hB, hxw⟩ => ?_
    replace hB := Lib.hid hB
    obtain ⟨⟨lb, p0, p1, p2, p3, p4, p5, p6, p7, p8, p9, p10, p11, p12, p13⟩, ⟨lm, m0, m1, m2, m3, m4⟩, lf, f0, f1, f2, f3, f4⟩ := hB.out
    have hI := Lib.hid (h.ext hxw)
    go_wp2_with (first | (go_at_call 59; refine (checkTick_59 I tick _ (hI.out.ext (by with_reducible (repeat first | assumption | exact Ext.refl _ | refine Ext.set ?_ (by omega) _ | refine Ext.alloc ?_ _ | refine Ext.drew ?_ | refine Ext.drewN ?_ _ | refine Ext.trans ?_ (by assumption))))).mono ?_; rw [hcc.out]; rintro e1 w2 ⟨rfl, hb2⟩; have hx2 : Ext W1 w2 := (by with_reducible (repeat first | assumption | exact Ext.refl _ | refine Ext.set ?_ (by omega) _ | refine Ext.alloc ?_ _ | refine Ext.drew ?_ | refine Ext.drewN ?_ _ | refine Ext.trans ?_ (by assumption))); obtain ⟨hc2, hf2, hz2⟩ := hx2.cells; have hs2 := hb2.size) | (go_at_call 60; refine (havens_60 I tick _ (hI.out.ext (by with_reducible (repeat first | assumption | exact Ext.refl _ | refine Ext.set ?_ (by omega) _ | refine Ext.alloc ?_ _ | refine Ext.drew ?_ | refine Ext.drewN ?_ _ | refine Ext.trans ?_ (by assumption)))) hn'.out hf'.out t0'.out t1'.out).mono ?_; rintro e1 w3 ⟨v, rfl, hO, hb3⟩; replace hO := Lib.hid hO))
    go_ret2
    obtain ⟨A, k, rfl, hR⟩ := hO.out.rows (fun _ => rfl) (by omega)
    exact ⟨fun _ => ⟨A, k, rfl, hR⟩, fun hn => absurd hcc.out hn, (by with_reducible (repeat first | assumption | exact Ext.refl _ | refine Ext.set ?_ (by omega) _ | refine Ext.alloc ?_ _ | refine Ext.drew ?_ | refine Ext.drewN ?_ _ | refine Ext.trans ?_ (by assumption)))⟩
  · have hbb : (I.code tick == (0 : Int)) = false := beq_eq_false_iff_ne.2 hc
    have hbn : (I.code tick != (0 : Int)) = true := by rw [bne_iff_ne]; exact hc
    replace hc := Lib.hid hc
    go_enter Tryz.func18, Tryz.ntmps18
    go_upto_region 1 with (fail)
    refine name_as (P := fun W => Box3 I w.heap.size W ∧ Ext w W) (R := fun W => Code.wp _ _ _ _ W) ⟨⟨⟨by first | (simp; done) | (simp; omega), by go_simp, by go_simp, by go_simp, by go_simp, by go_simp, by go_simp, by go_simp, by go_simp, by go_simp, by go_simp, by go_simp, by go_simp, by go_simp, by go_simp⟩, ⟨by first | (simp; done) | (simp; omega), by go_simp, by go_simp, by go_simp, by go_simp, by go_simp⟩, by simp, by go_simp, by go_simp, by go_simp, by go_simp, by go_simp⟩, (by with_reducible (repeat first | assumption | exact Ext.refl _ | refine Ext.set ?_ (by omega) _ | refine Ext.alloc ?_ _ | refine Ext.drew ?_ | refine Ext.drewN ?_ _ | refine Ext.trans ?_ (by assumption)))⟩ fun W1 ⟨hB, hxw⟩ => ?_
    replace hB := Lib.hid hB
    obtain ⟨⟨lb, p0, p1, p2, p3, p4, p5, p6, p7, p8, p9, p10, p11, p12, p13⟩, ⟨lm, m0, m1, m2, m3, m4⟩, lf, f0, f1, f2, f3, f4⟩ := hB.out
    have hI := Lib.hid (h.ext hxw)
    go_wp2_with (go_at_call 59; refine (checkTick_59 I tick _ (hI.out.ext (by with_reducible (repeat first | assumption | exact Ext.refl _ | refine Ext.set ?_ (by omega) _ | refine Ext.alloc ?_ _ | refine Ext.drew ?_ | refine Ext.drewN ?_ _ | refine Ext.trans ?_ (by assumption))))).mono ?_; rintro e1 w2 ⟨rfl, hb2⟩; have hx2 : Ext W1 w2 := (by with_reducible (repeat first | assumption | exact Ext.refl _ | refine Ext.set ?_ (by omega) _ | refine Ext.alloc ?_ _ | refine Ext.drew ?_ | refine Ext.drewN ?_ _ | refine Ext.trans ?_ (by assumption))); obtain ⟨hc2, hf2, hz2⟩ := hx2.cells; have hs2 := hb2.size)
    go_ret2
    exact ⟨fun h0 => absurd h0 hc.out, fun _ => rfl, (by with_reducible (repeat first | assumption | exact Ext.refl _ | refine Ext.set ?_ (by omega) _ | refine Ext.alloc ?_ _ | refine Ext.drew ?_ | refine Ext.drewN ?_ _ | refine Ext.trans ?_ (by assumption)))⟩
/-- A haven in a block of its own. -/
structure HvAt (w : World) (p : Nat) (x : Haven) : Prop where
  lt : p < w.heap.size
  c0 : w.cell? ⟨p, 0, none⟩ = some (.int .i64 x.place)
  c1 : w.cell? ⟨p, 1, none⟩ = some (.int .i64 x.at_)
  c2 : w.cell? ⟨p, 2, none⟩ = some (.bool x.back)
  free : ∀ o, w.frozen? ⟨p, o, none⟩ = false
theorem HvAt.ext {w w' : World} {p : Nat} {x : Haven} (h : HvAt w p x) (e : Ext w w') : HvAt w' p x := by
  obtain ⟨c, f, z⟩ := e.cells
  exact ⟨z _ h.lt, (c _ _ h.lt).trans h.c0, (c _ _ h.lt).trans h.c1, (c _ _ h.lt).trans h.c2, fun o => (f _ o h.lt).trans (h.free o)⟩
theorem HvAt.but {w w' : World} {p q : Nat} {x : Haven} (h : HvAt w p x) (e : ExtBut q w w') (hp : p ≠ q) : HvAt w' p x := by
  obtain ⟨c, f, z⟩ := e.cells
  exact ⟨z _ h.lt, (c _ _ h.lt hp).trans h.c0, (c _ _ h.lt hp).trans h.c1, (c _ _ h.lt hp).trans h.c2, fun o => (f _ o h.lt).trans (h.free o)⟩
theorem HvAt.put {w : World} {p : Nat} {t : Haven} (h : HvAt w p t) (x : Haven) : HvAt (((w.setCell ⟨p, 0, none⟩ (.int .i64 x.place)).setCell ⟨p, 1, none⟩ (.int .i64 x.at_)).setCell ⟨p, 2, none⟩ (.bool x.back)) p x := by
  refine ⟨by have := h.lt; simpa [World.setCell] using this, ?_, ?_, ?_, fun o => ?_⟩
  · rw [cell_set_ne _ _ (Or.inr (by omega)), cell_set_ne _ _ (Or.inr (by omega)), cell_set_eq _ _ (by rw [h.c0]; rfl)]
  · rw [cell_set_ne _ _ (Or.inr (by omega)), cell_set_eq _ _ (by simp only [isSome_setCell]; rw [h.c1]; rfl)]
  · rw [cell_set_eq _ _ (by simp only [isSome_setCell]; rw [h.c2]; rfl)]
  · exact ((((ExtBut.refl p w).set 0 (.int .i64 x.place)).set 1 (.int .i64 x.at_)).set 2 (.bool x.back)).frozen h.lt o |>.trans (h.free o)
def bestTo (L : List Haven) (k : Nat) : Haven := bestOf (L.take (if k = 0 then 1 else k))
theorem bestTo_succ {L : List Haven} {k : Nat} {x : Haven} (h : L[k]? = some x) : bestTo L (k + 1) = sooner (bestTo L k) x := by
  unfold bestTo
  by_cases h0 : k = 0
  · subst h0
    rw [if_neg (by omega), if_pos rfl, bestOf_one h]
    unfold sooner
    rw [if_neg (by omega)]
  · rw [if_neg (by omega), if_neg h0, bestOf_succ (by omega) h]
theorem bestTo_all {L : List Haven} (h : 1 ≤ L.length) : bestTo L L.length = bestOf L := by
  unfold bestTo
  rw [if_neg (by omega), List.take_of_length_le (Nat.le_refl _)]
set_option maxRecDepth 100000 in
set_option maxHeartbeats 2000000 in
theorem sameHavens_19 (L : List Haven) (A B : Option Addr) (n c d : Nat) (w : World) (hA : Rows 3 Haven.enc w A n L) (hB : Rows 3 Haven.enc w B n L) :
    Calls Tryz.prog 19 #[.slice A n c, .slice B n d] w fun e w' => e = .returned (.bool true) ∧ Ext w w' := by
  obtain rfl := hA.len
  have hsm := hA.small
  go_enter Tryz.func19, Tryz.ntmps19
  go_wp2_with fail
  go_loopw [5] (fun i wr => ∃ k : Nat, k ≤ L.length ∧ i = .int .i64 k ∧ Ext w wr) (fun i _ => L.length - (intOf i).toNat)
  case atStart => exact ⟨0, Nat.zero_le _, rfl, Ext.refl _⟩
  case round =>
    obtain ⟨k, hk, rfl, he⟩ := hrel
    by_cases hlt : k < L.length
    · obtain ⟨x, hx⟩ : ∃ x, L[k]? = some x := ⟨_, List.getElem?_eq_getElem hlt⟩
      obtain ⟨b0, off, rfl, hb0, q0, q1, q2⟩ := (hA.ext he).haven hlt hx
      obtain ⟨b1, off1, rfl, hb1, r0, r1, r2⟩ := (hB.ext he).haven hlt hx
      clear hx
      go_wp2_with fail
      go_quiet (fail)
      go_wp2_with fail
      go_roundw
      case rel => exact ⟨k + 1, by omega, by go_num, (by with_reducible (repeat first | assumption | exact Ext.refl _ | refine Ext.set ?_ (by omega) _ | refine Ext.alloc ?_ _ | refine Ext.drew ?_ | refine Ext.drewN ?_ _ | refine Ext.trans ?_ (by assumption)))⟩
      case measure => simp [intOf]; omega
    · obtain rfl : k = L.length := by omega
      go_wp2_with fail
      go_ret
      exact ⟨rfl, he⟩
set_option maxRecDepth 100000 in
set_option maxHeartbeats 2000000 in
theorem Best_21 (I : Inp) (tick : Int) (w : World) (h : I.In w) :
    Calls Tryz.prog 21 #[I.vm, I.l.val, I.vn, I.vf, .int .i64 tick] w fun e w' => e = .returned (.tuple #[(I.bestR tick).1.val, .int .i64 (I.bestR tick).2]) ∧ Ext w w' := by
  simp only [Inp.vm, Inp.vn, Inp.vf, Met.val, Flight.val, Minima.val]
  by_cases hc : I.code tick = 0
  · obtain ⟨he, t0, t1⟩ := Inp.code_zero hc
    obtain ⟨hn, -, hf, -⟩ := Inp.err_good he
    have hal : (I.P.all tick false).length ≤ I.N.n := I.P.all_length tick false
    have hnn : I.N.n ≤ 8 := (Net.good_parts hn).2.2.1.2.2.2
    have hRb : I.bestR tick = if hasBest (I.P.all tick false) = true then (bestOf (I.P.all tick false), 0) else (z_hv, 3) := by unfold Inp.bestR; rw [if_pos hc]
    have hcc := Lib.hid hc
    have hn' := Lib.hid hn
    have hf' := Lib.hid hf
    have t0' := Lib.hid t0
    have t1' := Lib.hid t1
    clear hc he hn hf t0 t1
    have hrun := Lib.hid (fun W (hW : I.In W) => havens_60 I tick W hW hn'.out hf'.out t0'.out t1'.out)
    generalize I.P.all tick false = L at *
    by_cases hL : L.length = 0
    · obtain rfl : L = [] := List.length_eq_zero_iff.1 hL
      replace hRb := Lib.hid (show I.bestR tick = (z_hv, 3) from hRb)
      clear hL hal
      go_enter Tryz.func21, Tryz.ntmps21
      go_upto_region 1 with (fail)
      refine name_as (P := fun W => Box3 I w.heap.size W ∧ Ext w W ∧ HvAt W (w.heap.size + 1 + 1 + 1) z_hv) (R := fun W => Code.wp _ _ _ _ W) ⟨⟨⟨by first | (simp; done) | (simp; omega), by go_simp, by go_simp, by go_simp, by go_simp, by go_simp, by go_simp, by go_simp, by go_simp, by go_simp, by go_simp, by go_simp, by go_simp, by go_simp, by go_simp⟩, ⟨by first | (simp; done) | (simp; omega), by go_simp, by go_simp, by go_simp, by go_simp, by go_simp⟩, by simp, by go_simp, by go_simp, by go_simp, by go_simp, by go_simp⟩, (by with_reducible (repeat first | assumption | exact Ext.refl _ | refine Ext.set ?_ (by omega) _ | refine Ext.alloc ?_ _ | refine Ext.drew ?_ | refine Ext.drewN ?_ _ | refine Ext.trans ?_ (by assumption))), ⟨by first | (simp; done) | (simp; omega), by first | (go_simp; done) | (go_simp; rfl), by first | (go_simp; done) | (go_simp; rfl), by first | (go_simp; done) | (go_simp; rfl), fun o => by go_simp⟩⟩ fun W1 ⟨hB, hxw, hR⟩ => ?_
      replace hB := Lib.hid hB
      obtain ⟨⟨lb, p0, p1, p2, p3, p4, p5, p6, p7, p8, p9, p10, p11, p12, p13⟩, ⟨lm, m0, m1, m2, m3, m4⟩, lf, f0, f1, f2, f3, f4⟩ := hB.out
      have hI := Lib.hid (h.ext hxw)
      go_wp2_with (first | (go_at_call 59; refine (checkTick_59 I tick _ (hI.out.ext (by with_reducible (repeat first | assumption | exact Ext.refl _ | refine Ext.set ?_ (by omega) _ | refine Ext.alloc ?_ _ | refine Ext.drew ?_ | refine Ext.drewN ?_ _ | refine Ext.trans ?_ (by assumption))))).mono ?_; rw [hcc.out]; rintro e1 w2 ⟨rfl, hb2⟩; have hx2 : Ext W1 w2 := (by with_reducible (repeat first | assumption | exact Ext.refl _ | refine Ext.set ?_ (by omega) _ | refine Ext.alloc ?_ _ | refine Ext.drew ?_ | refine Ext.drewN ?_ _ | refine Ext.trans ?_ (by assumption))); obtain ⟨hc2, hf2, hz2⟩ := hx2.cells; have hs2 := hb2.size) | (go_at_call 60; refine (hrun.out _ (hI.out.ext (by with_reducible (repeat first | assumption | exact Ext.refl _ | refine Ext.set ?_ (by omega) _ | refine Ext.alloc ?_ _ | refine Ext.drew ?_ | refine Ext.drewN ?_ _ | refine Ext.trans ?_ (by assumption))))).mono ?_; rintro e1 w3 ⟨v, rfl, hO, hb3⟩; obtain ⟨A, c, rfl, -⟩ := hO.rows (fun _ => rfl) (by simp); have hx3 : Ext W1 w3 := (by with_reducible (repeat first | assumption | exact Ext.refl _ | refine Ext.set ?_ (by omega) _ | refine Ext.alloc ?_ _ | refine Ext.drew ?_ | refine Ext.drewN ?_ _ | refine Ext.trans ?_ (by assumption))); obtain ⟨r0, r1, r2, r3, r4⟩ := hR.ext hx3))
      refine post_as (fun W => HvAt W (w.heap.size + 1 + 1 + 1) z_hv ∧ Ext w W) ⟨(hR.ext hx3).put z_hv, (by with_reducible (repeat first | assumption | exact Ext.refl _ | refine Ext.set ?_ (by omega) _ | refine Ext.alloc ?_ _ | refine Ext.drew ?_ | refine Ext.drewN ?_ _ | refine Ext.trans ?_ (by assumption)))⟩ fun W => ?_
      rintro ⟨⟨y0, y1, y2, y3, y4⟩, hEW⟩
      refine bodyPost_ret (v := .tuple #[z_hv.val, .int .i64 3]) ?_ rfl ⟨by rw [hRb.out], hEW⟩
      simp [results, go_sem, y1, y2, y3]
    · obtain ⟨z, hz⟩ : ∃ z, L[0]? = some z := ⟨_, List.getElem?_eq_getElem (by omega)⟩
      have hbt : bestTo L 0 = z := bestOf_one hz
      have hhas : hasBest L = true := by cases L with | nil => simp at hL | cons a t => rfl
      rw [if_pos hhas] at hRb
      have hlast := bestTo_all (L := L) (by omega)
      replace hlast := Lib.hid hlast
      replace hRb := Lib.hid hRb
      clear hhas
      have hL0 : ((L.length : Int) == (0 : Int)) = false := beq_eq_false_iff_ne.2 (by omega)
      go_enter Tryz.func21, Tryz.ntmps21
      go_upto_region 1 with (fail)
      refine name_as (P := fun W => Box3 I w.heap.size W ∧ Ext w W ∧ HvAt W (w.heap.size + 1 + 1 + 1) z_hv) (R := fun W => Code.wp _ _ _ _ W) ⟨⟨⟨by first | (simp; done) | (simp; omega), by go_simp, by go_simp, by go_simp, by go_simp, by go_simp, by go_simp, by go_simp, by go_simp, by go_simp, by go_simp, by go_simp, by go_simp, by go_simp, by go_simp⟩, ⟨by first | (simp; done) | (simp; omega), by go_simp, by go_simp, by go_simp, by go_simp, by go_simp⟩, by simp, by go_simp, by go_simp, by go_simp, by go_simp, by go_simp⟩, (by with_reducible (repeat first | assumption | exact Ext.refl _ | refine Ext.set ?_ (by omega) _ | refine Ext.alloc ?_ _ | refine Ext.drew ?_ | refine Ext.drewN ?_ _ | refine Ext.trans ?_ (by assumption))), ⟨by first | (simp; done) | (simp; omega), by first | (go_simp; done) | (go_simp; rfl), by first | (go_simp; done) | (go_simp; rfl), by first | (go_simp; done) | (go_simp; rfl), fun o => by go_simp⟩⟩ fun W1 ⟨hB, hxw, hR⟩ => ?_
      replace hB := Lib.hid hB
      obtain ⟨⟨lb, p0, p1, p2, p3, p4, p5, p6, p7, p8, p9, p10, p11, p12, p13⟩, ⟨lm, m0, m1, m2, m3, m4⟩, lf, f0, f1, f2, f3, f4⟩ := hB.out
      have hI := Lib.hid (h.ext hxw)
      replace hR := Lib.hid hR
      go_upto_region 7 with (first | (go_at_call 59; refine (checkTick_59 I tick _ (hI.out.ext (by with_reducible (repeat first | assumption | exact Ext.refl _ | refine Ext.set ?_ (by omega) _ | refine Ext.alloc ?_ _ | refine Ext.drew ?_ | refine Ext.drewN ?_ _ | refine Ext.trans ?_ (by assumption))))).mono ?_; rw [hcc.out]; rintro e1 w2 ⟨rfl, hb2⟩; have hx2 : Ext W1 w2 := (by with_reducible (repeat first | assumption | exact Ext.refl _ | refine Ext.set ?_ (by omega) _ | refine Ext.alloc ?_ _ | refine Ext.drew ?_ | refine Ext.drewN ?_ _ | refine Ext.trans ?_ (by assumption))); obtain ⟨hc2, hf2, hz2⟩ := hx2.cells; have hs2 := hb2.size) | (go_at_call 60; refine (hrun.out _ (hI.out.ext (by with_reducible (repeat first | assumption | exact Ext.refl _ | refine Ext.set ?_ (by omega) _ | refine Ext.alloc ?_ _ | refine Ext.drew ?_ | refine Ext.drewN ?_ _ | refine Ext.trans ?_ (by assumption))))).mono ?_; rintro e1 w3 ⟨v, rfl, hO, hb3⟩; obtain ⟨A, c, rfl, hRr⟩ := hO.rows (fun _ => rfl) (by omega); have hx3 : Ext W1 w3 := (by with_reducible (repeat first | assumption | exact Ext.refl _ | refine Ext.set ?_ (by omega) _ | refine Ext.alloc ?_ _ | refine Ext.drew ?_ | refine Ext.drewN ?_ _ | refine Ext.trans ?_ (by assumption))); replace hO := Lib.hid hO; obtain ⟨b9, off9, rfl, hb9, z0, z1, z2⟩ := hRr.haven (by omega) hz; replace hRr := Lib.hid hRr))
      simp only [Nat.zero_mul, Nat.add_zero] at z0 z1 z2
      have hlen : 0 < L.length := by omega
      have hsW := hxw.size
      have hs3 := hx3.size
      go_upto_region 8 with (fail)
      refine name_as (P := fun W => HvAt W w3.heap.size (bestTo L 0) ∧ Ext w3 W) (R := fun W => Code.wp _ _ _ _ W) ⟨by rw [hbt]; exact ⟨by simp, by simp, by simp, by simp, fun o => by simp⟩, (by with_reducible (repeat first | assumption | exact Ext.refl _ | refine Ext.set ?_ (by omega) _ | refine Ext.alloc ?_ _ | refine Ext.drew ?_ | refine Ext.drewN ?_ _ | refine Ext.trans ?_ (by assumption)))⟩ fun W5 ⟨hH, hx5⟩ => ?_
      replace hbt := Lib.hid hbt
      have hR5 := Lib.hid (hRr.out.ext hx5)
      have hRes5 := Lib.hid (hR.out.ext (hx3.trans hx5))
      have hxw5 : Ext w W5 := hxw.trans (hx3.trans hx5)
      have hHl := hH.lt
      clear hx5 z0 z1 z2 hz hc2 hf2 hz2
      go_wp2_with fail
      go_loopw [15] (fun i wr => ∃ k : Nat, k ≤ L.length ∧ i = .int .i64 k ∧ HvAt wr w3.heap.size (bestTo L k) ∧ ExtBut w3.heap.size W5 wr) (fun i _ => L.length - (intOf i).toNat)
      case atStart => exact ⟨0, Nat.zero_le _, rfl, hH, ExtBut.refl _ _⟩
      case round =>
        clear hH
        obtain ⟨k, hk, rfl, hh, he⟩ := hrel
        by_cases hlt : k < L.length
        · obtain ⟨x, hx⟩ : ∃ x, L[k]? = some x := ⟨_, List.getElem?_eq_getElem hlt⟩
          have hst := Lib.hid (bestTo_succ hx)
          generalize bestTo L k = u at *
          have hR6 := hR5.out.but he (fun _ b off e => by simp only [Option.some.injEq, Addr.mk.injEq, and_true] at e; omega)
          obtain ⟨b8, off8, hA8, hb8, z0, z1, z2⟩ := hR6.haven hlt hx
          simp only [Option.some.injEq, Addr.mk.injEq, and_true] at hA8
          obtain ⟨rfl, rfl⟩ := hA8
          have hhx := Lib.hid hh
          obtain ⟨y0, y1, y2, y3, y4⟩ := hh
          have i1 : (k : Int) < (L.length : Int) := by omega
          clear hx hR6
          by_cases hl : x.at_ < u.at_
          · have hs := Lib.hid (show sooner u x = x by unfold sooner; rw [if_pos hl])
            go_wp2_with fail
            try (go_quiet (fail); go_wp2_with fail)
            go_roundw
            case rel => exact ⟨k + 1, by omega, by go_num, by rw [hst.out, hs.out]; first | exact hhx.out.put x | exact (hhx.out.ext ((by with_reducible (repeat first | assumption | exact Ext.refl _ | refine Ext.set ?_ (by omega) _ | refine Ext.alloc ?_ _ | refine Ext.drew ?_ | refine Ext.drewN ?_ _ | refine Ext.trans ?_ (by assumption))) : Ext wr _)).put x, by first | exact ((he.set _ _).set _ _).set _ _ | exact (((he.drewN _).set _ _).set _ _).set _ _⟩
            case measure => simp [intOf]; omega
          · have hs := Lib.hid (show sooner u x = u by unfold sooner; rw [if_neg hl])
            have hd : decide (x.at_ < u.at_) = false := decide_eq_false hl
            replace hl := Lib.hid hl
            go_wp2_with fail
            try (go_quiet (fail); go_wp2_with fail)
            go_roundw
            case rel =>
              first
              | exact ⟨k + 1, by omega, by go_num, by rw [hst.out, hs.out]; exact hhx.out.ext (by with_reducible (repeat first | assumption | exact Ext.refl _ | refine Ext.set ?_ (by omega) _ | refine Ext.alloc ?_ _ | refine Ext.drew ?_ | refine Ext.drewN ?_ _ | refine Ext.trans ?_ (by assumption))), he.trans (((by with_reducible (repeat first | assumption | exact Ext.refl _ | refine Ext.set ?_ (by omega) _ | refine Ext.alloc ?_ _ | refine Ext.drew ?_ | refine Ext.drewN ?_ _ | refine Ext.trans ?_ (by assumption))) : Ext wr _).but _)⟩
              | ((repeat apply Exists.intro); refine ⟨?_, rfl⟩; exact ⟨k + 1, by omega, by go_num, by rw [hst.out, hs.out]; exact hhx.out.ext (by with_reducible (repeat first | assumption | exact Ext.refl _ | refine Ext.set ?_ (by omega) _ | refine Ext.alloc ?_ _ | refine Ext.drew ?_ | refine Ext.drewN ?_ _ | refine Ext.trans ?_ (by assumption))), he.trans (((by with_reducible (repeat first | assumption | exact Ext.refl _ | refine Ext.set ?_ (by omega) _ | refine Ext.alloc ?_ _ | refine Ext.drew ?_ | refine Ext.drewN ?_ _ | refine Ext.trans ?_ (by assumption))) : Ext wr _).but _)⟩)
            case measure => simp [intOf]; omega
        · obtain rfl : k = L.length := by omega
          rw [hlast.out] at hh
          have hRr6 := hRes5.out.but he (by have := hR.out.lt; omega)
          have hEr := Lib.hid (ExtBut.ext hxw5 he (by omega))
          have hRr7 := Lib.hid hRr6
          obtain ⟨r0, r1, r2, r3, r4⟩ := hRr6
          obtain ⟨y0, y1, y2, y3, y4⟩ := hh
          go_wp2_with fail
          refine post_as (fun W => HvAt W (w.heap.size + 1 + 1 + 1) (bestOf L) ∧ Ext w W) ⟨hRr7.out.put (bestOf L), ?_⟩ fun W => ?_
          · have h1 := hEr.out
            exact (by with_reducible (repeat first | assumption | exact Ext.refl _ | refine Ext.set ?_ (by omega) _ | refine Ext.alloc ?_ _ | refine Ext.drew ?_ | refine Ext.drewN ?_ _ | refine Ext.trans ?_ (by assumption)))
          · rintro ⟨⟨q0, q1, q2, q3, q4⟩, hEW⟩
            refine bodyPost_ret (v := .tuple #[(bestOf L).val, .int .i64 0]) ?_ rfl ⟨by rw [hRb.out], hEW⟩
            simp [results, go_sem, q1, q2, q3]
  · have hRb := Lib.hid (show I.bestR tick = (z_hv, I.code tick) by unfold Inp.bestR; rw [if_neg hc])
    have hbb : (I.code tick == (0 : Int)) = false := beq_eq_false_iff_ne.2 hc
    have hbn : (I.code tick != (0 : Int)) = true := by rw [bne_iff_ne]; exact hc
    replace hc := Lib.hid hc
    go_enter Tryz.func21, Tryz.ntmps21
    go_upto_region 1 with (fail)
    refine name_as (P := fun W => Box3 I w.heap.size W ∧ Ext w W ∧ HvAt W (w.heap.size + 1 + 1 + 1) z_hv) (R := fun W => Code.wp _ _ _ _ W) ⟨⟨⟨by first | (simp; done) | (simp; omega), by go_simp, by go_simp, by go_simp, by go_simp, by go_simp, by go_simp, by go_simp, by go_simp, by go_simp, by go_simp, by go_simp, by go_simp, by go_simp, by go_simp⟩, ⟨by first | (simp; done) | (simp; omega), by go_simp, by go_simp, by go_simp, by go_simp, by go_simp⟩, by simp, by go_simp, by go_simp, by go_simp, by go_simp, by go_simp⟩, (by with_reducible (repeat first | assumption | exact Ext.refl _ | refine Ext.set ?_ (by omega) _ | refine Ext.alloc ?_ _ | refine Ext.drew ?_ | refine Ext.drewN ?_ _ | refine Ext.trans ?_ (by assumption))), ⟨by first | (simp; done) | (simp; omega), by first | (go_simp; done) | (go_simp; rfl), by first | (go_simp; done) | (go_simp; rfl), by first | (go_simp; done) | (go_simp; rfl), fun o => by go_simp⟩⟩ fun W1 ⟨hB, hxw, hR⟩ => ?_
    replace hB := Lib.hid hB
    obtain ⟨⟨lb, p0, p1, p2, p3, p4, p5, p6, p7, p8, p9, p10, p11, p12, p13⟩, ⟨lm, m0, m1, m2, m3, m4⟩, lf, f0, f1, f2, f3, f4⟩ := hB.out
    have hI := Lib.hid (h.ext hxw)
    replace hR := Lib.hid hR
    go_wp2_with (go_at_call 59; refine (checkTick_59 I tick _ (hI.out.ext (by with_reducible (repeat first | assumption | exact Ext.refl _ | refine Ext.set ?_ (by omega) _ | refine Ext.alloc ?_ _ | refine Ext.drew ?_ | refine Ext.drewN ?_ _ | refine Ext.trans ?_ (by assumption))))).mono ?_; rintro e1 w2 ⟨rfl, hb2⟩; have hx2 : Ext W1 w2 := (by with_reducible (repeat first | assumption | exact Ext.refl _ | refine Ext.set ?_ (by omega) _ | refine Ext.alloc ?_ _ | refine Ext.drew ?_ | refine Ext.drewN ?_ _ | refine Ext.trans ?_ (by assumption))); obtain ⟨r0, r1, r2, r3, r4⟩ := hR.out.ext hx2)
    refine post_as (fun W => HvAt W (w.heap.size + 1 + 1 + 1) z_hv ∧ Ext w W) ⟨(hR.out.ext hx2).put z_hv, (by with_reducible (repeat first | assumption | exact Ext.refl _ | refine Ext.set ?_ (by omega) _ | refine Ext.alloc ?_ _ | refine Ext.drew ?_ | refine Ext.drewN ?_ _ | refine Ext.trans ?_ (by assumption)))⟩ fun W => ?_
    rintro ⟨⟨y0, y1, y2, y3, y4⟩, hEW⟩
    refine bodyPost_ret (v := .tuple #[z_hv.val, .int .i64 (I.code tick)]) ?_ rfl ⟨by rw [hRb.out], hEW⟩
    simp [results, go_sem, y1, y2, y3]
end Go.Proofs.YtmmimbcfgobnaaaGreat
