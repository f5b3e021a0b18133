/- The law RouteTimes: its walk. -/
import Derived.Test.YtmmimbcfgobnaaaGreatT0
namespace Go.Proofs.YtmmimbcfgobnaaaGreat
open Go.RowKit
set_option linter.unusedVariables false
set_option linter.unusedSimpArgs false
attribute [local go_sem] stored_match isSome_setCell
theorem TabOwn.rowR {w : World} {lo hi g n : Nat} {r : Nat → Nat} {f : Tab} (h : TabOwn w lo hi g n r f) {i : Nat} (hi' : i < n) (hn : n ≤ 8) : Rows 1 encInt w (some ⟨r i, 0, none⟩) n (rowOf f i n) :=
  ⟨rowOf_length _ _ _, by omega, fun _ => ⟨r i, 0, rfl, Nat.lt_of_lt_of_le (h.r2 i hi') h.hi_, fun j hj k hk => by
    rw [rowOf_length] at hj
    obtain rfl : k = 0 := by omega
    rw [Nat.zero_add, Nat.mul_one, Nat.add_zero, h.cell i j hi' hj]
    simp [encInt, rowOf]⟩⟩
theorem TabC.rowR {w : World} {lo hi g n : Nat} {r cp : Nat → Nat} {f : Tab} (h : TabC w lo hi g n r cp f) {i : Nat} (hi' : i < n) (hn : n ≤ 8) : Rows 1 encInt w (some ⟨r i, 0, none⟩) n (rowOf f i n) :=
  ⟨rowOf_length _ _ _, by omega, fun _ => ⟨r i, 0, rfl, Nat.lt_of_lt_of_le (h.r2 i hi') h.hi_, fun j hj k hk => by
    rw [rowOf_length] at hj
    obtain rfl : k = 0 := by omega
    rw [Nat.zero_add, Nat.mul_one, Nat.add_zero, h.cell i j hi' hj]
    simp [encInt, rowOf]⟩⟩
set_option maxRecDepth 100000 in
set_option maxHeartbeats 2000000 in
theorem law_5 (I : Inp) (w : World) (h : I.In w) : Calls Tryz.prog 5 #[I.vp, I.vf] w fun e w' => e = .returned (.bool true) ∧ Ext w w' := by
  simp only [Inp.vp, Inp.vf, Flight.val]
  go_enter Tryz.func5, Tryz.ntmps5
  go_wp2_with fail
  refine name_world_as (P := fun W => Boxed I w.heap.size W ∧ Ext w W) (R := fun W => Code.wp _ _ _ _ W) ⟨Boxed.new I w, (by with_reducible (repeat first | assumption | exact Ext.refl _ | refine Ext.set ?_ (by omega) _ | refine Ext.alloc ?_ _ | refine Ext.drew ?_ | refine Ext.drewN ?_ _ | refine Ext.trans ?_ (by assumption)))⟩ fun W1 ⟨hB, hxw⟩ => ?_
  have hI := Lib.hid (h.ext hxw)
  have hBx := Lib.hid hB
  obtain ⟨p0, p1, p2, p3, p4, p5, p6, p7, p8, p9, p10, p11, p12, p13, p14, p15, p16, p17, p18, p19, f0, f1, f2, f3, f4, lb⟩ := hB
  have lb0 : w.heap.size < W1.heap.size := by omega
  have tok1 : True := trivial
  go_region_held3 (fun w' => HoldsAll W1 w') ((with_reducible ((repeat refine HoldsAll.drew ?_); first | (first | assumption | exact HoldsAll.refl _ | exact HoldsAll.of_drew (by assumption)) | (refine HoldsAll.ext ?_ (by assumption); first | assumption | exact HoldsAll.refl _ | exact HoldsAll.of_drew (by assumption)) | (refine HoldsAll.alloc ?_ _; first | assumption | exact HoldsAll.refl _ | exact HoldsAll.of_drew (by assumption)) | exact HoldsAll.realloc (by first | assumption | exact HoldsAll.refl _ | exact HoldsAll.of_drew (by assumption)) (by omega) | ((repeat first | refine HoldsAll.fresh ?_ (by omega) _); first | assumption | exact HoldsAll.refl _ | exact HoldsAll.of_drew (by assumption))))) (first | (go_at_call 26; refine (Check_26 I _ (hI.out.ext (by with_reducible (repeat first | assumption | exact Ext.refl _ | refine Ext.set ?_ (by omega) _ | refine Ext.alloc ?_ _ | refine Ext.drew ?_ | refine Ext.drewN ?_ _ | refine Ext.trans ?_ (by assumption))))).mono ?_; rintro e1 w2 ⟨rfl, hb2⟩) | (go_at_call 25; refine (Check_25 I _ (hI.out.ext (by with_reducible (repeat first | assumption | exact Ext.refl _ | refine Ext.set ?_ (by omega) _ | refine Ext.alloc ?_ _ | refine Ext.drew ?_ | refine Ext.drewN ?_ _ | refine Ext.trans ?_ (by assumption))))).mono ?_; rintro e1 w3 ⟨rfl, hb3⟩))
  by_cases hc : I.N.check = 0
  · have hng := Lib.hid (Net.check_good hc)
    replace hc := Lib.hid hc
    go_wp2_with (first | (go_at_call 23; refine (times23_ok I _ (hI.out.ext (by with_reducible (repeat first | assumption | exact Ext.refl _ | refine Ext.set ?_ (by omega) _ | refine Ext.alloc ?_ _ | refine Ext.drew ?_ | refine Ext.drewN ?_ _ | refine Ext.trans ?_ (by assumption)))) hc.out).mono ?_; rintro e1 w4 ⟨lo, hi, g, c, r, rfl, hT, hb4⟩; replace hT := Lib.hid hT; obtain ⟨hc4, hf4, hz4⟩ := hb4.cells) | (go_at_call 27; refine (times27_ok I _ (hI.out.ext (by with_reducible (repeat first | assumption | exact Ext.refl _ | refine Ext.set ?_ (by omega) _ | refine Ext.alloc ?_ _ | refine Ext.drew ?_ | refine Ext.drewN ?_ _ | refine Ext.trans ?_ (by assumption)))) hc.out).mono ?_; rintro e1 w5 ⟨lo', hi', g', c', r', cp', rfl, hT', hb5⟩; replace hT' := Lib.hid hT'; obtain ⟨hc5, hf5, hz5⟩ := hb5.cells))
    obtain ⟨-, hp, ⟨n1, n2, n3, n8⟩, -, -⟩ := Net.good_parts hng.out
    have hx5 : Ext W1 w5 := (by with_reducible (repeat first | assumption | exact Ext.refl _ | refine Ext.set ?_ (by omega) _ | refine Ext.alloc ?_ _ | refine Ext.drew ?_ | refine Ext.drewN ?_ _ | refine Ext.trans ?_ (by assumption)))
    generalize I.N.n = n at *
    clear p0 p1 p2 p3 p4 p5 p6 p7 p8 p9 p10 p11 p12 p13 p14 p15 p16 p17 p18 p19 f0 f1 f2 f3 f4 lb lb0 hc4 hf4 hz4 hc5 hf5 hz5
    go_loopw [9] (fun i wr => ∃ k : Nat, k ≤ n ∧ i = .int .i64 k ∧ Ext w5 wr) (fun i _ => n - (intOf i).toNat)
    case atStart => exact ⟨0, Nat.zero_le _, rfl, Ext.refl _⟩
    case round =>
      obtain ⟨k, hk, rfl, he5⟩ := hrel
      have hxr : Ext W1 wr := hx5.trans he5
      by_cases hlt : k < n
      · have hTr := hT.out.ext (hb5.trans he5)
        have hTr' := hT'.out.ext he5
        have r1 := hTr.row k hlt
        have r2 := hTr'.row k hlt
        have l1 := Nat.lt_of_lt_of_le hTr.g2 hTr.hi_
        have l2 := Nat.lt_of_lt_of_le hTr'.g2 hTr'.hi_
        have q1 := Lib.hid (hTr.rowR hlt n8)
        have q2 := Lib.hid (hTr'.rowR hlt n8)
        have i0 : (0 : Int) ≤ (k : Int) := by omega
        have i1 : (k : Int) < (n : Int) := by omega
        clear hTr hTr'
        go_wp2_with fail
        go_region_held3 (fun w' => HoldsAll wr w') ((with_reducible ((repeat refine HoldsAll.drew ?_); first | (first | assumption | exact HoldsAll.refl _ | exact HoldsAll.of_drew (by assumption)) | (refine HoldsAll.ext ?_ (by assumption); first | assumption | exact HoldsAll.refl _ | exact HoldsAll.of_drew (by assumption)) | (refine HoldsAll.alloc ?_ _; first | assumption | exact HoldsAll.refl _ | exact HoldsAll.of_drew (by assumption)) | exact HoldsAll.realloc (by first | assumption | exact HoldsAll.refl _ | exact HoldsAll.of_drew (by assumption)) (by omega) | ((repeat first | refine HoldsAll.fresh ?_ (by omega) _); first | assumption | exact HoldsAll.refl _ | exact HoldsAll.of_drew (by assumption))))) (first | (go_at_call 28; refine (sameInts_28 (rowOf I.N.T k n) _ _ n _ _ _ (q1.out.ext (by with_reducible (repeat first | assumption | exact Ext.refl _ | refine Ext.set ?_ (by omega) _ | refine Ext.alloc ?_ _ | refine Ext.drew ?_ | refine Ext.drewN ?_ _ | refine Ext.trans ?_ (by assumption)))) (q2.out.ext (by with_reducible (repeat first | assumption | exact Ext.refl _ | refine Ext.set ?_ (by omega) _ | refine Ext.alloc ?_ _ | refine Ext.drew ?_ | refine Ext.drewN ?_ _ | refine Ext.trans ?_ (by assumption))))).mono ?_; rintro e1 w6 ⟨rfl, hb6⟩))
        go_wp2_with fail
        go_roundw
        case rel => exact ⟨k + 1, by omega, by go_num, (by with_reducible (repeat first | assumption | exact Ext.refl _ | refine Ext.set ?_ (by omega) _ | refine Ext.alloc ?_ _ | refine Ext.drew ?_ | refine Ext.drewN ?_ _ | refine Ext.trans ?_ (by assumption)))⟩
        case measure => simp [intOf]; omega
      · obtain rfl : k = n := by omega
        have l0 := hBx.out.lt
        obtain ⟨p0, p1, p2, p3, p4, p5, p6, p7, p8, p9, p10, p11, p12, p13, p14, p15, p16, p17, p18, p19, f0, f1, f2, f3, f4, lb⟩ := hBx.out.ext hxr
        have lb0 : w.heap.size < wr.heap.size := by omega
        replace hI := Lib.hid (hI.out.ext hxr)
        by_cases he : I.err0 = 0
        · replace he := Lib.hid he
          go_wp2_with (first | (go_at_call 24; refine (arrive24_ok I _ (hI.out.ext (by with_reducible (repeat first | assumption | exact Ext.refl _ | refine Ext.set ?_ (by omega) _ | refine Ext.alloc ?_ _ | refine Ext.drew ?_ | refine Ext.drewN ?_ _ | refine Ext.trans ?_ (by assumption)))) he.out).mono ?_; rintro e1 w6 ⟨A6, k6, rfl, hR6, hb6⟩; replace hR6 := Lib.hid hR6; obtain ⟨hc6, hf6, hz6⟩ := hb6.cells) | (go_at_call 29; refine (arrive29_ok I _ (hI.out.ext (by with_reducible (repeat first | assumption | exact Ext.refl _ | refine Ext.set ?_ (by omega) _ | refine Ext.alloc ?_ _ | refine Ext.drew ?_ | refine Ext.drewN ?_ _ | refine Ext.trans ?_ (by assumption)))) he.out).mono ?_; rintro e1 w7 ⟨A7, k7, rfl, hR7, hb7⟩; replace hR7 := Lib.hid hR7) | (go_at_call 28; refine (sameInts_28 I.A _ _ _ _ _ _ (hR6.out.ext (by with_reducible (repeat first | assumption | exact Ext.refl _ | refine Ext.set ?_ (by omega) _ | refine Ext.alloc ?_ _ | refine Ext.drew ?_ | refine Ext.drewN ?_ _ | refine Ext.trans ?_ (by assumption)))) (hR7.out.ext (by with_reducible (repeat first | assumption | exact Ext.refl _ | refine Ext.set ?_ (by omega) _ | refine Ext.alloc ?_ _ | refine Ext.drew ?_ | refine Ext.drewN ?_ _ | refine Ext.trans ?_ (by assumption))))).mono ?_; rintro e1 w8 ⟨rfl, hb8⟩) | (go_at_call 16; refine (works_16 _).mono ?_; rintro e1 w9 ⟨rfl, hb9⟩))
          go_ret
          exact ⟨rfl, (by with_reducible (repeat first | assumption | exact Ext.refl _ | refine Ext.set ?_ (by omega) _ | refine Ext.alloc ?_ _ | refine Ext.drew ?_ | refine Ext.drewN ?_ _ | refine Ext.trans ?_ (by assumption)))⟩
        · have heb : (I.err0 == (0 : Int)) = false := beq_eq_false_iff_ne.2 he
          replace he := Lib.hid he
          go_wp2_with (first | (go_at_call 24; refine (arrive24_bad I _ (hI.out.ext (by with_reducible (repeat first | assumption | exact Ext.refl _ | refine Ext.set ?_ (by omega) _ | refine Ext.alloc ?_ _ | refine Ext.drew ?_ | refine Ext.drewN ?_ _ | refine Ext.trans ?_ (by assumption)))) he.out).mono ?_; rintro e1 w6 ⟨rfl, hb6⟩; obtain ⟨hc6, hf6, hz6⟩ := hb6.cells) | (go_at_call 29; refine (arrive29_bad I _ (hI.out.ext (by with_reducible (repeat first | assumption | exact Ext.refl _ | refine Ext.set ?_ (by omega) _ | refine Ext.alloc ?_ _ | refine Ext.drew ?_ | refine Ext.drewN ?_ _ | refine Ext.trans ?_ (by assumption)))) he.out).mono ?_; rintro e1 w7 ⟨rfl, hb7⟩) | (go_at_call 28; refine (sameInts_28 [] none none 0 0 0 _ (Rows.nil _ _ _ _) (Rows.nil _ _ _ _)).mono ?_; rintro e1 w8 ⟨rfl, hb8⟩) | (go_at_call 16; refine (works_16 _).mono ?_; rintro e1 w9 ⟨rfl, hb9⟩))
          go_ret
          exact ⟨rfl, (by with_reducible (repeat first | assumption | exact Ext.refl _ | refine Ext.set ?_ (by omega) _ | refine Ext.alloc ?_ _ | refine Ext.drew ?_ | refine Ext.drewN ?_ _ | refine Ext.trans ?_ (by assumption)))⟩
  · have hcb : (I.N.check == (0 : Int)) = false := beq_eq_false_iff_ne.2 hc
    have he : I.err0 ≠ 0 := by rw [Inp.err0_net hc]; exact hc
    replace hc := Lib.hid hc
    replace he := Lib.hid he
    go_wp2_with (first | (go_at_call 23; refine (times23_bad I _ (hI.out.ext (by with_reducible (repeat first | assumption | exact Ext.refl _ | refine Ext.set ?_ (by omega) _ | refine Ext.alloc ?_ _ | refine Ext.drew ?_ | refine Ext.drewN ?_ _ | refine Ext.trans ?_ (by assumption)))) hc.out).mono ?_; rintro e1 w4 ⟨rfl, hb4⟩; obtain ⟨hc4, hf4, hz4⟩ := hb4.cells) | (go_at_call 27; refine (times27_bad I _ (hI.out.ext (by with_reducible (repeat first | assumption | exact Ext.refl _ | refine Ext.set ?_ (by omega) _ | refine Ext.alloc ?_ _ | refine Ext.drew ?_ | refine Ext.drewN ?_ _ | refine Ext.trans ?_ (by assumption)))) hc.out).mono ?_; rintro e1 w5 ⟨rfl, hb5⟩; obtain ⟨hc5, hf5, hz5⟩ := hb5.cells))
    have hx5 : Ext W1 w5 := (by with_reducible (repeat first | assumption | exact Ext.refl _ | refine Ext.set ?_ (by omega) _ | refine Ext.alloc ?_ _ | refine Ext.drew ?_ | refine Ext.drewN ?_ _ | refine Ext.trans ?_ (by assumption)))
    clear p0 p1 p2 p3 p4 p5 p6 p7 p8 p9 p10 p11 p12 p13 p14 p15 p16 p17 p18 p19 f0 f1 f2 f3 f4 lb lb0 hc4 hf4 hz4 hc5 hf5 hz5
    go_loopw [9] (fun i wr => i = .int .i64 0 ∧ Ext w5 wr) (fun i _ => 0)
    case atStart => exact ⟨rfl, Ext.refl _⟩
    case round =>
      obtain ⟨rfl, he5⟩ := hrel
      have hxr : Ext W1 wr := hx5.trans he5
      obtain ⟨p0, p1, p2, p3, p4, p5, p6, p7, p8, p9, p10, p11, p12, p13, p14, p15, p16, p17, p18, p19, f0, f1, f2, f3, f4, lb⟩ := hBx.out.ext hxr
      have lb0 : w.heap.size < wr.heap.size := by omega
      replace hI := Lib.hid (hI.out.ext hxr)
      have heb : (I.err0 == (0 : Int)) = false := beq_eq_false_iff_ne.2 he.out
      go_wp2_with (first | (go_at_call 24; refine (arrive24_bad I _ (hI.out.ext (by with_reducible (repeat first | assumption | exact Ext.refl _ | refine Ext.set ?_ (by omega) _ | refine Ext.alloc ?_ _ | refine Ext.drew ?_ | refine Ext.drewN ?_ _ | refine Ext.trans ?_ (by assumption)))) he.out).mono ?_; rintro e1 w6 ⟨rfl, hb6⟩; obtain ⟨hc6, hf6, hz6⟩ := hb6.cells) | (go_at_call 29; refine (arrive29_bad I _ (hI.out.ext (by with_reducible (repeat first | assumption | exact Ext.refl _ | refine Ext.set ?_ (by omega) _ | refine Ext.alloc ?_ _ | refine Ext.drew ?_ | refine Ext.drewN ?_ _ | refine Ext.trans ?_ (by assumption)))) he.out).mono ?_; rintro e1 w7 ⟨rfl, hb7⟩) | (go_at_call 28; refine (sameInts_28 [] none none 0 0 0 _ (Rows.nil _ _ _ _) (Rows.nil _ _ _ _)).mono ?_; rintro e1 w8 ⟨rfl, hb8⟩) | (go_at_call 16; refine (works_16 _).mono ?_; rintro e1 w9 ⟨rfl, hb9⟩))
      go_ret
      exact ⟨rfl, (by with_reducible (repeat first | assumption | exact Ext.refl _ | refine Ext.set ?_ (by omega) _ | refine Ext.alloc ?_ _ | refine Ext.drew ?_ | refine Ext.drewN ?_ _ | refine Ext.trans ?_ (by assumption)))⟩
end Go.Proofs.YtmmimbcfgobnaaaGreat
