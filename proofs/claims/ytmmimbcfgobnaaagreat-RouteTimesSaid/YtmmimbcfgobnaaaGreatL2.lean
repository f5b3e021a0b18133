/- works. -/
import Derived.Test.YtmmimbcfgobnaaaGreatL1
namespace Go.Proofs.YtmmimbcfgobnaaaGreat
open Go.RowKit
set_option linter.unusedVariables false
set_option linter.unusedSimpArgs false
attribute [local go_sem] stored_match isSome_setCell

theorem ex_least0 : (exI 0 0 0).leastR = (72, 0) := by decide +kernel
theorem ex_best0 : (exI 0 0 0).bestR 12 = (⟨1, 14, true⟩, 0) := by decide +kernel
theorem ex_least (bF bX bR : Nat) : (exI bF bX bR).leastR = (72, 0) := Eq.trans (show (exI bF bX bR).leastR = (exI 0 0 0).leastR from rfl) ex_least0
theorem ex_best (bF bX bR : Nat) : (exI bF bX bR).bestR 12 = (⟨1, 14, true⟩, 0) := Eq.trans (show (exI bF bX bR).bestR 12 = (exI 0 0 0).bestR 12 from rfl) ex_best0
theorem exI_short (bF bX bR : Nat) : (exI bF bX bR).Short := ⟨by show 2 ≤ 12; omega, by show 0 ≤ 12; omega⟩
theorem name_world_as {R : World → Prop} {W : World} {P : World → Prop} (hP : P W) (h : ∀ W, P W → R W) : R W := h W hP
theorem Example' (w : World) : Calls Tryz.prog 56 #[] w fun e w' => ∃ bF bX bR, e = .returned (.tuple #[.agg (exCells bF bX), .agg (exCellsF bR)]) ∧ (exI bF bX bR).In w' ∧ Ext w w' :=
  (Example_56 w).mono fun e w' h => h
set_option maxRecDepth 100000 in
set_option maxHeartbeats 2000000 in
theorem works_16 (w : World) : Calls Tryz.prog 16 #[] w fun e w' => e = .returned (.bool true) ∧ Ext w w' := by
  have i34 : (Tryz.prog.info? 34).map (·.size) = some 20 := by kernel_rfl
  replace i34 := Lib.hid i34
  go_enter Tryz.func16, Tryz.ntmps16
  go_wp2_with fail
  refine (Example' _).mono ?_
  rintro e1 w1 ⟨bF, bX, bR, rfl, hI, hb1⟩
  have tP : ((w1.alloc (.cells #[.int .i64 0, .int .i64 0, .int .i64 0, .int .i64 0, .int .i64 0, .int .i64 0, .int .i64 0, .bool false, .bool false, .int .i64 0, .int .i64 0, .int .i64 0, .slice none 0 0, .slice none 0 0, .int .i64 0, .int .i64 0, .int .i64 0, .bool false, .bool false, .slice none 0 0] 34)).alloc (.cells #[.slice none 0 0, .int .i64 0, .int .i64 0, .int .i64 0, .int .i64 0] 37)).there w1.heap.size 0 20 := World.there_alloc (fun j hj => by
    have h := Room.new w1 #[.int .i64 0, .int .i64 0, .int .i64 0, .int .i64 0, .int .i64 0, .int .i64 0, .int .i64 0, .bool false, .bool false, .int .i64 0, .int .i64 0, .int .i64 0, .slice none 0 0, .slice none 0 0, .int .i64 0, .int .i64 0, .int .i64 0, .bool false, .bool false, .slice none 0 0] 34 (b := w1.heap.size) (n := 20) rfl rfl
    rw [Nat.zero_add]
    exact ⟨h.some_ j hj, h.free j⟩) _
  replace tP := Lib.hid tP
  replace hI := Lib.hid hI
  have hlE := Lib.hid (ex_least bF bX bR)
  have hbE := Lib.hid (ex_best bF bX bR)
  have i37 : (Tryz.prog.info? 37).map (·.size) = some 5 := by kernel_rfl
  replace i37 := Lib.hid i37
  have tQ : (((w1.alloc (.cells #[.int .i64 0, .int .i64 0, .int .i64 0, .int .i64 0, .int .i64 0, .int .i64 0, .int .i64 0, .bool false, .bool false, .int .i64 0, .int .i64 0, .int .i64 0, .slice none 0 0, .slice none 0 0, .int .i64 0, .int .i64 0, .int .i64 0, .bool false, .bool false, .slice none 0 0] 34)).alloc (.cells #[.slice none 0 0, .int .i64 0, .int .i64 0, .int .i64 0, .int .i64 0] 37)).setCells w1.heap.size 0 (exCells bF bX).toList).there (w1.heap.size + 1) 0 5 := World.there_setCells (fun j hj => by
    have h := Room.new (w1.alloc (.cells #[.int .i64 0, .int .i64 0, .int .i64 0, .int .i64 0, .int .i64 0, .int .i64 0, .int .i64 0, .bool false, .bool false, .int .i64 0, .int .i64 0, .int .i64 0, .slice none 0 0, .slice none 0 0, .int .i64 0, .int .i64 0, .int .i64 0, .bool false, .bool false, .slice none 0 0] 34)) #[.slice none 0 0, .int .i64 0, .int .i64 0, .int .i64 0, .int .i64 0] 37 (b := w1.heap.size + 1) (n := 5) (by simp) rfl
    rw [Nat.zero_add]
    exact ⟨h.some_ j hj, h.free j⟩) _ _ _
  replace tQ := Lib.hid tQ
  go_upto_region 2 with (first | ((with_reducible refine at_list ?_); refine wpList_store_mid rfl 34 (.tmp 1) (.tmp 9) (by rfl) w1.heap.size 0 (exCells bF bX) (by rfl) (by rfl) ?_ i34.out (exCells_one _ _) ?_; exact tP.out) | ((with_reducible refine at_list ?_); refine wpList_store_mid rfl 37 (.tmp 2) (.tmp 10) (by rfl) (w1.heap.size + 1) 0 (exCellsF bR) (by rfl) (by rfl) ?_ i37.out (exCellsF_one _) ?_; exact tQ.out))
  refine name_world_as (W := ((((w1.alloc (.cells #[.int .i64 0, .int .i64 0, .int .i64 0, .int .i64 0, .int .i64 0, .int .i64 0, .int .i64 0, .bool false, .bool false, .int .i64 0, .int .i64 0, .int .i64 0, .slice none 0 0, .slice none 0 0, .int .i64 0, .int .i64 0, .int .i64 0, .bool false, .bool false, .slice none 0 0] 34)).alloc (.cells #[.slice none 0 0, .int .i64 0, .int .i64 0, .int .i64 0, .int .i64 0] 37)).setCells w1.heap.size 0 (exCells bF bX).toList).setCells (w1.heap.size + 1) 0 (exCellsF bR).toList)) (P := fun W => W.rangeAt w1.heap.size 0 (exCells bF bX).toList ∧ W.rangeAt (w1.heap.size + 1) 0 (exCellsF bR).toList ∧ Ext w1 W ∧ w1.heap.size + 1 < W.heap.size) (R := fun W => Code.wp _ _ _ _ W) ⟨World.rangeAt_setCells_apart (World.rangeAt_setCells_same _ _ _ _ tP.out) _ _ _ (Or.inl (by omega)), World.rangeAt_setCells_same _ _ _ _ tQ.out, Ext.setCells _ (Ext.setCells _ (Ext.alloc (Ext.alloc (Ext.refl w1) _) _) (Nat.le_refl _) 0) (Nat.le_succ _) 0, by rw [setCells_size, setCells_size]; simp⟩ fun W1 ⟨hP, hF, hx1, hz1⟩ => ?_
  clear tP tQ i34 i37
  have p0 : W1.cell? ⟨w1.heap.size, 0, none⟩ = some (.int .i64 3) := by have := hP 0 _ (show (exCells bF bX).toList[0]? = some _ from rfl); rw [Nat.zero_add] at this; exact this
  have p1 : W1.cell? ⟨w1.heap.size, 1, none⟩ = some (.int .i64 0) := by have := hP 1 _ (show (exCells bF bX).toList[1]? = some _ from rfl); rw [Nat.zero_add] at this; exact this
  have p2 : W1.cell? ⟨w1.heap.size, 2, none⟩ = some (.int .i64 10) := by have := hP 2 _ (show (exCells bF bX).toList[2]? = some _ from rfl); rw [Nat.zero_add] at this; exact this
  have p3 : W1.cell? ⟨w1.heap.size, 3, none⟩ = some (.int .i64 5000) := by have := hP 3 _ (show (exCells bF bX).toList[3]? = some _ from rfl); rw [Nat.zero_add] at this; exact this
  have p4 : W1.cell? ⟨w1.heap.size, 4, none⟩ = some (.int .i64 9000) := by have := hP 4 _ (show (exCells bF bX).toList[4]? = some _ from rfl); rw [Nat.zero_add] at this; exact this
  have p5 : W1.cell? ⟨w1.heap.size, 5, none⟩ = some (.int .i64 1000) := by have := hP 5 _ (show (exCells bF bX).toList[5]? = some _ from rfl); rw [Nat.zero_add] at this; exact this
  have p6 : W1.cell? ⟨w1.heap.size, 6, none⟩ = some (.int .i64 3000) := by have := hP 6 _ (show (exCells bF bX).toList[6]? = some _ from rfl); rw [Nat.zero_add] at this; exact this
  have p7 : W1.cell? ⟨w1.heap.size, 7, none⟩ = some (.bool false) := by have := hP 7 _ (show (exCells bF bX).toList[7]? = some _ from rfl); rw [Nat.zero_add] at this; exact this
  have p8 : W1.cell? ⟨w1.heap.size, 8, none⟩ = some (.bool false) := by have := hP 8 _ (show (exCells bF bX).toList[8]? = some _ from rfl); rw [Nat.zero_add] at this; exact this
  have p9 : W1.cell? ⟨w1.heap.size, 9, none⟩ = some (.int .i64 0) := by have := hP 9 _ (show (exCells bF bX).toList[9]? = some _ from rfl); rw [Nat.zero_add] at this; exact this
  have p10 : W1.cell? ⟨w1.heap.size, 10, none⟩ = some (.int .i64 0) := by have := hP 10 _ (show (exCells bF bX).toList[10]? = some _ from rfl); rw [Nat.zero_add] at this; exact this
  have p11 : W1.cell? ⟨w1.heap.size, 11, none⟩ = some (.int .i64 0) := by have := hP 11 _ (show (exCells bF bX).toList[11]? = some _ from rfl); rw [Nat.zero_add] at this; exact this
  have p12 : W1.cell? ⟨w1.heap.size, 12, none⟩ = some (.slice (some ⟨bF, 0, none⟩) 2 2) := by have := hP 12 _ (show (exCells bF bX).toList[12]? = some _ from rfl); rw [Nat.zero_add] at this; exact this
  have p13 : W1.cell? ⟨w1.heap.size, 13, none⟩ = some (.slice none 0 0) := by have := hP 13 _ (show (exCells bF bX).toList[13]? = some _ from rfl); rw [Nat.zero_add] at this; exact this
  have p14 : W1.cell? ⟨w1.heap.size, 14, none⟩ = some (.int .i64 20) := by have := hP 14 _ (show (exCells bF bX).toList[14]? = some _ from rfl); rw [Nat.zero_add] at this; exact this
  have p15 : W1.cell? ⟨w1.heap.size, 15, none⟩ = some (.int .i64 3000) := by have := hP 15 _ (show (exCells bF bX).toList[15]? = some _ from rfl); rw [Nat.zero_add] at this; exact this
  have p16 : W1.cell? ⟨w1.heap.size, 16, none⟩ = some (.int .i64 500) := by have := hP 16 _ (show (exCells bF bX).toList[16]? = some _ from rfl); rw [Nat.zero_add] at this; exact this
  have p17 : W1.cell? ⟨w1.heap.size, 17, none⟩ = some (.bool false) := by have := hP 17 _ (show (exCells bF bX).toList[17]? = some _ from rfl); rw [Nat.zero_add] at this; exact this
  have p18 : W1.cell? ⟨w1.heap.size, 18, none⟩ = some (.bool false) := by have := hP 18 _ (show (exCells bF bX).toList[18]? = some _ from rfl); rw [Nat.zero_add] at this; exact this
  have p19 : W1.cell? ⟨w1.heap.size, 19, none⟩ = some (.slice (some ⟨bX, 0, none⟩) 2 2) := by have := hP 19 _ (show (exCells bF bX).toList[19]? = some _ from rfl); rw [Nat.zero_add] at this; exact this
  have f0 : W1.cell? ⟨w1.heap.size + 1, 0, none⟩ = some (.slice (some ⟨bR, 0, none⟩) 3 3) := by have := hF 0 _ (show (exCellsF bR).toList[0]? = some _ from rfl); rw [Nat.zero_add] at this; exact this
  have f1 : W1.cell? ⟨w1.heap.size + 1, 1, none⟩ = some (.int .i64 0) := by have := hF 1 _ (show (exCellsF bR).toList[1]? = some _ from rfl); rw [Nat.zero_add] at this; exact this
  have f2 : W1.cell? ⟨w1.heap.size + 1, 2, none⟩ = some (.int .i64 100) := by have := hF 2 _ (show (exCellsF bR).toList[2]? = some _ from rfl); rw [Nat.zero_add] at this; exact this
  have f3 : W1.cell? ⟨w1.heap.size + 1, 3, none⟩ = some (.int .i64 2) := by have := hF 3 _ (show (exCellsF bR).toList[3]? = some _ from rfl); rw [Nat.zero_add] at this; exact this
  have f4 : W1.cell? ⟨w1.heap.size + 1, 4, none⟩ = some (.int .i64 20) := by have := hF 4 _ (show (exCellsF bR).toList[4]? = some _ from rfl); rw [Nat.zero_add] at this; exact this
  have hz0 : w1.heap.size < W1.heap.size := by omega
  replace hP := Lib.hid hP
  replace hF := Lib.hid hF
  have hI1 := Lib.hid (hI.out.ext hx1)
  have hxw : Ext w W1 := hb1.trans hx1
  go_wp2_with fail
  refine (Least_31 (exI bF bX bR) _ hI1.out (exI_short _ _ _)).mono ?_
  rw [hlE.out]
  rintro e2 w2 ⟨rfl, hb2⟩
  obtain ⟨hc2, hf2, hz2⟩ := hb2.cells
  go_wp2_with fail
  refine (Best_20 (exI bF bX bR) 12 _ (hI1.out.ext (by with_reducible (repeat first | assumption | exact Ext.refl _ | refine Ext.set ?_ (by omega) _ | refine Ext.alloc ?_ _ | refine Ext.drew ?_ | refine Ext.drewN ?_ _ | refine Ext.trans ?_ (by assumption)))) (exI_short _ _ _)).mono ?_
  rw [hbE.out]
  rintro e3 w3 ⟨rfl, hb3⟩
  obtain ⟨hc3, hf3, hz3⟩ := hb3.cells
  go_wp2_with fail
  go_ret
  exact ⟨rfl, (by with_reducible (repeat first | assumption | exact Ext.refl _ | refine Ext.set ?_ (by omega) _ | refine Ext.alloc ?_ _ | refine Ext.drew ?_ | refine Ext.drewN ?_ _ | refine Ext.trans ?_ (by assumption)))⟩
end Go.Proofs.YtmmimbcfgobnaaaGreat
