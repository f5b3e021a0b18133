/- route: best. -/
import Derived.Test.YtmmimbcfgobnaaaGreatR7
set_option linter.unusedVariables false
set_option linter.unusedSimpArgs false
namespace Go.Proofs.YtmmimbcfgobnaaaGreat
open Go.RowKit
set_option linter.unusedVariables false
set_option linter.unusedSimpArgs false
attribute [local go_sem] stored_match isSome_setCell

theorem cmpI_neg (a b : Int) : cmpI a b < 0 ↔ a < b := by
  unfold cmpI; split
  · omega
  · split <;> omega
set_option maxRecDepth 100000 in
set_option maxHeartbeats 2000000 in
theorem cmp_93 (x y : Haven) (w : World) : Calls Tryz.prog 93 #[x.val, y.val] w fun e w' => e = .returned (.int .i64 (cmpI x.at_ y.at_)) ∧ Ext w w' := by
  simp only [Haven.val]
  go_enter Tryz.func93, Tryz.ntmps93
  go_wp2_with (go_at_call 94; refine (compare_94 _ _ _).mono ?_; rintro e1 w1 ⟨rfl, rfl⟩)
  go_ret
  exact ⟨rfl, (by with_reducible (repeat first | assumption | exact Ext.refl _ | refine Ext.set ?_ (by omega) _ | refine Ext.alloc ?_ _ | refine Ext.drew ?_ | refine Ext.drewN ?_ _ | refine Ext.trans ?_ (by assumption)))⟩
theorem bestOf_one {L : List Haven} {x : Haven} (h : L[0]? = some x) : bestOf (L.take 1) = x := by
  cases L with
  | nil => simp at h
  | cons a t => simp at h; subst h; rfl
theorem bestOf_succ {L : List Haven} {k : Nat} {x : Haven} (hk : 1 ≤ k) (h : L[k]? = some x) : bestOf (L.take (k + 1)) = sooner (bestOf (L.take k)) x := by
  cases L with
  | nil => simp at h
  | cons a t =>
    obtain ⟨j, rfl⟩ : ∃ j, k = j + 1 := ⟨k - 1, by omega⟩
    simp only [List.getElem?_cons_succ] at h
    simp only [List.take_succ_cons, bestOf]
    exact foldl_take_succ sooner a x t j h
structure HavenCells (w : World) (b : Nat) (x : Haven) : Prop where
  c0 : w.cell? ⟨b, 0, none⟩ = some (.int .i64 x.place)
  c1 : w.cell? ⟨b, 1, none⟩ = some (.int .i64 x.at_)
  c2 : w.cell? ⟨b, 2, none⟩ = some (.bool x.back)
theorem HavenCells.put {w : World} {b : Nat} {y : Haven} (h : HavenCells w b y) (x : Haven) : HavenCells (((w.setCell ⟨b, 0, none⟩ (.int .i64 x.place)).setCell ⟨b, 1, none⟩ (.int .i64 x.at_)).setCell ⟨b, 2, none⟩ (.bool x.back)) b x := by
  refine ⟨?_, ?_, ?_⟩
  · rw [cell_set_ne _ _ (Or.inr (by omega)), cell_set_ne _ _ (Or.inr (by omega)), cell_set_eq _ _ (by rw [h.c0]; rfl)]
  · rw [cell_set_ne _ _ (Or.inr (by omega)), cell_set_eq _ _ (by simp only [isSome_setCell]; rw [h.c1]; rfl)]
  · rw [cell_set_eq _ _ (by simp only [isSome_setCell]; rw [h.c2]; rfl)]
theorem HavenCells.ext {w w' : World} {b : Nat} {x : Haven} (h : HavenCells w b x) (hb : b < w.heap.size) (e : Ext w w') : HavenCells w' b x :=
  ⟨(e.cells.1 _ _ hb).trans h.c0, (e.cells.1 _ _ hb).trans h.c1, (e.cells.1 _ _ hb).trans h.c2⟩
set_option maxRecDepth 100000 in
set_option maxHeartbeats 2000000 in
theorem min_92 (L : List Haven) (A : Option Addr) (n c : Nat) (w : World) (hR : Rows 3 Haven.enc w A n L) (hn : 1 ≤ n) (hn2 : n ≤ 100000) :
    Calls Tryz.prog 92 #[.slice A n c, .func (.func 93) #[] #[]] w fun e w' => e = .returned (bestOf L).val ∧ Ext w w' := by
  obtain rfl := hR.len
  obtain ⟨x, hx⟩ : ∃ x, L[0]? = some x := ⟨_, List.getElem?_eq_getElem (by omega)⟩
  obtain ⟨b, off, rfl, hb, h0, h1, h2⟩ := hR.haven (by omega) hx
  simp only [Nat.zero_mul, Nat.add_zero] at h0 h1 h2
  have hone := Lib.hid (bestOf_one hx)
  have hn0 : ((L.length : Int) < 1) = False := by simp; omega
  have hn3 : (1 : Int) ≤ (L.length : Int) := by omega
  clear hx
  go_enter Tryz.func92, Tryz.ntmps92
  go_wp2_with fail
  refine name_world (R := fun W => Code.wp _ _ _ _ W) fun W1 hx1 hc1 hf1 hz1 => ?_
  have hxw : Ext w W1 := (by with_reducible (repeat first | assumption | exact Ext.refl _ | refine Ext.set ?_ (by omega) _ | refine Ext.alloc ?_ _ | refine Ext.drew ?_ | refine Ext.drewN ?_ _ | refine Ext.trans ?_ (by assumption)))
  simp at hz1
  have hc : HavenCells W1 (w.heap.size + 1) (bestOf (L.take 1)) := by rw [hone.out]; exact ⟨by rw [hc1]; simp, by rw [hc1]; simp, by rw [hc1]; simp⟩
  have hfz : ∀ o, W1.frozen? ⟨w.heap.size + 1, o, none⟩ = false := fun o => (hf1 (w.heap.size + 1) o).trans (by simp)
  have hfz := Lib.hid hfz
  have r0 : W1.cell? ⟨w.heap.size, 0, none⟩ = some (.int .i64 0) := by rw [hc1]; simp
  have r1 : W1.cell? ⟨w.heap.size, 1, none⟩ = some (.int .i64 0) := by rw [hc1]; simp
  have r2 : W1.cell? ⟨w.heap.size, 2, none⟩ = some (.bool false) := by rw [hc1]; simp
  have rf : ∀ o, W1.frozen? ⟨w.heap.size, o, none⟩ = false := fun o => (hf1 w.heap.size o).trans (by simp)
  have rf := Lib.hid rf
  have hW1 : w.heap.size + 1 < W1.heap.size := by omega
  clear hc1 hf1 hz1 hx1 h0 h1 h2
  go_loopw [6] (fun i wr => ∃ k : Nat, 1 ≤ k ∧ k ≤ L.length ∧ i = .int .i64 k ∧ HavenCells wr (w.heap.size + 1) (bestOf (L.take k)) ∧ ExtBut (w.heap.size + 1) W1 wr) (fun i _ => L.length - (intOf i).toNat)
  case atStart => exact ⟨1, Nat.le_refl _, hn, rfl, hc, ExtBut.refl _ _⟩
  case round =>
    clear hc
    obtain ⟨k, hk1, hk, rfl, hc, he⟩ := hrel
    have hEw : Ext w wr := ExtBut.ext hxw he (by omega)
    have hes := he.size
    by_cases hlt : k < L.length
    · obtain ⟨y, hy⟩ : ∃ y, L[k]? = some y := ⟨_, List.getElem?_eq_getElem hlt⟩
      obtain ⟨b', off', e1, hb', h0, h1, h2⟩ := (hR.ext hEw).haven hlt hy
      simp only [Option.some.injEq, Addr.mk.injEq, and_true] at e1
      obtain ⟨rfl, rfl⟩ := e1
      have hst := Lib.hid (bestOf_succ hk1 hy)
      generalize bestOf (L.take k) = m at *
      have hc' := Lib.hid hc
      obtain ⟨m0, m1, m2⟩ := hc
      have fz0 := (he.cells.2.1 _ 0 hW1).trans (hfz.out 0)
      have fz1 := (he.cells.2.1 _ 1 hW1).trans (hfz.out 1)
      have fz2 := (he.cells.2.1 _ 2 hW1).trans (hfz.out 2)
      have he' := Lib.hid he
      have hml : w.heap.size + 1 < wr.heap.size := by omega
      clear hy r0 r1 r2 he
      by_cases hs : y.at_ < m.at_
      · have hcm : cmpI y.at_ m.at_ < 0 := (cmpI_neg _ _).2 hs
        have hso := Lib.hid (show sooner m y = y by unfold sooner; rw [if_pos hs])
        clear hs
        go_wp2_with fail
        refine name_world (R := fun W => Code.wp _ _ _ _ W) fun W0 hx0 hc0 hf0 hz0 => ?_
        clear hc0 hf0 hz0
        have g0 := (hx0.cells.1 _ _ hb').trans h0
        have g1 := (hx0.cells.1 _ _ hb').trans h1
        have g2 := (hx0.cells.1 _ _ hb').trans h2
        have k0 := (hx0.cells.1 _ _ hml).trans m0
        have k1 := (hx0.cells.1 _ _ hml).trans m1
        have k2 := (hx0.cells.1 _ _ hml).trans m2
        have z1 := hx0.cells.2.2 _ hb'
        have z2 := hx0.cells.2.2 _ hml
        go_region_held3 (fun w' => HoldsAll W0 w') ((with_reducible ((repeat refine HoldsAll.drew ?_); first | (first | assumption | exact HoldsAll.refl _ | exact HoldsAll.of_drew (by assumption)) | (refine HoldsAll.ext ?_ (by assumption); first | assumption | exact HoldsAll.refl _ | exact HoldsAll.of_drew (by assumption)) | (refine HoldsAll.alloc ?_ _; first | assumption | exact HoldsAll.refl _ | exact HoldsAll.of_drew (by assumption)) | exact HoldsAll.realloc (by first | assumption | exact HoldsAll.refl _ | exact HoldsAll.of_drew (by assumption)) (by omega) | ((repeat first | refine HoldsAll.fresh ?_ (by omega) _); first | assumption | exact HoldsAll.refl _ | exact HoldsAll.of_drew (by assumption))))) (first | (go_at_call 93; refine (cmp_93 y m _).mono ?_; rintro e1 w1 ⟨rfl, hb1⟩))
        have hx9 : Ext W0 w1 := (by with_reducible (repeat first | assumption | exact Ext.refl _ | refine Ext.set ?_ (by omega) _ | refine Ext.alloc ?_ _ | refine Ext.drew ?_ | refine Ext.drewN ?_ _ | refine Ext.trans ?_ (by assumption)))
        have hx8 : Ext wr w1 := (by with_reducible (repeat first | assumption | exact Ext.refl _ | refine Ext.set ?_ (by omega) _ | refine Ext.alloc ?_ _ | refine Ext.drew ?_ | refine Ext.drewN ?_ _ | refine Ext.trans ?_ (by assumption)))
        have y0 := (hx0.cells.2.1 _ _ hml).trans fz0
        have y1 := (hx0.cells.2.1 _ _ hml).trans fz1
        have y2 := (hx0.cells.2.1 _ _ hml).trans fz2
        have y3 := hx9.cells.2.2 _ z1
        have y4 := hx9.cells.2.2 _ z2
        clear m0 m1 m2 h0 h1 h2
        go_wp2_with fail
        go_roundw
        case rel => exact ⟨k + 1, by omega, by omega, by go_num, by rw [hst.out, hso.out]; exact (hc'.out.ext hml hx8).put y, (((he'.out.trans (hx8.but _)).set _ _).set _ _).set _ _⟩
        case measure => simp [intOf]; omega
      · have hcm : ¬ cmpI y.at_ m.at_ < 0 := fun h => hs ((cmpI_neg _ _).1 h)
        have hso := Lib.hid (show sooner m y = m by unfold sooner; rw [if_neg hs])
        clear hs
        go_wp2_with fail
        refine name_world (R := fun W => Code.wp _ _ _ _ W) fun W0 hx0 hc0 hf0 hz0 => ?_
        clear hc0 hf0 hz0
        have g0 := (hx0.cells.1 _ _ hb').trans h0
        have g1 := (hx0.cells.1 _ _ hb').trans h1
        have g2 := (hx0.cells.1 _ _ hb').trans h2
        have k0 := (hx0.cells.1 _ _ hml).trans m0
        have k1 := (hx0.cells.1 _ _ hml).trans m1
        have k2 := (hx0.cells.1 _ _ hml).trans m2
        have z1 := hx0.cells.2.2 _ hb'
        have z2 := hx0.cells.2.2 _ hml
        go_region_held3 (fun w' => HoldsAll W0 w') ((with_reducible ((repeat refine HoldsAll.drew ?_); first | (first | assumption | exact HoldsAll.refl _ | exact HoldsAll.of_drew (by assumption)) | (refine HoldsAll.ext ?_ (by assumption); first | assumption | exact HoldsAll.refl _ | exact HoldsAll.of_drew (by assumption)) | (refine HoldsAll.alloc ?_ _; first | assumption | exact HoldsAll.refl _ | exact HoldsAll.of_drew (by assumption)) | exact HoldsAll.realloc (by first | assumption | exact HoldsAll.refl _ | exact HoldsAll.of_drew (by assumption)) (by omega) | ((repeat first | refine HoldsAll.fresh ?_ (by omega) _); first | assumption | exact HoldsAll.refl _ | exact HoldsAll.of_drew (by assumption))))) (first | (go_at_call 93; refine (cmp_93 y m _).mono ?_; rintro e1 w1 ⟨rfl, hb1⟩))
        have hx9 : Ext W0 w1 := (by with_reducible (repeat first | assumption | exact Ext.refl _ | refine Ext.set ?_ (by omega) _ | refine Ext.alloc ?_ _ | refine Ext.drew ?_ | refine Ext.drewN ?_ _ | refine Ext.trans ?_ (by assumption)))
        have hx8 : Ext wr w1 := (by with_reducible (repeat first | assumption | exact Ext.refl _ | refine Ext.set ?_ (by omega) _ | refine Ext.alloc ?_ _ | refine Ext.drew ?_ | refine Ext.drewN ?_ _ | refine Ext.trans ?_ (by assumption)))
        have y0 := (hx0.cells.2.1 _ _ hml).trans fz0
        have y1 := (hx0.cells.2.1 _ _ hml).trans fz1
        have y2 := (hx0.cells.2.1 _ _ hml).trans fz2
        have y3 := hx9.cells.2.2 _ z1
        have y4 := hx9.cells.2.2 _ z2
        clear m0 m1 m2 h0 h1 h2
        go_wp2_with fail
        go_roundw
        case rel => exact ⟨k + 1, by omega, by omega, by go_num, by rw [hst.out, hso.out]; exact hc'.out.ext hml hx8, he'.out.trans (hx8.but _)⟩
        case measure => simp [intOf]; omega
    · obtain rfl : k = L.length := by omega
      rw [List.take_of_length_le (Nat.le_refl _)] at hc
      have s0 := (he.cells.1 _ 0 (show w.heap.size < W1.heap.size by omega) (by omega)).trans r0
      have s1 := (he.cells.1 _ 1 (show w.heap.size < W1.heap.size by omega) (by omega)).trans r1
      have s2 := (he.cells.1 _ 2 (show w.heap.size < W1.heap.size by omega) (by omega)).trans r2
      have t0 := (he.cells.2.1 _ 0 (show w.heap.size < W1.heap.size by omega)).trans (rf.out 0)
      have t1 := (he.cells.2.1 _ 1 (show w.heap.size < W1.heap.size by omega)).trans (rf.out 1)
      have t2 := (he.cells.2.1 _ 2 (show w.heap.size < W1.heap.size by omega)).trans (rf.out 2)
      obtain ⟨m, hm⟩ : ∃ m, bestOf L = m := ⟨_, rfl⟩
      rw [hm] at hc
      replace hm := Lib.hid hm
      obtain ⟨m0, m1, m2⟩ := hc
      clear r0 r1 r2 he
      go_wp2
      refine bodyPost_ret (v := m.val) ?_ rfl ⟨by rw [hm.out], (by with_reducible (repeat first | assumption | exact Ext.refl _ | refine Ext.set ?_ (by omega) _ | refine Ext.alloc ?_ _ | refine Ext.drew ?_ | refine Ext.drewN ?_ _ | refine Ext.trans ?_ (by assumption)))⟩
      simp [results, go_sem, *]
set_option maxRecDepth 100000 in
set_option maxHeartbeats 2000000 in
theorem best_61 (L : List Haven) (A : Option Addr) (n c : Nat) (w : World) (hR : Rows 3 Haven.enc w A n L) (hn2 : n ≤ 100000) :
    Calls Tryz.prog 61 #[.slice A n c] w fun e w' => e = .returned (.tuple #[(bestOf L).val, .bool (hasBest L)]) ∧ Ext w w' := by
  by_cases hn : 1 ≤ n
  · have hL : hasBest L = true := by
      have := hR.len
      cases L with
      | nil => simp at this; omega
      | cons a t => rfl
    rw [hL]
    have hn0 : ((n : Int) == 0) = false := by rw [beq_eq_false_iff_ne]; omega
    generalize hm : bestOf L = m at *
    replace hm := Lib.hid hm
    go_enter Tryz.func61, Tryz.ntmps61
    go_wp2_with (go_at_call 92; refine (min_92 L A n c _ (hR.ext (by with_reducible (repeat first | assumption | exact Ext.refl _ | refine Ext.set ?_ (by omega) _ | refine Ext.alloc ?_ _ | refine Ext.drew ?_ | refine Ext.drewN ?_ _ | refine Ext.trans ?_ (by assumption)))) hn hn2).mono ?_; rw [hm.out]; rintro e1 w1 ⟨rfl, hb1⟩; obtain ⟨hc1, hf1, hz1⟩ := hb1.cells)
    refine bodyPost_ret (v := .tuple #[m.val, .bool true]) ?_ rfl ⟨rfl, (by with_reducible (repeat first | assumption | exact Ext.refl _ | refine Ext.set ?_ (by omega) _ | refine Ext.alloc ?_ _ | refine Ext.drew ?_ | refine Ext.drewN ?_ _ | refine Ext.trans ?_ (by assumption)))⟩
    simp [results, go_sem, *]
  · have h0 := hR.len
    obtain rfl : n = 0 := by omega
    obtain rfl : L = [] := List.length_eq_zero_iff.1 h0
    go_enter Tryz.func61, Tryz.ntmps61
    go_wp2
    exact bodyPost_ret (v := .tuple #[z_hv.val, .bool false]) (by simp [results, go_sem, z_hv]) rfl ⟨rfl, (by with_reducible (repeat first | assumption | exact Ext.refl _ | refine Ext.set ?_ (by omega) _ | refine Ext.alloc ?_ _ | refine Ext.drew ?_ | refine Ext.drewN ?_ _ | refine Ext.trans ?_ (by assumption)))⟩
end Go.Proofs.YtmmimbcfgobnaaaGreat
