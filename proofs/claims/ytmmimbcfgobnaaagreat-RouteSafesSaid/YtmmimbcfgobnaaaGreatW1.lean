/-  Contracts of package weather: small functions. -/
import Derived.Test.YtmmimbcfgobnaaaGreatS1
set_option linter.unusedVariables false
set_option linter.unusedSimpArgs false
namespace Go.Proofs.YtmmimbcfgobnaaaGreat
open Go.RowKit
set_option linter.unusedVariables false
set_option linter.unusedSimpArgs false
attribute [local go_sem] stored_match isSome_setCell

set_option maxRecDepth 100000 in
set_option maxHeartbeats 2000000 in
theorem cut_136 (p o : Nat) (a b : Span) (w : World) (hp : p < w.heap.size) (h0 : w.cell? ⟨p, o, none⟩ = some (.int .i64 a.lo)) (h1 : w.cell? ⟨p, o + 1, none⟩ = some (.int .i64 a.hi))
    (f0 : w.frozen? ⟨p, o, none⟩ = false) (f1 : w.frozen? ⟨p, o + 1, none⟩ = false) :
    Calls Tryz.prog 136 #[.pointer (some ⟨p, o, none⟩), b.val] w fun e w' => e = .returned (.bool (cut a b).2) ∧ Put2 p o (cut a b).1 w w' := by
  simp only [Span.val]
  by_cases hm : (meet a b).2 = 0
  all_goals
    have hcut := Lib.hid (show cut a b = _ by unfold cut; first | rw [if_pos hm] | rw [if_neg hm])
    go_enter Tryz.func136, Tryz.ntmps136
    go_wp2_with fail
    refine name_world (R := fun W => Code.wp _ _ _ _ W) fun W0 hx0 hc0 hf0 hz0 => ?_
    try simp at hz0
    go_region_held3 (fun w' => HoldsAll W0 w') (with_reducible ((repeat refine HoldsAll.drew ?_); first | (first | assumption | exact HoldsAll.refl _ | exact HoldsAll.of_drew (by assumption)) | (refine HoldsAll.ext ?_ (by assumption); first | assumption | exact HoldsAll.refl _ | exact HoldsAll.of_drew (by assumption)) | (refine HoldsAll.alloc ?_ _; first | assumption | exact HoldsAll.refl _ | exact HoldsAll.of_drew (by assumption)) | exact HoldsAll.realloc (by first | assumption | exact HoldsAll.refl _ | exact HoldsAll.of_drew (by assumption)) (by omega) | ((repeat first | refine HoldsAll.fresh ?_ (by omega) _); first | assumption | exact HoldsAll.refl _ | exact HoldsAll.of_drew (by assumption)))) (first | (go_at_call 154; refine (meet_154 a b _).mono ?_; rintro e1 w1 ⟨rfl, hb1⟩; obtain ⟨hc1, hf1, hz1⟩ := hb1.cells; have hs1 := hb1.size; (try simp at hs1)))
  all_goals go_wp2
  all_goals go_ret
  all_goals exact ⟨by rw [hcut.out]; first | rfl | simp [*], by rw [hcut.out]; exact Put2.of (by with_reducible (repeat first | assumption | exact Ext.refl _ | refine Ext.set ?_ (by omega) _ | refine Ext.alloc ?_ _ | refine Ext.drew ?_ | refine Ext.drewN ?_ _ | refine Ext.trans ?_ (by assumption))) hp (by rw [h0]; rfl) (by rw [h1]; rfl)⟩

/-- A sky in the first eight cells of a block, which may be written. -/
structure SkyAt (w : World) (p : Nat) (s : Sky) : Prop where
  lt : p < w.heap.size
  wlo : w.cell? ⟨p, 0, none⟩ = some (.int .i64 s.w.lo)
  whi : w.cell? ⟨p, 1, none⟩ = some (.int .i64 s.w.hi)
  slo : w.cell? ⟨p, 2, none⟩ = some (.int .i64 s.s.lo)
  shi : w.cell? ⟨p, 3, none⟩ = some (.int .i64 s.s.hi)
  clo : w.cell? ⟨p, 4, none⟩ = some (.int .i64 s.c.lo)
  chi : w.cell? ⟨p, 5, none⟩ = some (.int .i64 s.c.hi)
  ice : w.cell? ⟨p, 6, none⟩ = some (.bool s.ice)
  storm : w.cell? ⟨p, 7, none⟩ = some (.bool s.storm)
  free : ∀ o, w.frozen? ⟨p, o, none⟩ = false
theorem SkyAt.ext {w w' : World} {p : Nat} {s : Sky} (h : SkyAt w p s) (e : Ext w w') : SkyAt w' p s := by
  obtain ⟨c, f, z⟩ := e.cells
  exact ⟨z _ h.lt, (c _ _ h.lt).trans h.wlo, (c _ _ h.lt).trans h.whi, (c _ _ h.lt).trans h.slo, (c _ _ h.lt).trans h.shi, (c _ _ h.lt).trans h.clo, (c _ _ h.lt).trans h.chi, (c _ _ h.lt).trans h.ice, (c _ _ h.lt).trans h.storm, fun o => (f _ o h.lt).trans (h.free o)⟩

theorem sky_puts {w W wA wB wC : World} {p : Nat} {a b : Sky} (hs : SkyAt w p a) (e : Ext w W) (hA : Put2 p 0 (cut a.w b.w).1 W wA) (hB : Put2 p 2 (cut a.s b.s).1 wA wB) (hC : Put2 p 4 (cut a.c b.c).1 wB wC) :
    SkyAt wC p (a.cut b) ∧ ExtBut p w wC := by
  obtain ⟨c, f, z⟩ := e.cells
  have h1 : p < W.heap.size := z _ hs.lt
  have h2 : p < wA.heap.size := Nat.lt_of_lt_of_le h1 hA.but.size
  have h3 : p < wB.heap.size := Nat.lt_of_lt_of_le h2 hB.but.size
  have h4 : p < wC.heap.size := Nat.lt_of_lt_of_le h3 hC.but.size
  refine ⟨⟨h4, ?_, ?_, ?_, ?_, hC.lo, hC.hi, ?_, ?_, fun o => ?_⟩, ((e.but p).trans hA.but).trans (hB.but.trans hC.but)⟩
  · rw [hC.same 0 (by omega) (by omega), hB.same 0 (by omega) (by omega)]; exact hA.lo
  · rw [hC.same 1 (by omega) (by omega), hB.same 1 (by omega) (by omega)]; exact hA.hi
  · rw [hC.same 2 (by omega) (by omega)]; exact hB.lo
  · rw [hC.same 3 (by omega) (by omega)]; exact hB.hi
  · rw [hC.same 6 (by omega) (by omega), hB.same 6 (by omega) (by omega), hA.same 6 (by omega) (by omega), c _ _ hs.lt]; exact hs.ice
  · rw [hC.same 7 (by omega) (by omega), hB.same 7 (by omega) (by omega), hA.same 7 (by omega) (by omega), c _ _ hs.lt]; exact hs.storm
  · rw [hC.but.frozen h3, hB.but.frozen h2, hA.but.frozen h1, f _ _ hs.lt]; exact hs.free o

set_option maxRecDepth 100000 in
set_option maxHeartbeats 2000000 in
theorem cut_108 (p : Nat) (a b : Sky) (w : World) (hs : SkyAt w p a) :
    Calls Tryz.prog 108 #[.pointer (some ⟨p, 0, none⟩), b.val] w fun e w' => e = .returned (.bool (a.cuts b)) ∧ SkyAt w' p (a.cut b) ∧ ExtBut p w w' := by
  have hs' := hs
  obtain ⟨hlt, q0, q1, q2, q3, q4, q5, q6, q7, hfr⟩ := hs'
  have hne : w.heap.size ≠ p := by omega
  simp only [Sky.val]
  go_enter Tryz.func108, Tryz.ntmps108
  go_wp2_with fail
  refine name_world (R := fun W => Code.wp _ _ _ _ W) fun W0 hx0 hc0 hf0 hz0 => ?_
  try simp at hz0
  have hlt1 : p < w.heap.size + 1 := by omega
  go_region_held3 (fun w' => Holds W0 p w') (with_reducible ((repeat refine Holds.drew ?_); first | assumption | exact Holds.refl _ _ | exact Holds.of_drew (by assumption) | (refine Holds.put ?_ (by assumption); first | assumption | exact Holds.of_drew (by assumption)))) (first | (go_at_call 136; (with_reducible refine (cut_136 p 0 a.w b.w _ ?_ ?_ ?_ ?_ ?_).mono ?_); go_simp; go_simp; go_simp; go_simp; go_simp; rintro e1 wA ⟨rfl, hpA⟩; have hsmA := hpA.same; have hloA := hpA.lo; have hhiA := hpA.hi; obtain ⟨hcA, hfA, hzA⟩ := hpA.but.cells) | (go_at_call 136; (with_reducible refine (cut_136 p 2 a.s b.s _ ?_ ?_ ?_ ?_ ?_).mono ?_); go_simp; go_simp; go_simp; go_simp; go_simp; rintro e1 wB ⟨rfl, hpB⟩; have hsmB := hpB.same; have hloB := hpB.lo; have hhiB := hpB.hi; obtain ⟨hcB, hfB, hzB⟩ := hpB.but.cells) | (go_at_call 136; (with_reducible refine (cut_136 p 4 a.c b.c _ ?_ ?_ ?_ ?_ ?_).mono ?_); go_simp; go_simp; go_simp; go_simp; go_simp; rintro e1 wC ⟨rfl, hpC⟩; have hsmC := hpC.same; have hloC := hpC.lo; have hhiC := hpC.hi; obtain ⟨hcC, hfC, hzC⟩ := hpC.but.cells))
  have HP := Lib.hid (sky_puts hs ((by with_reducible (repeat first | assumption | exact Ext.refl _ | refine Ext.set ?_ (by omega) _ | refine Ext.alloc ?_ _ | refine Ext.drew ?_ | refine Ext.drewN ?_ _ | refine Ext.trans ?_ (by assumption)))) hpA hpB hpC)
  clear hsmA hsmB hsmC hloA hloB hloC hhiA hhiB hhiC hcA hcB hcC hfA hfB hfC hzA hzB hzC hpA hpB hpC
  go_wp2
  all_goals
    go_ret
    exact ⟨by simp [Sky.cuts, *], HP.out⟩
end Go.Proofs.YtmmimbcfgobnaaaGreat
namespace Go.Proofs.YtmmimbcfgobnaaaGreat
open Go.RowKit
set_option linter.unusedVariables false
set_option linter.unusedSimpArgs false
attribute [local go_sem] stored_match isSome_setCell

set_option maxRecDepth 100000 in
set_option maxHeartbeats 2000000 in
theorem near_110 (n b most : Int) (w : World) (h0 : 0 ≤ n) (h1 : n ≤ most) (h2 : 0 ≤ b) (h3 : b ≤ 40000000) (h4 : most ≤ 1000000) : Calls Tryz.prog 110 #[.int .i64 n, .int .i64 b, .int .i64 most] w fun e w' => e = .returned (near n b most).val ∧ Ext w w' := by
  by_cases g1 : n - b < 0 <;> by_cases g2 : most < n + b
  all_goals
    go_enter Tryz.func110, Tryz.ntmps110
    go_wp2
  all_goals
    refine bodyPost_ret (v := (near n b most).val) ?_ rfl ⟨rfl, (by with_reducible (repeat first | assumption | exact Ext.refl _ | refine Ext.set ?_ (by omega) _ | refine Ext.alloc ?_ _ | refine Ext.drew ?_ | refine Ext.drewN ?_ _ | refine Ext.trans ?_ (by assumption)))⟩
    simp [results, go_sem, near]
    omega

set_option maxRecDepth 100000 in
set_option maxHeartbeats 2000000 in
theorem worst_149 (s : Sky) (w : World) : Calls Tryz.prog 149 #[s.val] w fun e w' => e = .returned s.worst.val ∧ Ext w w' := by
  simp only [Sky.val]
  go_enter Tryz.func149, Tryz.ntmps149
  go_wp2
  refine bodyPost_ret (v := s.worst.val) ?_ rfl ⟨rfl, (by with_reducible (repeat first | assumption | exact Ext.refl _ | refine Ext.set ?_ (by omega) _ | refine Ext.alloc ?_ _ | refine Ext.drew ?_ | refine Ext.drewN ?_ _ | refine Ext.trans ?_ (by assumption)))⟩
  simp [results, go_sem, Sky.worst]

set_option maxRecDepth 100000 in
set_option maxHeartbeats 2000000 in
theorem flyable_148 (x : Wx) (l : Minima) (w : World) : Calls Tryz.prog 148 #[x.val, l.val] w fun e w' => e = .returned (.bool (flyable x l)) ∧ Ext w w' := by
  simp only [Wx.val, Minima.val]
  go_enter Tryz.func148, Tryz.ntmps148
  go_wp2
  all_goals
    go_ret
    exact ⟨by first | (simp [flyable, *]; done) | (simp [flyable, *]; omega), (by with_reducible (repeat first | assumption | exact Ext.refl _ | refine Ext.set ?_ (by omega) _ | refine Ext.alloc ?_ _ | refine Ext.drew ?_ | refine Ext.drewN ?_ _ | refine Ext.trans ?_ (by assumption)))⟩
end Go.Proofs.YtmmimbcfgobnaaaGreat
