/- The law RouteTimes: its walk. -/
import Derived.Test.YtmmimbcfgobnaaaGreatQ7
import Derived.Test.YtmmimbcfgobnaaaGreatL1
set_option linter.unusedVariables false
set_option linter.unusedSimpArgs false
namespace Go.Proofs.YtmmimbcfgobnaaaGreat
open Go.RowKit
set_option linter.unusedVariables false
set_option linter.unusedSimpArgs false
attribute [local go_sem] stored_match isSome_setCell

/-- The law's parameters, boxed at b and at the block behind it. -/
structure Boxed (I : Inp) (b : Nat) (w : World) : Prop where
  p0 : w.cell? ⟨b, 0, none⟩ = some (.int .i64 I.m.places)
  p1 : w.cell? ⟨b, 1, none⟩ = some (.int .i64 I.m.any.w.lo)
  p2 : w.cell? ⟨b, 2, none⟩ = some (.int .i64 I.m.any.w.hi)
  p3 : w.cell? ⟨b, 3, none⟩ = some (.int .i64 I.m.any.s.lo)
  p4 : w.cell? ⟨b, 4, none⟩ = some (.int .i64 I.m.any.s.hi)
  p5 : w.cell? ⟨b, 5, none⟩ = some (.int .i64 I.m.any.c.lo)
  p6 : w.cell? ⟨b, 6, none⟩ = some (.int .i64 I.m.any.c.hi)
  p7 : w.cell? ⟨b, 7, none⟩ = some (.bool I.m.any.ice)
  p8 : w.cell? ⟨b, 8, none⟩ = some (.bool I.m.any.storm)
  p9 : w.cell? ⟨b, 9, none⟩ = some (.int .i64 I.m.wind)
  p10 : w.cell? ⟨b, 10, none⟩ = some (.int .i64 I.m.see)
  p11 : w.cell? ⟨b, 11, none⟩ = some (.int .i64 I.m.ceil)
  p12 : w.cell? ⟨b, 12, none⟩ = some (.slice I.AF I.nF I.cF)
  p13 : w.cell? ⟨b, 13, none⟩ = some (.slice I.AS I.nS I.cS)
  p14 : w.cell? ⟨b, 14, none⟩ = some (.int .i64 I.l.wind)
  p15 : w.cell? ⟨b, 15, none⟩ = some (.int .i64 I.l.see)
  p16 : w.cell? ⟨b, 16, none⟩ = some (.int .i64 I.l.ceil)
  p17 : w.cell? ⟨b, 17, none⟩ = some (.bool I.l.ice)
  p18 : w.cell? ⟨b, 18, none⟩ = some (.bool I.l.storm)
  p19 : w.cell? ⟨b, 19, none⟩ = some (.slice I.AX I.nX I.cX)
  f0 : w.cell? ⟨b + 1, 0, none⟩ = some (.slice I.AR I.nR I.cR)
  f1 : w.cell? ⟨b + 1, 1, none⟩ = some (.int .i64 I.f.depart)
  f2 : w.cell? ⟨b + 1, 2, none⟩ = some (.int .i64 I.f.fuel)
  f3 : w.cell? ⟨b + 1, 3, none⟩ = some (.int .i64 I.f.burn)
  f4 : w.cell? ⟨b + 1, 4, none⟩ = some (.int .i64 I.f.reserve)
  lt : b + 1 < w.heap.size
theorem Boxed.ext {I : Inp} {b : Nat} {w w' : World} (h : Boxed I b w) (e : Ext w w') : Boxed I b w' := by
  obtain ⟨c, _, z⟩ := e.cells
  have l := h.lt
  exact ⟨(c _ _ (by omega)).trans h.p0, (c _ _ (by omega)).trans h.p1, (c _ _ (by omega)).trans h.p2, (c _ _ (by omega)).trans h.p3, (c _ _ (by omega)).trans h.p4, (c _ _ (by omega)).trans h.p5, (c _ _ (by omega)).trans h.p6, (c _ _ (by omega)).trans h.p7, (c _ _ (by omega)).trans h.p8, (c _ _ (by omega)).trans h.p9, (c _ _ (by omega)).trans h.p10, (c _ _ (by omega)).trans h.p11, (c _ _ (by omega)).trans h.p12, (c _ _ (by omega)).trans h.p13, (c _ _ (by omega)).trans h.p14, (c _ _ (by omega)).trans h.p15, (c _ _ (by omega)).trans h.p16, (c _ _ (by omega)).trans h.p17, (c _ _ (by omega)).trans h.p18, (c _ _ (by omega)).trans h.p19, (c _ _ l).trans h.f0, (c _ _ l).trans h.f1, (c _ _ l).trans h.f2, (c _ _ l).trans h.f3, (c _ _ l).trans h.f4, z _ l⟩
theorem heap_old (w : World) (o o' : Obj) : ((w.alloc o).alloc o').heap[w.heap.size]? = some o := by
  show ((w.heap.push _).push _)[w.heap.size]? = _
  simp [Array.getElem?_push]
theorem heap_two (w : World) (o o' : Obj) : ((w.alloc o).alloc o').heap[w.heap.size + 1]? = some o' := by
  have h := heap_new (w.alloc o) o'
  rwa [show (w.alloc o).heap.size = w.heap.size + 1 by simp] at h
theorem Boxed.new (I : Inp) (w : World) : Boxed I w.heap.size ((w.alloc (.cells #[.int .i64 I.m.places, .int .i64 I.m.any.w.lo, .int .i64 I.m.any.w.hi, .int .i64 I.m.any.s.lo, .int .i64 I.m.any.s.hi, .int .i64 I.m.any.c.lo, .int .i64 I.m.any.c.hi, .bool I.m.any.ice, .bool I.m.any.storm, .int .i64 I.m.wind, .int .i64 I.m.see, .int .i64 I.m.ceil, .slice I.AF I.nF I.cF, .slice I.AS I.nS I.cS, .int .i64 I.l.wind, .int .i64 I.l.see, .int .i64 I.l.ceil, .bool I.l.ice, .bool I.l.storm, .slice I.AX I.nX I.cX] 34)).alloc (.cells #[.slice I.AR I.nR I.cR, .int .i64 I.f.depart, .int .i64 I.f.fuel, .int .i64 I.f.burn, .int .i64 I.f.reserve] 37)) := by
  have h0 := heap_old w (.cells #[.int .i64 I.m.places, .int .i64 I.m.any.w.lo, .int .i64 I.m.any.w.hi, .int .i64 I.m.any.s.lo, .int .i64 I.m.any.s.hi, .int .i64 I.m.any.c.lo, .int .i64 I.m.any.c.hi, .bool I.m.any.ice, .bool I.m.any.storm, .int .i64 I.m.wind, .int .i64 I.m.see, .int .i64 I.m.ceil, .slice I.AF I.nF I.cF, .slice I.AS I.nS I.cS, .int .i64 I.l.wind, .int .i64 I.l.see, .int .i64 I.l.ceil, .bool I.l.ice, .bool I.l.storm, .slice I.AX I.nX I.cX] 34) (.cells #[.slice I.AR I.nR I.cR, .int .i64 I.f.depart, .int .i64 I.f.fuel, .int .i64 I.f.burn, .int .i64 I.f.reserve] 37)
  have h1 := heap_two w (.cells #[.int .i64 I.m.places, .int .i64 I.m.any.w.lo, .int .i64 I.m.any.w.hi, .int .i64 I.m.any.s.lo, .int .i64 I.m.any.s.hi, .int .i64 I.m.any.c.lo, .int .i64 I.m.any.c.hi, .bool I.m.any.ice, .bool I.m.any.storm, .int .i64 I.m.wind, .int .i64 I.m.see, .int .i64 I.m.ceil, .slice I.AF I.nF I.cF, .slice I.AS I.nS I.cS, .int .i64 I.l.wind, .int .i64 I.l.see, .int .i64 I.l.ceil, .bool I.l.ice, .bool I.l.storm, .slice I.AX I.nX I.cX] 34) (.cells #[.slice I.AR I.nR I.cR, .int .i64 I.f.depart, .int .i64 I.f.fuel, .int .i64 I.f.burn, .int .i64 I.f.reserve] 37)
  generalize (w.alloc (.cells #[.int .i64 I.m.places, .int .i64 I.m.any.w.lo, .int .i64 I.m.any.w.hi, .int .i64 I.m.any.s.lo, .int .i64 I.m.any.s.hi, .int .i64 I.m.any.c.lo, .int .i64 I.m.any.c.hi, .bool I.m.any.ice, .bool I.m.any.storm, .int .i64 I.m.wind, .int .i64 I.m.see, .int .i64 I.m.ceil, .slice I.AF I.nF I.cF, .slice I.AS I.nS I.cS, .int .i64 I.l.wind, .int .i64 I.l.see, .int .i64 I.l.ceil, .bool I.l.ice, .bool I.l.storm, .slice I.AX I.nX I.cX] 34)).alloc (.cells #[.slice I.AR I.nR I.cR, .int .i64 I.f.depart, .int .i64 I.f.fuel, .int .i64 I.f.burn, .int .i64 I.f.reserve] 37) = W at *
  refine ⟨?_, ?_, ?_, ?_, ?_, ?_, ?_, ?_, ?_, ?_, ?_, ?_, ?_, ?_, ?_, ?_, ?_, ?_, ?_, ?_, ?_, ?_, ?_, ?_, ?_, (Array.getElem?_eq_some_iff.1 h1).1⟩
  all_goals first | (simp only [World.cell?, h0]; rfl) | (simp only [World.cell?, h1]; rfl)
theorem times23_ok (I : Inp) (w : World) (h : I.In w) (hc : I.N.check = 0) : Calls Tryz.prog 23 #[I.vm, I.vn] w fun e w' => ∃ lo hi g c r, e = .returned (.tuple #[.slice (some ⟨g, 0, none⟩) I.N.n c, .int .i64 0]) ∧ TabOwn w' lo hi g I.N.n r I.N.T ∧ Ext w w' :=
  (Times_23 I w h).mono fun e w' hp => by obtain ⟨lo, hi, g, c, r, h1, h2⟩ := hp.1 hc; exact ⟨lo, hi, g, c, r, h1, h2, hp.2.2⟩
theorem times23_bad (I : Inp) (w : World) (h : I.In w) (hc : I.N.check ≠ 0) : Calls Tryz.prog 23 #[I.vm, I.vn] w fun e w' => e = .returned (.tuple #[.slice none 0 0, .int .i64 I.N.check]) ∧ Ext w w' :=
  (Times_23 I w h).mono fun e w' hp => ⟨hp.2.1 hc, hp.2.2⟩
theorem times27_ok (I : Inp) (w : World) (h : I.In w) (hc : I.N.check = 0) : Calls Tryz.prog 27 #[I.vm, I.vn] w fun e w' => ∃ lo hi g c r cp, e = .returned (.tuple #[.slice (some ⟨g, 0, none⟩) I.N.n c, .int .i64 0]) ∧ TabC w' lo hi g I.N.n r cp I.N.T ∧ Ext w w' :=
  (Times_27 I w h).mono fun e w' hp => by obtain ⟨lo, hi, g, c, r, cp, h1, h2⟩ := hp.1 hc; exact ⟨lo, hi, g, c, r, cp, h1, h2, hp.2.2⟩
theorem times27_bad (I : Inp) (w : World) (h : I.In w) (hc : I.N.check ≠ 0) : Calls Tryz.prog 27 #[I.vm, I.vn] w fun e w' => e = .returned (.tuple #[.slice none 0 0, .int .i64 I.N.check]) ∧ Ext w w' :=
  (Times_27 I w h).mono fun e w' hp => ⟨hp.2.1 hc, hp.2.2⟩
abbrev Inp.A (I : Inp) : List Int := I.f.atList I.N.L I.f.route.length
theorem arrive24_ok (I : Inp) (w : World) (h : I.In w) (hc : I.err0 = 0) : Calls Tryz.prog 24 #[I.vm, I.vn, I.vf] w fun e w' => ∃ A k, e = .returned (.tuple #[.slice A I.A.length k, .int .i64 0]) ∧ Rows 1 encInt w' A I.A.length I.A ∧ Ext w w' :=
  (Arrive_24 I w h).mono fun e w' hp => by obtain ⟨A, k, h1, h2⟩ := hp.1 hc; exact ⟨A, k, h1, h2, hp.2.2⟩
theorem arrive24_bad (I : Inp) (w : World) (h : I.In w) (hc : I.err0 ≠ 0) : Calls Tryz.prog 24 #[I.vm, I.vn, I.vf] w fun e w' => e = .returned (.tuple #[.slice none 0 0, .int .i64 I.err0]) ∧ Ext w w' :=
  (Arrive_24 I w h).mono fun e w' hp => ⟨hp.2.1 hc, hp.2.2⟩
theorem arrive29_ok (I : Inp) (w : World) (h : I.In w) (hc : I.err0 = 0) : Calls Tryz.prog 29 #[I.vm, I.vn, I.vf] w fun e w' => ∃ A k, e = .returned (.tuple #[.slice A I.A.length k, .int .i64 0]) ∧ Rows 1 encInt w' A I.A.length I.A ∧ Ext w w' :=
  (Arrive_29 I w h).mono fun e w' hp => by obtain ⟨A, k, h1, h2⟩ := hp.1 hc; exact ⟨A, k, h1, h2, hp.2.2⟩
theorem arrive29_bad (I : Inp) (w : World) (h : I.In w) (hc : I.err0 ≠ 0) : Calls Tryz.prog 29 #[I.vm, I.vn, I.vf] w fun e w' => e = .returned (.tuple #[.slice none 0 0, .int .i64 I.err0]) ∧ Ext w w' :=
  (Arrive_29 I w h).mono fun e w' hp => ⟨hp.2.1 hc, hp.2.2⟩
end Go.Proofs.YtmmimbcfgobnaaaGreat
