/- The arguments of a law, opened. -/
import Derived.Test.YtmmimbcfgobnaaaGreatK1
namespace Go.Proofs.YtmmimbcfgobnaaaGreat
open Go.RowKit Go.WideShapes Go.ChangeShapes
theorem weighed {H : Type} {ts vs : List TypeId} {ds gs : List (DataW H)} (h : (DataW.weightsEach Tryz.prog (ts ++ vs) (ds ++ gs)).all (· ≤ reachBytes) = true) (j : Nat) (t : TypeId) {d : DataW H} (ht : (ts ++ vs)[j]? = some t) (hd : (ds ++ gs)[j]? = some d) :
    ∀ n ∈ d.weights Tryz.prog t, n ≤ reachBytes := fun n hn => by
  have := List.all_eq_true.1 h n (DataW.weights_mem_each ht hd n hn)
  simpa using this
set_option maxRecDepth 100000 in
theorem open_two {H : Type} {enc : TypeId × Value → H} {W : World} {base : Nat} {s0 s1 : Nat → Bool} {b0 b1 : Bool} {v0 v1 : Value} {d0 d1 : DataW H} {p0 p1 : List MemPlace}
    (o0 : Value.okWide Tryz.prog W .any base 34 v0) (h0 : DataW.Trod enc Tryz.prog W 0 s0 b0 34 v0 d0 p0) (g0 : ∀ n ∈ d0.weights Tryz.prog 34, n ≤ reachBytes)
    (o1 : Value.okWide Tryz.prog W .any base 37 v1) (h1 : DataW.Trod enc Tryz.prog W 0 s1 b1 37 v1 d1 p1) (g1 : ∀ n ∈ d1.weights Tryz.prog 37, n ≤ reachBytes) :
    ∃ I : Inp, v0 = I.vp ∧ v1 = I.vf ∧ I.In W := by
  obtain ⟨c0, rfl, _⟩ := okWide_struct Tryz.underlying34 o0
  obtain ⟨c1, rfl, _⟩ := okWide_struct Tryz.underlying37 o1
  obtain ⟨f0, h0⟩ := h0
  obtain ⟨f1, h1⟩ := h1
  obtain ⟨m, AF, nF, cF, AS, nS, cS, l, AX, nX, cX, xs, e0, hm, hx⟩ := opens_plan W _ _ _ _ _ _ _ h0 g0
  obtain ⟨f, AR, nR, cR, e1, hr⟩ := opens_flight W _ _ _ _ _ _ _ h1 g1
  obtain ⟨c0⟩ := c0
  obtain ⟨c1⟩ := c1
  obtain rfl : c0 = _ := e0
  obtain rfl : c1 = _ := e1
  exact ⟨⟨m, xs, l, f, AF, nF, cF, AS, nS, cS, AX, nX, cX, AR, nR, cR⟩, rfl, rfl, hm, hx, hr⟩
set_option maxRecDepth 100000 in
theorem open_int3 {H : Type} {enc : TypeId × Value → H} {W : World} {base : Nat} {s0 : Nat → Bool} {b0 : Bool} {v0 : Value} {d0 : DataW H} {p0 : List MemPlace}
    (o0 : Value.okWide Tryz.prog W .any base 3 v0) (h0 : DataW.Trod enc Tryz.prog W 0 s0 b0 3 v0 d0 p0) : ∃ n, v0 = .int .i64 n := by
  obtain ⟨a, e, _⟩ := open_int Tryz.underlying3 o0 h0
  exact ⟨a, e⟩
set_option maxRecDepth 100000 in
theorem open_fc {H : Type} {enc : TypeId × Value → H} {W : World} {base : Nat} {s0 : Nat → Bool} {b0 : Bool} {v0 : Value} {d0 : DataW H} {p0 : List MemPlace}
    (o0 : Value.okWide Tryz.prog W .any base 65 v0) (h0 : DataW.Trod enc Tryz.prog W 0 s0 b0 65 v0 d0 p0) (g0 : ∀ n ∈ d0.weights Tryz.prog 65, n ≤ reachBytes) : ∃ f : Fc, v0 = f.val := by
  obtain ⟨c0, rfl, _⟩ := okWide_struct Tryz.underlying65 o0
  obtain ⟨f0, h0⟩ := h0
  obtain ⟨f, e⟩ := opens_fc W _ _ _ _ _ _ _ h0 g0
  obtain ⟨c0⟩ := c0
  obtain rfl : c0 = _ := e
  exact ⟨f, rfl⟩
set_option maxRecDepth 100000 in
theorem open_havens {H : Type} {enc : TypeId × Value → H} {W : World} {base : Nat} {s0 : Nat → Bool} {b0 : Bool} {v0 : Value} {d0 : DataW H} {p0 : List MemPlace}
    (o0 : Value.okWide Tryz.prog W .any base 40 v0) (h0 : DataW.Trod enc Tryz.prog W 0 s0 b0 40 v0 d0 p0) (g0 : ∀ n ∈ d0.weights Tryz.prog 40, n ≤ reachBytes) : ∃ A n c xs, v0 = .slice A n c ∧ Rows 3 Haven.enc W A n xs := by
  obtain ⟨A, n, c, rfl⟩ := okWide_slice Tryz.underlying40 o0
  obtain ⟨f0, h0⟩ := h0
  obtain ⟨A', n', c', xs, e, hr⟩ := opens_havens W _ _ _ _ _ _ _ h0 g0
  simp [Value.cells] at e
  obtain ⟨rfl, rfl, rfl⟩ := e
  exact ⟨A, n, c, xs, rfl, hr⟩
end Go.Proofs.YtmmimbcfgobnaaaGreat
