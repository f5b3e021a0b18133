/- Arguments opened: what reads at a type has the cells of the plain data. The arguments of a law, opened. -/
import Derived.Test.YtmmimbcfgobnaaaGreatR11
import Derived.Test.YtmmimbcfgobnaaaGreatL1
import Derived.Deep.Slices
import Derived.SizedLaws
set_option linter.unusedVariables false
set_option linter.unusedSimpArgs false
namespace Go.Proofs.YtmmimbcfgobnaaaGreat
open Go.RowKit Go.WideShapes Go.ChangeShapes
/-- What reads at t, and is sized, has cells of which Q holds. -/
def Opens (W : World) (t : TypeId) (Q : List Value → Prop) : Prop :=
  ∀ (H : Type) (enc : TypeId × Value → H) (spare : Nat → Bool) (held : Bool) (fuel : Nat) (cs : List Value) (x : DataW H × List MemPlace),
    DataW.trod enc Tryz.prog W 0 spare held fuel t cs = some x → (∀ n ∈ x.1.weights Tryz.prog t, n ≤ reachBytes) → Q cs
theorem Opens.mono {W : World} {t : TypeId} {Q R : List Value → Prop} (h : Opens W t Q) (i : ∀ cs, Q cs → R cs) : Opens W t R := fun H enc s b f cs x hx hw => i cs (h H enc s b f cs x hx hw)
theorem opens_int (W : World) : Opens W 3 fun cs => ∃ n, cs = [iv n] := fun H enc s b f cs x hx _ => by
  obtain ⟨n, h, _⟩ := DataW.trod_int Tryz.underlying3 hx
  exact ⟨n, h⟩
theorem opens_bool (W : World) : Opens W 4 fun cs => ∃ n, cs = [.bool n] := fun H enc s b f cs x hx _ => by
  obtain ⟨n, h, _⟩ := DataW.trod_bool Tryz.underlying4 hx
  exact ⟨n, h⟩
theorem opens_struct {W : World} {t : TypeId} {fs : Array Field} (hu : Tryz.prog.underlying t = some (.struct fs)) (Q : Nat → List Value → Prop) (h : ∀ i f, fs[i]? = some f → Opens W f.type (Q i)) :
    Opens W t fun cs => cs.length = Tryz.prog.cellsOf t ∧ ∀ i f, fs[i]? = some f → Q i ((cs.drop f.offset).take (Tryz.prog.cellsOf f.type)) := fun H enc s b fuel cs x hx hw => by
  obtain ⟨xs, n, _, rfl, hl, hs, hf⟩ := DataW.trod_struct hu hx
  refine ⟨hl, fun i f hi => ?_⟩
  have hlt : i < xs.length := by rw [hs]; exact (Array.getElem?_eq_some_iff.1 hi).1
  have hx := hf i f hi
  rw [List.getElem?_eq_getElem hlt] at hx
  refine h i f hi H enc s b n _ _ hx fun m hm => hw m ?_
  simp only [DataW.weights, hu]
  refine DataW.weights_mem_each (j := i) (t := f.type) (d := xs[i].1) ?_ ?_ m hm
  · rw [List.getElem?_map, Array.getElem?_toList, hi]; rfl
  · rw [List.getElem?_map, List.getElem?_eq_getElem hlt]; rfl
theorem weightsAll_mem {H : Type} {e : TypeId} {m : Nat} : ∀ {l : List (DataW H)} {d : DataW H}, d ∈ l → m ∈ d.weights Tryz.prog e → m ∈ DataW.weightsAll Tryz.prog e l
  | a :: l, d, hd, hm => by
    simp only [DataW.weightsAll, List.mem_append]
    rcases List.mem_cons.1 hd with rfl | hd
    · exact Or.inl hm
    · exact Or.inr (weightsAll_mem hd hm)
theorem opens_slice {α : Type} [Inhabited α] {W : World} {t e : TypeId} {k : Nat} {enc : α → List Value} (hu : Tryz.prog.underlying t = some (.slice e)) (hb : 1 ≤ Tryz.prog.bytesOf e) (hk : Tryz.prog.cellsOf e = k) (h1 : 1 ≤ k)
    (h : Opens W e fun cs => ∃ a, cs = enc a) : Opens W t fun cs => ∃ A n c xs, cs = [.slice A n c] ∧ Rows k enc W A n xs := fun H en s b fuel cs x hx hw => by
  subst hk
  rcases Deep.open_slice hu hx with ⟨rfl, rfl⟩ | ⟨a, len, cap, m, n, D, Pl, rfl, _, hl, hc, hm, rfl, hd⟩
  · exact ⟨_, _, _, [], rfl, Rows.nil _ _ _ _⟩
  have hlm : len ≤ m := by subst hm; split <;> omega
  have hel : ∀ i, i < len → ∃ y : α, (enc y).length = Tryz.prog.cellsOf e ∧ ∀ j, j < Tryz.prog.cellsOf e → W.cell? ((a.add (i * Tryz.prog.cellsOf e)).add j) = (enc y)[j]? := fun i hi => by
    obtain ⟨cs', hcs, ht⟩ := hd i (by omega)
    obtain ⟨y, rfl⟩ := h H en s b n _ _ ht fun q hq => hw q (by
      simp only [DataW.weights, hu]
      exact List.mem_cons_of_mem _ (List.mem_append_left _ (weightsAll_mem (List.mem_map.2 ⟨i, List.mem_range.2 hi, rfl⟩) hq)))
    unfold World.cells? at hcs
    rw [if_pos (Nat.zero_le _)] at hcs
    exact ⟨y, by simpa using mapM_some_length hcs, fun j hj => mapM_some_get hcs j j (by simp [hj])⟩
  obtain ⟨f, hf⟩ := Deep.choose_lt hel
  refine ⟨_, _, _, (List.range len).map f, rfl, by simp, ?_, fun h0 => ?_⟩
  · have := hw ((((List.range len).map D).length + ((List.range (m - len)).map fun j => D (len + j)).length) * Tryz.prog.bytesOf e) (by simp [DataW.weights, hu])
    simp at this
    have h2 : len * 1 ≤ (len + (m - len)) * Tryz.prog.bytesOf e := Nat.mul_le_mul (by omega) hb
    unfold reachBytes at this
    omega
  · obtain ⟨b, off, sp⟩ := a
    have h00 := (hf 0 h0).2 0 (by omega)
    rw [List.getElem?_eq_getElem (by rw [(hf 0 h0).1]; omega)] at h00
    obtain ⟨hsp, hbs⟩ : sp = none ∧ b < W.heap.size := by
      simp only [Nat.zero_mul, Addr.add, if_pos] at h00
      unfold World.cell? at h00
      split at h00
      · rename_i c l fr hh
        refine ⟨?_, (Array.getElem?_eq_some_iff.1 hh).1⟩
        cases sp with
        | none => rfl
        | some q => simp at h00
      · cases h00
    subst hsp
    refine ⟨b, off, rfl, hbs, fun j hj i hi => ?_⟩
    have hj' : j < len := by simpa using hj
    have := (hf j hj').2 i hi
    rw [Deep.add_add] at this
    simp only [List.getElem_map, List.getElem_range]
    rw [← this]
    have ha : (⟨b, off, none⟩ : Addr).add (j * Tryz.prog.cellsOf e + i) = ⟨b, off + j * Tryz.prog.cellsOf e + i, none⟩ := by
      simp only [Addr.add]
      split
      · rename_i hz
        rw [Nat.add_assoc, hz]; rfl
      · rw [Nat.add_assoc]
    rw [ha]

theorem Opens.and {W : World} {t : TypeId} {Q R : List Value → Prop} (h : Opens W t Q) (g : Opens W t R) : Opens W t fun cs => Q cs ∧ R cs := fun H enc s b f cs x hx hw => ⟨h H enc s b f cs x hx hw, g H enc s b f cs x hx hw⟩
theorem opens_len {W : World} {t : TypeId} {fs : Array Field} (hu : Tryz.prog.underlying t = some (.struct fs)) : Opens W t fun cs => cs.length = Tryz.prog.cellsOf t := fun H enc s b fuel cs x hx hw => by
  obtain ⟨xs, n, _, rfl, hl, hs, hf⟩ := DataW.trod_struct hu hx
  exact hl
theorem opens_field {W : World} {t : TypeId} {fs : Array Field} (hu : Tryz.prog.underlying t = some (.struct fs)) (i o ft k : Nat) (hi : (fs[i]?).map (fun f => (f.offset, f.type)) = some (o, ft)) (hk : Tryz.prog.cellsOf ft = k) {Q : List Value → Prop} (h : Opens W ft Q) :
    Opens W t fun cs => Q ((cs.drop o).take k) := by
  obtain ⟨f, hf, he⟩ := Option.map_eq_some_iff.1 hi
  cases he
  subst hk
  exact (opens_struct hu (fun j cs => j = i → Q cs) (fun j g hj H enc s b fuel cs x hx hw he => by
    subst he
    obtain rfl : g = f := Option.some.inj (hj.symm.trans hf)
    exact h H enc s b fuel cs x hx hw)).mono fun cs hc => hc.2 i f hf rfl
def chunks (cs : List Value) : Nat → List Nat → List Value
  | _, [] => []
  | o, n :: ns => (cs.drop o).take n ++ chunks cs (o + n) ns
theorem chunks_eq (cs : List Value) : ∀ (ns : List Nat) (o : Nat), cs.length = o + ns.sum → chunks cs o ns = cs.drop o
  | [], o, h => by simp [chunks, h]
  | n :: ns, o, h => by
    rw [chunks, chunks_eq cs ns (o + n) (by rw [h, List.sum_cons]; omega), ← List.drop_drop, List.take_append_drop]
theorem cells3 : Tryz.prog.cellsOf 3 = 1 := by kernel_rfl
theorem cells4 : Tryz.prog.cellsOf 4 = 1 := by kernel_rfl
theorem cells23 : Tryz.prog.cellsOf 23 = 2 := by kernel_rfl
theorem cells25 : Tryz.prog.cellsOf 25 = 8 := by kernel_rfl
theorem cells24 : Tryz.prog.cellsOf 24 = 8 := by kernel_rfl
theorem cells28 : Tryz.prog.cellsOf 28 = 14 := by kernel_rfl
theorem cells29 : Tryz.prog.cellsOf 29 = 14 := by kernel_rfl
theorem cells31 : Tryz.prog.cellsOf 31 = 5 := by kernel_rfl
theorem cells32 : Tryz.prog.cellsOf 32 = 1 := by kernel_rfl
theorem cells34 : Tryz.prog.cellsOf 34 = 20 := by kernel_rfl
theorem cells35 : Tryz.prog.cellsOf 35 = 1 := by kernel_rfl
theorem cells37 : Tryz.prog.cellsOf 37 = 5 := by kernel_rfl
theorem cells55 : Tryz.prog.cellsOf 55 = 3 := by kernel_rfl
theorem cells65 : Tryz.prog.cellsOf 65 = 12 := by kernel_rfl
theorem cells66 : Tryz.prog.cellsOf 66 = 5 := by kernel_rfl
theorem cells68 : Tryz.prog.cellsOf 68 = 7 := by kernel_rfl
theorem cells26 : Tryz.prog.cellsOf 26 = 1 := by kernel_rfl
theorem cells27 : Tryz.prog.cellsOf 27 = 1 := by kernel_rfl
theorem cells46 : Tryz.prog.cellsOf 46 = 3 := by kernel_rfl
theorem cells40 : Tryz.prog.cellsOf 40 = 1 := by kernel_rfl
theorem cells88 : Tryz.prog.cellsOf 88 = 2 := by kernel_rfl
theorem opens_span (W : World) : Opens W 23 fun cs => ∃ a, cs = Span.enc a :=
  ((((((opens_len Tryz.underlying23)).and (opens_field Tryz.underlying23 0 0 3 1 rfl cells3 (opens_int W)))).and (opens_field Tryz.underlying23 1 1 3 1 rfl cells3 (opens_int W)))).mono fun cs ⟨⟨hl, h0⟩, h1⟩ => by
    rw [cells23] at hl
    have e := chunks_eq cs [1, 1] 0 (by rw [hl]; rfl)
    simp only [chunks, Nat.reduceAdd] at e
    obtain ⟨x0, e0⟩ := h0
    obtain ⟨x1, e1⟩ := h1
    rw [e0, e1, List.drop_zero] at e
    subst e
    exact ⟨⟨x0, x1⟩, rfl⟩
def Sky.enc (x : Sky) : List Value := [iv x.w.lo, iv x.w.hi, iv x.s.lo, iv x.s.hi, iv x.c.lo, iv x.c.hi, .bool x.ice, .bool x.storm]
def Wx.enc (x : Wx) : List Value := [iv x.wind, iv x.see, iv x.ceil, .bool x.ice, .bool x.storm]
def Minima.enc (x : Minima) : List Value := [iv x.wind, iv x.see, iv x.ceil, .bool x.ice, .bool x.storm]
theorem opens_sky (W : World) : Opens W 25 fun cs => ∃ a, cs = Sky.enc a :=
  ((((((((((((opens_len Tryz.underlying25)).and (opens_field Tryz.underlying25 0 0 23 2 rfl cells23 (opens_span W)))).and (opens_field Tryz.underlying25 1 2 23 2 rfl cells23 (opens_span W)))).and (opens_field Tryz.underlying25 2 4 23 2 rfl cells23 (opens_span W)))).and (opens_field Tryz.underlying25 3 6 4 1 rfl cells4 (opens_bool W)))).and (opens_field Tryz.underlying25 4 7 4 1 rfl cells4 (opens_bool W)))).mono fun cs ⟨⟨⟨⟨⟨hl, h0⟩, h1⟩, h2⟩, h3⟩, h4⟩ => by
    rw [cells25] at hl
    have e := chunks_eq cs [2, 2, 2, 1, 1] 0 (by rw [hl]; rfl)
    simp only [chunks, Nat.reduceAdd] at e
    obtain ⟨x0, e0⟩ := h0
    obtain ⟨x1, e1⟩ := h1
    obtain ⟨x2, e2⟩ := h2
    obtain ⟨x3, e3⟩ := h3
    obtain ⟨x4, e4⟩ := h4
    rw [e0, e1, e2, e3, e4, List.drop_zero] at e
    subst e
    exact ⟨⟨x0, x1, x2, x3, x4⟩, rfl⟩
theorem opens_wx (W : World) : Opens W 66 fun cs => ∃ a, cs = Wx.enc a :=
  ((((((((((((opens_len Tryz.underlying66)).and (opens_field Tryz.underlying66 0 0 3 1 rfl cells3 (opens_int W)))).and (opens_field Tryz.underlying66 1 1 3 1 rfl cells3 (opens_int W)))).and (opens_field Tryz.underlying66 2 2 3 1 rfl cells3 (opens_int W)))).and (opens_field Tryz.underlying66 3 3 4 1 rfl cells4 (opens_bool W)))).and (opens_field Tryz.underlying66 4 4 4 1 rfl cells4 (opens_bool W)))).mono fun cs ⟨⟨⟨⟨⟨hl, h0⟩, h1⟩, h2⟩, h3⟩, h4⟩ => by
    rw [cells66] at hl
    have e := chunks_eq cs [1, 1, 1, 1, 1] 0 (by rw [hl]; rfl)
    simp only [chunks, Nat.reduceAdd] at e
    obtain ⟨x0, e0⟩ := h0
    obtain ⟨x1, e1⟩ := h1
    obtain ⟨x2, e2⟩ := h2
    obtain ⟨x3, e3⟩ := h3
    obtain ⟨x4, e4⟩ := h4
    rw [e0, e1, e2, e3, e4, List.drop_zero] at e
    subst e
    exact ⟨⟨x0, x1, x2, x3, x4⟩, rfl⟩
theorem opens_minima (W : World) : Opens W 31 fun cs => ∃ a, cs = Minima.enc a :=
  ((((((((((((opens_len Tryz.underlying31)).and (opens_field Tryz.underlying31 0 0 3 1 rfl cells3 (opens_int W)))).and (opens_field Tryz.underlying31 1 1 3 1 rfl cells3 (opens_int W)))).and (opens_field Tryz.underlying31 2 2 3 1 rfl cells3 (opens_int W)))).and (opens_field Tryz.underlying31 3 3 4 1 rfl cells4 (opens_bool W)))).and (opens_field Tryz.underlying31 4 4 4 1 rfl cells4 (opens_bool W)))).mono fun cs ⟨⟨⟨⟨⟨hl, h0⟩, h1⟩, h2⟩, h3⟩, h4⟩ => by
    rw [cells31] at hl
    have e := chunks_eq cs [1, 1, 1, 1, 1] 0 (by rw [hl]; rfl)
    simp only [chunks, Nat.reduceAdd] at e
    obtain ⟨x0, e0⟩ := h0
    obtain ⟨x1, e1⟩ := h1
    obtain ⟨x2, e2⟩ := h2
    obtain ⟨x3, e3⟩ := h3
    obtain ⟨x4, e4⟩ := h4
    rw [e0, e1, e2, e3, e4, List.drop_zero] at e
    subst e
    exact ⟨⟨x0, x1, x2, x3, x4⟩, rfl⟩
theorem opens_fc (W : World) : Opens W 65 fun cs => ∃ a, cs = Fc.enc a :=
  ((((((((((((opens_len Tryz.underlying65)).and (opens_field Tryz.underlying65 0 0 3 1 rfl cells3 (opens_int W)))).and (opens_field Tryz.underlying65 1 1 3 1 rfl cells3 (opens_int W)))).and (opens_field Tryz.underlying65 2 2 3 1 rfl cells3 (opens_int W)))).and (opens_field Tryz.underlying65 3 3 3 1 rfl cells3 (opens_int W)))).and (opens_field Tryz.underlying65 4 4 25 8 rfl cells25 (opens_sky W)))).mono fun cs ⟨⟨⟨⟨⟨hl, h0⟩, h1⟩, h2⟩, h3⟩, h4⟩ => by
    rw [cells65] at hl
    have e := chunks_eq cs [1, 1, 1, 1, 8] 0 (by rw [hl]; rfl)
    simp only [chunks, Nat.reduceAdd] at e
    obtain ⟨x0, e0⟩ := h0
    obtain ⟨x1, e1⟩ := h1
    obtain ⟨x2, e2⟩ := h2
    obtain ⟨x3, e3⟩ := h3
    obtain ⟨x4, e4⟩ := h4
    rw [e0, e1, e2, e3, e4, List.drop_zero] at e
    subst e
    exact ⟨⟨x0, x1, x2, x3, x4⟩, rfl⟩
theorem opens_sight (W : World) : Opens W 68 fun cs => ∃ a, cs = Sight.enc a :=
  ((((((((opens_len Tryz.underlying68)).and (opens_field Tryz.underlying68 0 0 3 1 rfl cells3 (opens_int W)))).and (opens_field Tryz.underlying68 1 1 3 1 rfl cells3 (opens_int W)))).and (opens_field Tryz.underlying68 2 2 66 5 rfl cells66 (opens_wx W)))).mono fun cs ⟨⟨⟨hl, h0⟩, h1⟩, h2⟩ => by
    rw [cells68] at hl
    have e := chunks_eq cs [1, 1, 5] 0 (by rw [hl]; rfl)
    simp only [chunks, Nat.reduceAdd] at e
    obtain ⟨x0, e0⟩ := h0
    obtain ⟨x1, e1⟩ := h1
    obtain ⟨x2, e2⟩ := h2
    rw [e0, e1, e2, List.drop_zero] at e
    subst e
    exact ⟨⟨x0, x1, x2⟩, rfl⟩
theorem opens_leg (W : World) : Opens W 55 fun cs => ∃ a, cs = Leg.enc a :=
  ((((((((opens_len Tryz.underlying55)).and (opens_field Tryz.underlying55 0 0 3 1 rfl cells3 (opens_int W)))).and (opens_field Tryz.underlying55 1 1 3 1 rfl cells3 (opens_int W)))).and (opens_field Tryz.underlying55 2 2 3 1 rfl cells3 (opens_int W)))).mono fun cs ⟨⟨⟨hl, h0⟩, h1⟩, h2⟩ => by
    rw [cells55] at hl
    have e := chunks_eq cs [1, 1, 1] 0 (by rw [hl]; rfl)
    simp only [chunks, Nat.reduceAdd] at e
    obtain ⟨x0, e0⟩ := h0
    obtain ⟨x1, e1⟩ := h1
    obtain ⟨x2, e2⟩ := h2
    rw [e0, e1, e2, List.drop_zero] at e
    subst e
    exact ⟨⟨x0, x1, x2⟩, rfl⟩
theorem opens_haven (W : World) : Opens W 46 fun cs => ∃ a, cs = Haven.enc a :=
  ((((((((opens_len Tryz.underlying46)).and (opens_field Tryz.underlying46 0 0 3 1 rfl cells3 (opens_int W)))).and (opens_field Tryz.underlying46 1 1 3 1 rfl cells3 (opens_int W)))).and (opens_field Tryz.underlying46 2 2 4 1 rfl cells4 (opens_bool W)))).mono fun cs ⟨⟨⟨hl, h0⟩, h1⟩, h2⟩ => by
    rw [cells46] at hl
    have e := chunks_eq cs [1, 1, 1] 0 (by rw [hl]; rfl)
    simp only [chunks, Nat.reduceAdd] at e
    obtain ⟨x0, e0⟩ := h0
    obtain ⟨x1, e1⟩ := h1
    obtain ⟨x2, e2⟩ := h2
    rw [e0, e1, e2, List.drop_zero] at e
    subst e
    exact ⟨⟨x0, x1, x2⟩, rfl⟩
instance : Inhabited Fc := ⟨z_fc⟩
instance : Inhabited Sight := ⟨z_si⟩
instance : Inhabited Leg := ⟨⟨0, 0, 0⟩⟩
instance : Inhabited Haven := ⟨⟨0, 0, false⟩⟩
theorem opens_fcs (W : World) : Opens W 26 fun cs => ∃ A n c xs, cs = [.slice A n c] ∧ Rows 12 Fc.enc W A n xs := opens_slice Tryz.underlying26 (of_decide_eq_true (by kernel_rfl)) cells65 (by omega) (opens_fc W)
theorem opens_sights (W : World) : Opens W 27 fun cs => ∃ A n c xs, cs = [.slice A n c] ∧ Rows 7 Sight.enc W A n xs := opens_slice Tryz.underlying27 (of_decide_eq_true (by kernel_rfl)) cells68 (by omega) (opens_sight W)
theorem opens_legs (W : World) : Opens W 32 fun cs => ∃ A n c xs, cs = [.slice A n c] ∧ Rows 3 Leg.enc W A n xs := opens_slice Tryz.underlying32 (of_decide_eq_true (by kernel_rfl)) cells55 (by omega) (opens_leg W)
theorem opens_ints (W : World) : Opens W 35 fun cs => ∃ A n c xs, cs = [.slice A n c] ∧ Rows 1 encInt W A n xs := opens_slice Tryz.underlying35 (of_decide_eq_true (by kernel_rfl)) cells3 (by omega) (opens_int W)
theorem opens_havens (W : World) : Opens W 40 fun cs => ∃ A n c xs, cs = [.slice A n c] ∧ Rows 3 Haven.enc W A n xs := opens_slice Tryz.underlying40 (of_decide_eq_true (by kernel_rfl)) cells46 (by omega) (opens_haven W)
theorem opens_met (W : World) : Opens W 29 fun cs => ∃ m AF nF cF AS nS cS, cs = (Met.val m (.slice AF nF cF) (.slice AS nS cS)).cells.toList ∧ MetIn W m AF nF AS nS :=
  ((((((((((((((((opens_len Tryz.underlying29)).and (opens_field Tryz.underlying29 0 0 3 1 rfl cells3 (opens_int W)))).and (opens_field Tryz.underlying29 1 1 25 8 rfl cells25 (opens_sky W)))).and (opens_field Tryz.underlying29 2 9 3 1 rfl cells3 (opens_int W)))).and (opens_field Tryz.underlying29 3 10 3 1 rfl cells3 (opens_int W)))).and (opens_field Tryz.underlying29 4 11 3 1 rfl cells3 (opens_int W)))).and (opens_field Tryz.underlying29 5 12 26 1 rfl cells26 (opens_fcs W)))).and (opens_field Tryz.underlying29 6 13 27 1 rfl cells27 (opens_sights W)))).mono fun cs ⟨⟨⟨⟨⟨⟨⟨hl, h0⟩, h1⟩, h2⟩, h3⟩, h4⟩, h5⟩, h6⟩ => by
    rw [cells29] at hl
    have e := chunks_eq cs [1, 8, 1, 1, 1, 1, 1] 0 (by rw [hl]; rfl)
    simp only [chunks, Nat.reduceAdd] at e
    obtain ⟨x0, e0⟩ := h0
    obtain ⟨x1, e1⟩ := h1
    obtain ⟨x2, e2⟩ := h2
    obtain ⟨x3, e3⟩ := h3
    obtain ⟨x4, e4⟩ := h4
    obtain ⟨A5, n5, c5, x5, e5, r5⟩ := h5
    obtain ⟨A6, n6, c6, x6, e6, r6⟩ := h6
    rw [e0, e1, e2, e3, e4, e5, e6, List.drop_zero] at e
    subst e
    exact ⟨⟨x0, x1, x2, x3, x4, x5, x6⟩, _, _, _, _, _, _, rfl, ⟨r5, r6⟩⟩
theorem opens_flight (W : World) : Opens W 37 fun cs => ∃ f AR nR cR, cs = (Flight.val f (.slice AR nR cR)).cells.toList ∧ Rows 1 encInt W AR nR f.route :=
  ((((((((((((opens_len Tryz.underlying37)).and (opens_field Tryz.underlying37 0 0 35 1 rfl cells35 (opens_ints W)))).and (opens_field Tryz.underlying37 1 1 3 1 rfl cells3 (opens_int W)))).and (opens_field Tryz.underlying37 2 2 3 1 rfl cells3 (opens_int W)))).and (opens_field Tryz.underlying37 3 3 3 1 rfl cells3 (opens_int W)))).and (opens_field Tryz.underlying37 4 4 3 1 rfl cells3 (opens_int W)))).mono fun cs ⟨⟨⟨⟨⟨hl, h0⟩, h1⟩, h2⟩, h3⟩, h4⟩ => by
    rw [cells37] at hl
    have e := chunks_eq cs [1, 1, 1, 1, 1] 0 (by rw [hl]; rfl)
    simp only [chunks, Nat.reduceAdd] at e
    obtain ⟨A0, n0, c0, x0, e0, r0⟩ := h0
    obtain ⟨x1, e1⟩ := h1
    obtain ⟨x2, e2⟩ := h2
    obtain ⟨x3, e3⟩ := h3
    obtain ⟨x4, e4⟩ := h4
    rw [e0, e1, e2, e3, e4, List.drop_zero] at e
    subst e
    exact ⟨⟨x0, x1, x2, x3, x4⟩, _, _, _, rfl, r0⟩
theorem opens_way (W : World) : Opens W 88 fun cs => ∃ n AR nR cR r, cs = [iv n, .slice AR nR cR] ∧ Rows 1 encInt W AR nR r :=
  ((((((opens_len Tryz.underlying88)).and (opens_field Tryz.underlying88 0 0 3 1 rfl cells3 (opens_int W)))).and (opens_field Tryz.underlying88 1 1 35 1 rfl cells35 (opens_ints W)))).mono fun cs ⟨⟨hl, h0⟩, h1⟩ => by
    rw [cells88] at hl
    have e := chunks_eq cs [1, 1] 0 (by rw [hl]; rfl)
    simp only [chunks, Nat.reduceAdd] at e
    obtain ⟨x0, e0⟩ := h0
    obtain ⟨A1, n1, c1, x1, e1, r1⟩ := h1
    rw [e0, e1, List.drop_zero] at e
    subst e
    exact ⟨x0, _, _, _, _, rfl, r1⟩
theorem opens_plan (W : World) : Opens W 34 fun cs => ∃ m AF nF cF AS nS cS l AX nX cX xs, cs = (Met.val m (.slice AF nF cF) (.slice AS nS cS)).cells.toList ++ (Minima.enc l ++ [.slice AX nX cX]) ∧ MetIn W m AF nF AS nS ∧ Rows 3 Leg.enc W AX nX xs :=
  ((((((((opens_len Tryz.underlying34)).and (opens_field Tryz.underlying34 0 0 29 14 rfl cells29 (opens_met W)))).and (opens_field Tryz.underlying34 1 14 31 5 rfl cells31 (opens_minima W)))).and (opens_field Tryz.underlying34 2 19 32 1 rfl cells32 (opens_legs W)))).mono fun cs ⟨⟨⟨hl, h0⟩, h1⟩, h2⟩ => by
    rw [cells34] at hl
    have e := chunks_eq cs [14, 5, 1] 0 (by rw [hl]; rfl)
    simp only [chunks, Nat.reduceAdd] at e
    obtain ⟨m, AF, nF, cF, AS, nS, cS, e0, r0⟩ := h0
    obtain ⟨x1, e1⟩ := h1
    obtain ⟨A2, n2, c2, x2, e2, r2⟩ := h2
    rw [e0, e1, e2, List.drop_zero] at e
    subst e
    exact ⟨m, _, _, _, _, _, _, x1, _, _, _, x2, by rw [List.append_nil], r0, r2⟩
end Go.Proofs.YtmmimbcfgobnaaaGreat
namespace Go.Proofs.YtmmimbcfgobnaaaGreat
open Go.RowKit Go.WideShapes Go.ChangeShapes
theorem weighed {H : Type} {ts vs : List TypeId} {ds gs : List (DataW H)} (h : (DataW.weightsEach Tryz.prog (ts ++ vs) (ds ++ gs)).all (· ≤ reachBytes) = true) (j : Nat) (t : TypeId) {d : DataW H} (ht : (ts ++ vs)[j]? = some t) (hd : (ds ++ gs)[j]? = some d) :
    ∀ n ∈ d.weights Tryz.prog t, n ≤ reachBytes := fun n hn => by
  have := List.all_eq_true.1 h n (DataW.weights_mem_each ht hd n hn)
  simpa using this
set_option maxRecDepth 100000 in
theorem open_two {H : Type} {enc : TypeId × Value → H} {W : World} {base : Nat} {s0 s1 : Nat → Bool} {b0 b1 : Bool} {v0 v1 : Value} {d0 d1 : DataW H} {p0 p1 : List MemPlace}
    (o0 : Value.okWide Tryz.prog W .any base 34 v0) (h0 : DataW.Trod enc Tryz.prog W 0 s0 b0 34 v0 d0 p0) (g0 : ∀ n ∈ d0.weights Tryz.prog 34, n ≤ reachBytes)
    (o1 : Value.okWide Tryz.prog W .any base 37 v1) (h1 : DataW.Trod enc Tryz.prog W 0 s1 b1 37 v1 d1 p1) (g1 : ∀ n ∈ d1.weights Tryz.prog 37, n ≤ reachBytes) :
    ∃ I : Inp, v0 = I.vp ∧ v1 = I.vf ∧ I.In W := by
  obtain ⟨c0, rfl, _⟩ := okWide_struct Tryz.underlying34 o0
  obtain ⟨c1, rfl, _⟩ := okWide_struct Tryz.underlying37 o1
  obtain ⟨f0, h0⟩ := h0
  obtain ⟨f1, h1⟩ := h1
  obtain ⟨m, AF, nF, cF, AS, nS, cS, l, AX, nX, cX, xs, e0, hm, hx⟩ := opens_plan W _ _ _ _ _ _ _ h0 g0
  obtain ⟨f, AR, nR, cR, e1, hr⟩ := opens_flight W _ _ _ _ _ _ _ h1 g1
  obtain ⟨c0⟩ := c0
  obtain ⟨c1⟩ := c1
  obtain rfl : c0 = _ := e0
  obtain rfl : c1 = _ := e1
  exact ⟨⟨m, xs, l, f, AF, nF, cF, AS, nS, cS, AX, nX, cX, AR, nR, cR⟩, rfl, rfl, hm, hx, hr⟩
set_option maxRecDepth 100000 in
theorem open_int3 {H : Type} {enc : TypeId × Value → H} {W : World} {base : Nat} {s0 : Nat → Bool} {b0 : Bool} {v0 : Value} {d0 : DataW H} {p0 : List MemPlace}
    (o0 : Value.okWide Tryz.prog W .any base 3 v0) (h0 : DataW.Trod enc Tryz.prog W 0 s0 b0 3 v0 d0 p0) : ∃ n, v0 = .int .i64 n := by
  obtain ⟨a, e, _⟩ := open_int Tryz.underlying3 o0 h0
  exact ⟨a, e⟩
set_option maxRecDepth 100000 in
theorem open_fc {H : Type} {enc : TypeId × Value → H} {W : World} {base : Nat} {s0 : Nat → Bool} {b0 : Bool} {v0 : Value} {d0 : DataW H} {p0 : List MemPlace}
    (o0 : Value.okWide Tryz.prog W .any base 65 v0) (h0 : DataW.Trod enc Tryz.prog W 0 s0 b0 65 v0 d0 p0) (g0 : ∀ n ∈ d0.weights Tryz.prog 65, n ≤ reachBytes) : ∃ f : Fc, v0 = f.val := by
  obtain ⟨c0, rfl, _⟩ := okWide_struct Tryz.underlying65 o0
  obtain ⟨f0, h0⟩ := h0
  obtain ⟨f, e⟩ := opens_fc W _ _ _ _ _ _ _ h0 g0
  obtain ⟨c0⟩ := c0
  obtain rfl : c0 = _ := e
  exact ⟨f, rfl⟩
set_option maxRecDepth 100000 in
theorem open_havens {H : Type} {enc : TypeId × Value → H} {W : World} {base : Nat} {s0 : Nat → Bool} {b0 : Bool} {v0 : Value} {d0 : DataW H} {p0 : List MemPlace}
    (o0 : Value.okWide Tryz.prog W .any base 40 v0) (h0 : DataW.Trod enc Tryz.prog W 0 s0 b0 40 v0 d0 p0) (g0 : ∀ n ∈ d0.weights Tryz.prog 40, n ≤ reachBytes) : ∃ A n c xs, v0 = .slice A n c ∧ Rows 3 Haven.enc W A n xs := by
  obtain ⟨A, n, c, rfl⟩ := okWide_slice Tryz.underlying40 o0
  obtain ⟨f0, h0⟩ := h0
  obtain ⟨A', n', c', xs, e, hr⟩ := opens_havens W _ _ _ _ _ _ _ h0 g0
  simp [Value.cells] at e
  obtain ⟨rfl, rfl, rfl⟩ := e
  exact ⟨A, n, c, xs, rfl, hr⟩
end Go.Proofs.YtmmimbcfgobnaaaGreat
