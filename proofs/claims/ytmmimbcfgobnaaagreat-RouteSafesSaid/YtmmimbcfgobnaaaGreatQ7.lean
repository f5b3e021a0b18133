/- The reference: tables whose rows are made by append. The reference: times. The reference: Times; the law's sameInts. -/
import Derived.Test.YtmmimbcfgobnaaaGreatQ4
import Derived.Test.YtmmimbcfgobnaaaGreatR11
set_option linter.unusedVariables false
set_option linter.unusedSimpArgs false
namespace Go.Proofs.YtmmimbcfgobnaaaGreat
open Go.RowKit
set_option linter.unusedVariables false
set_option linter.unusedSimpArgs false
attribute [local go_sem] stored_match isSome_setCell

/-- A table of n rows of n numbers as TabOwn, its rows of capacities cp. -/
structure TabC (w : World) (lo hi g n : Nat) (r cp : Nat → Nat) (f : Tab) : Prop where
  g1 : lo ≤ g
  g2 : g < hi
  r1 : ∀ i, i < n → lo ≤ r i
  r2 : ∀ i, i < n → r i < hi
  rg : ∀ i, i < n → r i ≠ g
  inj : ∀ i j, i < n → j < n → r i = r j → i = j
  row : ∀ i, i < n → w.cell? ⟨g, i, none⟩ = some (.slice (some ⟨r i, 0, none⟩) n (cp i))
  cell : ∀ i j : Nat, i < n → j < n → w.cell? ⟨r i, j, none⟩ = some (.int .i64 (f i j))
  free : ∀ i o, i < n → w.frozen? ⟨r i, o, none⟩ = false
  hi_ : hi ≤ w.heap.size
theorem TabC.ext {w w' : World} {lo hi g n : Nat} {r cp : Nat → Nat} {f : Tab} (h : TabC w lo hi g n r cp f) (e : Ext w w') : TabC w' lo hi g n r cp f := by
  obtain ⟨c, fr, z⟩ := e.cells
  exact ⟨h.g1, h.g2, h.r1, h.r2, h.rg, h.inj, fun i hi' => (c _ _ (Nat.lt_of_lt_of_le h.g2 h.hi_)).trans (h.row i hi'), fun i j hi' hj => (c _ _ (Nat.lt_of_lt_of_le (h.r2 i hi') h.hi_)).trans (h.cell i j hi' hj), fun i o hi' => (fr _ _ (Nat.lt_of_lt_of_le (h.r2 i hi') h.hi_)).trans (h.free i o hi'), Nat.le_trans h.hi_ e.size⟩
theorem TabC.congr {w : World} {lo hi g n : Nat} {r cp : Nat → Nat} {f f' : Tab} (h : TabC w lo hi g n r cp f) (e : ∀ i j : Nat, i < n → j < n → f i j = f' i j) : TabC w lo hi g n r cp f' :=
  ⟨h.g1, h.g2, h.r1, h.r2, h.rg, h.inj, h.row, fun i j hi hj => by rw [← e i j hi hj]; exact h.cell i j hi hj, h.free, h.hi_⟩
theorem TabC.set {w : World} {lo hi g n : Nat} {r cp : Nat → Nat} {f : Tab} (h : TabC w lo hi g n r cp f) {a b : Nat} (ha : a < n) (hb : b < n) (v : Int) : TabC (w.setCell ⟨r a, b, none⟩ (.int .i64 v)) lo hi g n r cp (f.set a b v) := by
  have hx : ExtBut (r a) w (w.setCell ⟨r a, b, none⟩ (.int .i64 v)) := (ExtBut.refl _ _).set _ _
  refine ⟨h.g1, h.g2, h.r1, h.r2, h.rg, h.inj, fun i hi' => ?_, fun i j hi' hj => ?_, fun i o hi' => ?_, ?_⟩
  · rw [cell_set_ne _ _ (Or.inl (fun e => h.rg a ha e.symm))]; exact h.row i hi'
  · by_cases hia : i = a
    · subst hia
      by_cases hjb : j = b
      · subst hjb
        rw [cell_set_eq _ _ (by rw [h.cell i j hi' hj]; rfl)]
        simp [Tab.set]
      · rw [cell_set_ne _ _ (Or.inr hjb), h.cell i j hi' hj]
        unfold Tab.set
        rw [if_neg (by omega)]
    · rw [cell_set_ne _ _ (Or.inl (fun e => hia (h.inj _ _ hi' ha e))), h.cell i j hi' hj]
      unfold Tab.set
      rw [if_neg (by omega)]
  · rw [hx.cells.2.1 _ _ (Nat.lt_of_lt_of_le (h.r2 i hi') h.hi_)]; exact h.free i o hi'
  · simpa [World.setCell] using h.hi_
def encRowC (n : Nat) (g : Nat × Nat) : List Value := [.slice (some ⟨g.1, 0, none⟩) n g.2]
theorem encRowC_one (n : Nat) : ∀ x, ∀ u ∈ encRowC n x, u.oneCell' = true := by
  intro x u hu
  simp only [encRowC, List.mem_singleton] at hu
  subst hu; rfl
def rowOf (f : Tab) (i : Int) (n : Nat) : List Int := (List.range n).map fun (j : Nat) => f i j
theorem rowOf_succ (f : Tab) (i : Int) (n : Nat) : rowOf f i (n + 1) = rowOf f i n ++ [f i n] := by simp [rowOf, List.range_succ]
theorem rowOf_length (f : Tab) (i : Int) (n : Nat) : (rowOf f i n).length = n := by simp [rowOf]
/-- The rows made so far. -/
structure Grid (n : Nat) (f : Tab) (w : World) (k : Nat) (v : Value) (gs : List (Nat × Nat)) (wr : World) : Prop where
  len : gs.length = k
  own : Owns 35 1 (encRowC n) wr w.heap.size v gs
  fill : ∀ i (h : i < gs.length), Owns 3 1 encInt wr w.heap.size (.slice (some ⟨gs[i].1, 0, none⟩) n gs[i].2) (rowOf f i n)
  nodup : (gs.map (·.1)).Nodup
  ext : Ext w wr
theorem Owns.apart {α β : Type} {k k' : Nat} {enc : α → List Value} {enc' : β → List Value} {w : World} {base base' : Nat} {v v' : Value} {L : List α} {L' : List β} (h : Owns 35 k enc w base v L) (h' : Owns 3 k' enc' w base' v' L') {g : Nat} (hg : v'.ownBlock = some g) : ¬ (some g = v.ownBlock) := by
  intro e
  rcases h.2 with ⟨rfl, _⟩ | ⟨g1, cap, cur, rfl, _, hh, _⟩
  · simp [Value.ownBlock] at e
  · rcases h'.2 with ⟨rfl, _⟩ | ⟨g2, cap', cur', rfl, _, hh', _⟩
    · simp [Value.ownBlock] at hg
    · simp only [Value.ownBlock, Option.some.injEq] at e hg
      subst e hg
      rw [hh] at hh'
      simp at hh'
theorem Grid.step {n : Nat} {f : Tab} {w : World} {k : Nat} {v v' : Value} {gs : List (Nat × Nat)} {wr w1 w2 : World} {g c : Nat} {o : Obj} (h : Grid n f w k v gs wr) (e1 : Ext wr w1) (hg : wr.heap.size ≤ g) (hF : Owns 3 1 encInt w1 wr.heap.size (.slice (some ⟨g, 0, none⟩) n c) (rowOf f k n))
    (ho : Owns 35 1 (encRowC n) w2 w.heap.size v' (gs ++ [(g, c)])) (hgr : (w1.alloc o).grownBy w2 v.ownBlock) : Grid n f w (k + 1) v' (gs ++ [(g, c)]) w2 := by
  have hO1 : Owns 35 1 (encRowC n) (w1.alloc o) w.heap.size v gs := h.own.ext (e1.alloc o)
  have hk : ∀ {b : Nat} {u : Value} {L : List Int}, Owns 3 1 encInt w1 b u L → Owns 3 1 encInt w2 b u L := fun {b u L} hf => by
    have h1 : Owns 3 1 encInt (w1.alloc o) b u L := hf.ext ((Ext.refl w1).alloc o)
    exact h1.kept fun g' hg' => hgr.block g' (h1.lt hg').2 (hO1.apart h1 hg')
  have hwe := h.ext.size
  refine ⟨by simp [h.len], ho, fun i hi => ?_, ?_, ?_⟩
  · by_cases hlt : i < gs.length
    · rw [List.getElem_append_left hlt]
      exact hk ((h.fill i hlt).ext e1)
    · have : i = gs.length := by simp at hi; omega
      subst this
      rw [List.getElem_append_right (Nat.le_refl _)]
      simp only [Nat.sub_self, List.getElem_cons_zero]
      rw [h.len]
      have h2 := hk hF
      exact ⟨h2.1, by
        rcases h2.2 with h0 | ⟨g', cap, cur, e, hg', r⟩
        · exact .inl h0
        · exact .inr ⟨g', cap, cur, e, Nat.le_trans hwe hg', r⟩⟩
  · rw [List.map_append, List.nodup_append]
    refine ⟨h.nodup, by simp, fun a ha b hb => ?_⟩
    simp only [List.map_cons, List.map_nil, List.mem_singleton] at hb
    obtain ⟨x, hx, rfl⟩ := List.mem_map.1 ha
    obtain ⟨i, hi, rfl⟩ := List.mem_iff_getElem.1 hx
    have := ((h.fill i hi).lt (g := gs[i].1) rfl).2
    omega
  · exact grown_ext w (h.ext.trans e1) (Nat.le_refl _) (fun g' hg' => (h.own.lt hg').1) hgr
theorem Grid.done {n : Nat} {f : Tab} {w : World} {v : Value} {gs : List (Nat × Nat)} {wr : World} (h : Grid n f w n v gs wr) (hn : 1 ≤ n) : ∃ g c r cp, v = .slice (some ⟨g, 0, none⟩) n c ∧ Ext w wr ∧ TabC wr w.heap.size wr.heap.size g n r cp f := by
  have hl := h.len
  rcases h.own.form with ⟨e, _⟩ | ⟨g, cap, rfl, hg1, hg2⟩
  · rw [e] at hl; simp at hl; omega
  · have hd : ∀ i (hi : i < n), gs.getD i (0, 0) = gs[i]'(by omega) := fun i hi => by
      rw [List.getD_eq_getElem?_getD, List.getElem?_eq_getElem (by omega)]; rfl
    have hf : ∀ i, i < n → Owns 3 1 encInt wr w.heap.size (.slice (some ⟨(gs.getD i (0, 0)).1, 0, none⟩) n (gs.getD i (0, 0)).2) (rowOf f i n) := fun i hi => by
      rw [hd i hi]; exact h.fill i (by omega)
    refine ⟨g, cap, fun i => (gs.getD i (0, 0)).1, fun i => (gs.getD i (0, 0)).2, by rw [hl], h.ext, hg1, hg2, fun i hi' => ((hf i hi').lt rfl).1, fun i hi' => ((hf i hi').lt rfl).2, fun i hi' e => ?_, fun i j hi' hj e => ?_, fun i hi' => ?_, fun i j hi' hj => ?_, fun i o hi' => ?_, Nat.le_refl _⟩
    · exact h.own.apart (hf i hi') (g := (gs.getD i (0, 0)).1) rfl (by show some _ = some g; rw [e])
    · have e : (gs.getD i (0, 0)).1 = (gs.getD j (0, 0)).1 := e
      rw [hd i hi', hd j hj] at e
      have h1 : (gs.map (·.1))[i]'(by simp; omega) = (gs.map (·.1))[j]'(by simp; omega) := by simpa using e
      exact (List.getElem_inj h.nodup).1 h1
    · have := (h.own.cell (fun _ => rfl) (j := i) (i := 0) (by omega) (by omega)).1
      rw [Nat.mul_one, Nat.add_zero] at this
      rw [this, hd i hi']
      rfl
    · have := ((hf i hi').cell (fun _ => rfl) (j := j) (i := 0) (by rw [rowOf_length]; exact hj) (by omega)).1
      rw [Nat.mul_one, Nat.add_zero] at this
      rw [this]
      simp [encInt, rowOf]
    · rcases (hf i hi').2 with ⟨e, _⟩ | ⟨g', cap', cur, e, _, hh, _⟩
      · cases e
      · simp only [Value.slice.injEq, Option.some.injEq, Addr.mk.injEq, and_true] at e
        obtain ⟨e, _⟩ := e
        show wr.frozen? ⟨(gs.getD i (0, 0)).1, o, none⟩ = false
        rw [e]
        unfold World.frozen?
        simp only [hh]
        simp
end Go.Proofs.YtmmimbcfgobnaaaGreat
namespace Go.Proofs.YtmmimbcfgobnaaaGreat
open Go.RowKit
set_option linter.unusedVariables false
set_option linter.unusedSimpArgs false
attribute [local go_sem] stored_match isSome_setCell

def TabPost (n : Nat) (f : Tab) (w : World) (e : Ending) (w' : World) : Prop :=
  ∃ lo hi g c r cp, e = .returned (.slice (some ⟨g, 0, none⟩) n c) ∧ TabC w' lo hi g n r cp f ∧ Ext w w'
structure FwSt (W1 : World) (hi g n : Nat) (r cp : Nat → Nat) (f : Tab) (wr : World) : Prop where
  tab : TabC wr W1.heap.size hi g n r cp f
  ext : Ext W1 wr
theorem FwSt.set {W1 : World} {hi g n : Nat} {r cp : Nat → Nat} {f : Tab} {wr : World} (h : FwSt W1 hi g n r cp f wr) {w' : World} (e : Ext wr w') {a b : Nat} (ha : a < n) (hb : b < n) (v : Int) : FwSt W1 hi g n r cp (f.set a b v) (w'.setCell ⟨r a, b, none⟩ (.int .i64 v)) :=
  ⟨(h.tab.ext e).set ha hb v, (h.ext.trans e).set (h.tab.r1 a ha) _⟩
theorem FwSt.grow {W1 : World} {hi g n : Nat} {r cp : Nat → Nat} {f : Tab} {wr w' : World} (h : FwSt W1 hi g n r cp f wr) (e : Ext wr w') : FwSt W1 hi g n r cp f w' := ⟨h.tab.ext e, h.ext.trans e⟩
theorem diag_at {f : Tab} {n a b : Nat} (ha : a < n) (hb : b < n) : (f.diag n) a b = if a = b then 0 else f a b := by
  unfold Tab.diag
  by_cases h : a = b
  · rw [if_pos h, if_pos (by omega)]
  · rw [if_neg h, if_neg (by omega)]
set_option maxRecDepth 100000 in
set_option maxHeartbeats 2000000 in
theorem times_66 (N : Net) (AF AS : Option Addr) (nF cF nS cS : Nat) (A : Option Addr) (nx c : Nat) (w : World) (hX : Rows 3 Leg.enc w A nx N.net) (hg : N.good = true) :
    Calls Tryz.prog 66 #[N.met.val (.slice AF nF cF) (.slice AS nS cS), .slice A nx c] w (TabPost N.n N.T w) := by
  obtain ⟨-, hp, ⟨n1, n2, n3, n8⟩, hLu, hTu⟩ := Net.good_parts hg
  have hLe : legTab N.net = legOf N.net := legTab_eq (fun x hx => by
    unfold Net.good at hg
    simp only [Bool.and_eq_true, decide_eq_true_eq, List.all_eq_true] at hg
    exact (Leg.ok_parts (hg.2 x hx)).2.2.1)
  have hTe : N.T = Tab.fw N.n ((legOf N.net).diag N.n) N.n := by rw [← hLe]; rfl
  have hup : ((legOf N.net).diag N.n).upto 200 ∧ ∀ a : Int, 0 ≤ a → a < N.n → ((legOf N.net).diag N.n) a a = 0 := by
    rw [← hLe]
    exact ⟨hLu.diag (by omega) _, fun a h0 h1 => by unfold Tab.diag; rw [if_pos ⟨rfl, h0, h1⟩]⟩
  rw [hTe]
  generalize hn : N.n = n at *
  have hD : ∀ a b : Nat, a < n → b < n → ((legOf N.net).diag n) a b = if a = b then 0 else legOf N.net a b := fun a b ha hb => diag_at ha hb
  generalize (legOf N.net).diag n = D at *
  have hD := Lib.hid hD
  have hup := Lib.hid hup
  have hX := Lib.hid hX
  clear hLu hTu hLe hTe hg hn
  simp only [Met.val]
  go_enter Tryz.func66, Tryz.ntmps66
  go_wp2_with fail
  refine name_world (R := fun W => Code.wp _ _ _ _ W) fun W1 hx1 hc1 hf1 hz1 => ?_
  have hxw : Ext w W1 := (by with_reducible (repeat first | assumption | exact Ext.refl _ | refine Ext.set ?_ (by omega) _ | refine Ext.alloc ?_ _ | refine Ext.drew ?_ | refine Ext.drewN ?_ _ | refine Ext.trans ?_ (by assumption)))
  have b0 : W1.cell? ⟨w.heap.size, 0, none⟩ = some (.int .i64 N.met.places) := by go_simp
  have e0 : w.heap.size < W1.heap.size := by have := hx1.size; simp at this; omega
  have hxw := Lib.hid hxw
  clear hx1 hc1 hf1 hz1
  go_loopw [5, 6] (fun v i wr => ∃ k : Nat, k ≤ n ∧ i = .int .i64 k ∧ ∃ gs, Grid n D W1 k v gs wr) (fun _ i _ => n - (intOf i).toNat)
  case atStart => exact ⟨0, Nat.zero_le _, rfl, [], rfl, Owns.nil _ _ _ _ _, fun i h => absurd h (by simp), by simp, Ext.refl _⟩
  case round =>
    obtain ⟨k, hk, rfl, gs, hS⟩ := hrel
    have b1 := (hS.ext.cells.1 _ _ e0).trans b0
    have e1 := Nat.lt_of_lt_of_le e0 hS.ext.size
    by_cases hlt : (k : Int) < N.met.places
    · have hl := hS.len
      have hes := hS.ext.size
      have hown := Lib.hid hS.own
      have hXr := Lib.hid (hX.out.ext (hxw.out.trans hS.ext))
      have hS := Lib.hid hS
      have hk2 : k < n := by omega
      go_wp2_with fail
      obtain ⟨wo, rfl⟩ : ∃ wo : World, wo = wr := ⟨_, rfl⟩
      go_loopw [7, 8] (fun v i wr => ∃ b : Nat, b ≤ n ∧ i = .int .i64 b ∧ Owns 3 1 encInt wr wo.heap.size v (rowOf D k b) ∧ Ext wo wr) (fun _ i _ => n - (intOf i).toNat)
      case atStart => exact ⟨0, Nat.zero_le _, rfl, Owns.nil _ _ _ _ _, Ext.refl _⟩
      case round =>
        obtain ⟨b, hb, rfl, hown2, he⟩ := hrel
        have q1 := (he.cells.1 _ _ e1).trans b1
        have q2 := Nat.lt_of_lt_of_le e1 he.size
        have q3 := he.size
        by_cases hlt2 : (b : Int) < N.met.places
        · have hb2 : b < n := by omega
          have hv := hD.out k b hk2 hb2
          have hown2 := Lib.hid hown2
          by_cases hkb : k = b
          · rw [if_pos hkb] at hv
            have hv := Lib.hid hv
            subst hkb
            go_wp2_with (first | (go_at_call 103; refine (leg_103 N.net A nx c _ _ _ (hXr.out.ext (by with_reducible (repeat first | assumption | exact Ext.refl _ | refine Ext.set ?_ (by omega) _ | refine Ext.alloc ?_ _ | refine Ext.drew ?_ | refine Ext.drewN ?_ _ | refine Ext.trans ?_ (by assumption))))).mono ?_; rintro ee w1 ⟨rfl, hb1⟩; obtain ⟨hc1, hf1, hz1⟩ := hb1.cells; have hs1 := hb1.size) | (at_builtin; refine append_one e_int encInt (fun _ => rfl) encInt_one rfl _ _ rfl wo.heap.size _ (rowOf D k k) rfl 0 #[.int .i64 0] rfl _ rfl (by first | rfl | simp) (hown2.out.ext (by with_reducible (repeat first | assumption | exact Ext.refl _ | refine Ext.set ?_ (by omega) _ | refine Ext.alloc ?_ _ | refine Ext.drew ?_ | refine Ext.drewN ?_ _ | refine Ext.trans ?_ (by assumption)))) (by first | omega | (simp; omega)) (by rw [rowOf_length]; omega) ?_; intro v' w2 hown3 hgrow))
            go_roundw
            case rel => exact ⟨k + 1, by omega, by go_num, by rw [rowOf_succ, hv.out]; exact hown3, grown_ext wo (he.trans ((by with_reducible (repeat first | assumption | exact Ext.refl _ | refine Ext.set ?_ (by omega) _ | refine Ext.alloc ?_ _ | refine Ext.drew ?_ | refine Ext.drewN ?_ _ | refine Ext.trans ?_ (by assumption))) : Ext wr _)) (Nat.le_refl _) (fun g' hg' => (hown2.out.lt hg').1) hgrow⟩
            case measure => simp [intOf]; omega
          · rw [if_neg hkb] at hv
            have hv := Lib.hid hv
            have hkb' : ((k : Int) == (b : Int)) = false := by simp; omega
            go_wp2_with (first | (go_at_call 103; refine (leg_103 N.net A nx c _ _ _ (hXr.out.ext (by with_reducible (repeat first | assumption | exact Ext.refl _ | refine Ext.set ?_ (by omega) _ | refine Ext.alloc ?_ _ | refine Ext.drew ?_ | refine Ext.drewN ?_ _ | refine Ext.trans ?_ (by assumption))))).mono ?_; rintro ee w1 ⟨rfl, hb1⟩; obtain ⟨hc1, hf1, hz1⟩ := hb1.cells; have hs1 := hb1.size) | (at_builtin; refine append_one e_int encInt (fun _ => rfl) encInt_one rfl _ _ rfl wo.heap.size _ (rowOf D k b) rfl (legOf N.net k b) #[.int .i64 (legOf N.net k b)] rfl _ rfl (by first | rfl | simp) (hown2.out.ext (by with_reducible (repeat first | assumption | exact Ext.refl _ | refine Ext.set ?_ (by omega) _ | refine Ext.alloc ?_ _ | refine Ext.drew ?_ | refine Ext.drewN ?_ _ | refine Ext.trans ?_ (by assumption)))) (by first | omega | (simp; omega)) (by rw [rowOf_length]; omega) ?_; intro v' w2 hown3 hgrow))
            go_roundw
            case rel => exact ⟨b + 1, by omega, by go_num, by rw [rowOf_succ, hv.out]; exact hown3, grown_ext wo (he.trans ((by with_reducible (repeat first | assumption | exact Ext.refl _ | refine Ext.set ?_ (by omega) _ | refine Ext.alloc ?_ _ | refine Ext.drew ?_ | refine Ext.drewN ?_ _ | refine Ext.trans ?_ (by assumption))) : Ext wr _)) (Nat.le_refl _) (fun g' hg' => (hown2.out.lt hg').1) hgrow⟩
            case measure => simp [intOf]; omega
        · obtain rfl : b = n := by omega
          rcases hown2.form with ⟨e, _⟩ | ⟨g, cap, rfl, hg1, hg2⟩
          · have := rowOf_length D k b
            rw [e] at this
            simp at this
            omega
          · rw [rowOf_length] at hown2
            rw [rowOf_length]
            have hown2 := Lib.hid hown2
            go_wp2_with (at_builtin; refine append_one e_rows (encRowC b) (fun _ => rfl) (encRowC_one b) rfl _ _ rfl W1.heap.size _ gs rfl (g, cap) #[.slice (some ⟨g, 0, none⟩) b cap] rfl _ rfl (by first | rfl | simp) (hown.out.ext (by with_reducible (repeat first | assumption | exact Ext.refl _ | refine Ext.set ?_ (by omega) _ | refine Ext.alloc ?_ _ | refine Ext.drew ?_ | refine Ext.drewN ?_ _ | refine Ext.trans ?_ (by assumption)))) (by first | omega | (simp; omega)) (by omega) ?_; intro v' w2 hown3 hgrow)
            go_roundw
            case rel => exact ⟨k + 1, by omega, by go_num, gs ++ [(g, cap)], hS.out.step he hg1 hown2.out hown3 hgrow⟩
            case measure => simp [intOf]; omega
    · obtain rfl : k = n := by omega
      obtain ⟨g, cp0, r, cp, rfl, hEx, hTb⟩ := hS.done n3
      obtain ⟨hi, hhi⟩ : ∃ hi, hi = wr.heap.size := ⟨_, rfl⟩
      rw [← hhi] at hTb
      have hN : FwSt W1 hi g k r cp (Tab.fw k D 0) wr := ⟨hTb, hEx⟩
      clear hS hTb hEx hhi hD hX hlt
      go_wp2_with fail
      go_loopw [10] (fun i wr => ∃ c : Nat, c ≤ k ∧ i = .int .i64 c ∧ FwSt W1 hi g k r cp (Tab.fw k D c) wr) (fun i _ => k - (intOf i).toNat)
      case atStart => exact ⟨0, Nat.zero_le _, rfl, hN⟩
      case round =>
        clear hN b1 e1
        obtain ⟨c0, hc, rfl, hN⟩ := hrel
        have b1 := (hN.ext.cells.1 _ _ e0).trans b0
        have e1 := Nat.lt_of_lt_of_le e0 hN.ext.size
        by_cases hlt : (c0 : Int) < N.met.places
        · obtain ⟨hq1, hq2⟩ := Tab.fw_phase hup.out.1 hup.out.2 c0 hc
          have hst := Lib.hid (Tab.fw_succ k D c0)
          obtain ⟨B, hB0, hB1, hph⟩ : ∃ B : Int, 0 ≤ B ∧ B ≤ 51200 ∧ (Tab.fw k D c0).phase k c0 B := ⟨200 * 2 ^ c0, (pow_bd (by omega)).2, (pow_bd (by omega)).1, Tab.phase.start hq1 (pow_bd (by omega)).2 hq2 _⟩
          clear hq1 hq2
          generalize Tab.fw k D c0 = F at *
          have hph := Lib.hid hph
          have hc2 : c0 < k := by omega
          go_wp2_with fail
          obtain ⟨wo, rfl⟩ : ∃ wo : World, wo = wr := ⟨_, rfl⟩
          go_loopw [11] (fun i wr => ∃ a : Nat, a ≤ k ∧ i = .int .i64 a ∧ FwSt W1 hi g k r cp (Tab.viaA k F c0 a) wr) (fun i _ => k - (intOf i).toNat)
          case atStart => exact ⟨0, Nat.zero_le _, rfl, hN⟩
          case round =>
            clear hN b1 e1
            obtain ⟨a, ha, rfl, hN⟩ := hrel
            have b1 := (hN.ext.cells.1 _ _ e0).trans b0
            have e1 := Nat.lt_of_lt_of_le e0 hN.ext.size
            by_cases hlt : (a : Int) < N.met.places
            · have hphA := hph.out.viaA (by omega) a ha
              have hst2 := Lib.hid (Tab.viaA_succ k F c0 a)
              generalize Tab.viaA k F c0 a = G at *
              have hphA := Lib.hid hphA
              have ha2 : a < k := by omega
              go_wp2_with fail
              obtain ⟨wo2, rfl⟩ : ∃ wo2 : World, wo2 = wr := ⟨_, rfl⟩
              go_loopw [12] (fun i wr => ∃ b : Nat, b ≤ k ∧ i = .int .i64 b ∧ FwSt W1 hi g k r cp (G.viaB c0 a b) wr) (fun i _ => k - (intOf i).toNat)
              case atStart => exact ⟨0, Nat.zero_le _, rfl, hN⟩
              case round =>
                clear hN b1 e1
                obtain ⟨b, hb, rfl, hN⟩ := hrel
                have b1 := (hN.ext.cells.1 _ _ e0).trans b0
                have e1 := Nat.lt_of_lt_of_le e0 hN.ext.size
                by_cases hlt : (b : Int) < N.met.places
                ·
                  --<3
                  have hphB := hphA.out.viaB (by omega) a (by omega) b hb
                  have hst3 := Lib.hid (Tab.viaB_succ G c0 a b)
                  generalize G.viaB c0 a b = f at *
                  obtain ⟨v1, v2⟩ := hphB.all a c0
                  obtain ⟨v3, v4⟩ := hphB.all c0 b
                  have hb2 : b < k := by omega
                  have r1 := hN.tab.row a ha2
                  have r2 := hN.tab.row c0 hc2
                  have r3 := hN.tab.cell a c0 ha2 hc2
                  have r4 := hN.tab.cell c0 b hc2 hb2
                  have r5 := hN.tab.cell a b ha2 hb2
                  have r6 := hN.tab.free a b ha2
                  have l1 := Nat.lt_of_lt_of_le hN.tab.g2 hN.tab.hi_
                  have l2 := Nat.lt_of_lt_of_le (hN.tab.r2 a ha2) hN.tab.hi_
                  have l3 := Nat.lt_of_lt_of_le (hN.tab.r2 c0 hc2) hN.tab.hi_
                  have hN := Lib.hid hN
                  clear hphB b0
                  by_cases y1 : 0 ≤ f a c0
                  · by_cases y2 : 0 ≤ f c0 b
                    · have y3 : ¬ f a c0 < 0 := by omega
                      have y4 : ¬ f c0 b < 0 := by omega
                      have hvia := Lib.hid (show f.via c0 a b = f.short a b (f a c0 + f c0 b) by unfold Tab.via; rw [if_pos ⟨y1, y2⟩])
                      by_cases z1 : f a b < 0
                      · have hs := Lib.hid (show f.short a b (f a c0 + f c0 b) = f.set a b (f a c0 + f c0 b) by unfold Tab.short; rw [if_pos (Or.inl z1)])
                        go_wp2_with fail
                        go_quiet (fail)
                        go_wp2_with fail
                        go_roundw
                        case rel => exact ⟨b + 1, by omega, by go_num, by rw [hst3.out, hvia.out, hs.out]; exact hN.out.set (by with_reducible (repeat first | assumption | exact Ext.refl _ | refine Ext.set ?_ (by omega) _ | refine Ext.alloc ?_ _ | refine Ext.drew ?_ | refine Ext.drewN ?_ _ | refine Ext.trans ?_ (by assumption))) ha2 hb2 _⟩
                        case measure => simp [intOf]; omega
                      · by_cases z2 : f a c0 + f c0 b < f a b
                        · have hs := Lib.hid (show f.short a b (f a c0 + f c0 b) = f.set a b (f a c0 + f c0 b) by unfold Tab.short; rw [if_pos (Or.inr z2)])
                          go_wp2_with fail
                          go_quiet (fail)
                          go_wp2_with fail
                          go_roundw
                          case rel => exact ⟨b + 1, by omega, by go_num, by rw [hst3.out, hvia.out, hs.out]; exact hN.out.set (by with_reducible (repeat first | assumption | exact Ext.refl _ | refine Ext.set ?_ (by omega) _ | refine Ext.alloc ?_ _ | refine Ext.drew ?_ | refine Ext.drewN ?_ _ | refine Ext.trans ?_ (by assumption))) ha2 hb2 _⟩
                          case measure => simp [intOf]; omega
                        · have hs := Lib.hid (show f.short a b (f a c0 + f c0 b) = f by unfold Tab.short; rw [if_neg (by omega)])
                          go_wp2_with fail
                          go_quiet (fail)
                          have z3 : ¬ (f a c0 + f c0 b < f a b) := by omega
                          have z4 : ¬ (f a b < 0) := by omega
                          go_wp2_with fail
                          go_roundw
                          case rel => exact ⟨b + 1, by omega, by go_num, by rw [hst3.out, hvia.out, hs.out]; exact hN.out.grow ((by with_reducible (repeat first | assumption | exact Ext.refl _ | refine Ext.set ?_ (by omega) _ | refine Ext.alloc ?_ _ | refine Ext.drew ?_ | refine Ext.drewN ?_ _ | refine Ext.trans ?_ (by assumption))) : Ext wr _)⟩
                          case measure => simp [intOf]; omega
                    · have y3 : ¬ f a c0 < 0 := by omega
                      have y4 : f c0 b < 0 := by omega
                      have hvia := Lib.hid (show f.via c0 a b = f by unfold Tab.via; rw [if_neg (by omega)])
                      go_wp2_with fail
                      go_roundw
                      case rel => exact ⟨b + 1, by omega, by go_num, by rw [hst3.out, hvia.out]; exact hN.out.grow ((by with_reducible (repeat first | assumption | exact Ext.refl _ | refine Ext.set ?_ (by omega) _ | refine Ext.alloc ?_ _ | refine Ext.drew ?_ | refine Ext.drewN ?_ _ | refine Ext.trans ?_ (by assumption))) : Ext wr _)⟩
                      case measure => simp [intOf]; omega
                  · have y3 : f a c0 < 0 := by omega
                    have hvia := Lib.hid (show f.via c0 a b = f by unfold Tab.via; rw [if_neg (by omega)])
                    go_wp2_with fail
                    go_roundw
                    case rel => exact ⟨b + 1, by omega, by go_num, by rw [hst3.out, hvia.out]; exact hN.out.grow ((by with_reducible (repeat first | assumption | exact Ext.refl _ | refine Ext.set ?_ (by omega) _ | refine Ext.alloc ?_ _ | refine Ext.drew ?_ | refine Ext.drewN ?_ _ | refine Ext.trans ?_ (by assumption))) : Ext wr _)⟩
                    case measure => simp [intOf]; omega
                  -->3
                · obtain rfl : b = k := by omega
                  have hN := Lib.hid hN
                  go_wp2_with fail
                  go_roundw
                  case rel => exact ⟨a + 1, by omega, by go_num, by rw [hst2.out]; exact hN.out⟩
                  case measure => simp [intOf]; omega
            · obtain rfl : a = k := by omega
              have hN := Lib.hid hN
              go_wp2_with fail
              go_roundw
              case rel => exact ⟨c0 + 1, by omega, by go_num, by rw [hst.out]; exact hN.out⟩
              case measure => simp [intOf]; omega
        · obtain rfl : c0 = k := by omega
          have hN := Lib.hid hN
          go_wp2_with fail
          go_ret
          exact ⟨_, _, _, _, _, _, rfl, hN.out.tab, hxw.out.trans hN.out.ext⟩
end Go.Proofs.YtmmimbcfgobnaaaGreat
namespace Go.Proofs.YtmmimbcfgobnaaaGreat
open Go.RowKit
set_option linter.unusedVariables false
set_option linter.unusedSimpArgs false
attribute [local go_sem] stored_match isSome_setCell

def TimesCPost (N : Net) (w : World) (e : Ending) (w' : World) : Prop :=
  (N.check = 0 → ∃ lo hi g c r cp, e = .returned (.tuple #[.slice (some ⟨g, 0, none⟩) N.n c, .int .i64 0]) ∧ TabC w' lo hi g N.n r cp N.T) ∧ (N.check ≠ 0 → e = .returned (.tuple #[.slice none 0 0, .int .i64 N.check])) ∧ Ext w w'
set_option maxRecDepth 100000 in
set_option maxHeartbeats 2000000 in
theorem Times_27 (I : Inp) (w : World) (h : I.In w) :
    Calls Tryz.prog 27 #[I.vm, I.vn] w (TimesCPost I.N w) := by
  simp only [Inp.vm, Inp.vn, Met.val]
  by_cases hc : I.N.check = 0
  · have hg := Lib.hid (Net.check_good hc)
    have hc := Lib.hid hc
    go_enter Tryz.func27, Tryz.ntmps27
    go_wp2_with (first | (go_at_call 22; refine (checkNet_22 I.m I.xs I.AF I.AS I.nF I.cF I.nS I.cS I.AX I.nX I.cX _ (h.met.ext (by with_reducible (repeat first | assumption | exact Ext.refl _ | refine Ext.set ?_ (by omega) _ | refine Ext.alloc ?_ _ | refine Ext.drew ?_ | refine Ext.drewN ?_ _ | refine Ext.trans ?_ (by assumption)))) (h.net.ext (by with_reducible (repeat first | assumption | exact Ext.refl _ | refine Ext.set ?_ (by omega) _ | refine Ext.alloc ?_ _ | refine Ext.drew ?_ | refine Ext.drewN ?_ _ | refine Ext.trans ?_ (by assumption))))).mono ?_; rintro e1 w1 ⟨rfl, hb1⟩; obtain ⟨hc1, hf1, hz1⟩ := hb1.cells; have hc2 := hc.out) | (go_at_call 66; refine (times_66 I.N I.AF I.AS I.nF I.cF I.nS I.cS I.AX I.nX I.cX _ (h.net.ext (by with_reducible (repeat first | assumption | exact Ext.refl _ | refine Ext.set ?_ (by omega) _ | refine Ext.alloc ?_ _ | refine Ext.drew ?_ | refine Ext.drewN ?_ _ | refine Ext.trans ?_ (by assumption)))) hg.out).mono ?_; rintro e1 w2 ⟨lo, hi, g, c, r, cp, rfl, hT, hb2⟩; replace hT := Lib.hid hT))
    go_ret2
    exact ⟨fun _ => ⟨_, _, _, _, _, _, rfl, hT.out⟩, fun hn => absurd hc.out hn, (by with_reducible (repeat first | assumption | exact Ext.refl _ | refine Ext.set ?_ (by omega) _ | refine Ext.alloc ?_ _ | refine Ext.drew ?_ | refine Ext.drewN ?_ _ | refine Ext.trans ?_ (by assumption)))⟩
  · have hbb : (I.N.check == (0 : Int)) = false := beq_eq_false_iff_ne.2 hc
    have hbn : (I.N.check != (0 : Int)) = true := by rw [bne_iff_ne]; exact hc
    replace hc := Lib.hid hc
    go_enter Tryz.func27, Tryz.ntmps27
    go_wp2_with (first | (go_at_call 22; refine (checkNet_22 I.m I.xs I.AF I.AS I.nF I.cF I.nS I.cS I.AX I.nX I.cX _ (h.met.ext (by with_reducible (repeat first | assumption | exact Ext.refl _ | refine Ext.set ?_ (by omega) _ | refine Ext.alloc ?_ _ | refine Ext.drew ?_ | refine Ext.drewN ?_ _ | refine Ext.trans ?_ (by assumption)))) (h.net.ext (by with_reducible (repeat first | assumption | exact Ext.refl _ | refine Ext.set ?_ (by omega) _ | refine Ext.alloc ?_ _ | refine Ext.drew ?_ | refine Ext.drewN ?_ _ | refine Ext.trans ?_ (by assumption))))).mono ?_; rintro e1 w1 ⟨rfl, hb1⟩; obtain ⟨hc1, hf1, hz1⟩ := hb1.cells))
    go_ret2
    exact ⟨fun h0 => absurd h0 hc.out, fun _ => rfl, (by with_reducible (repeat first | assumption | exact Ext.refl _ | refine Ext.set ?_ (by omega) _ | refine Ext.alloc ?_ _ | refine Ext.drew ?_ | refine Ext.drewN ?_ _ | refine Ext.trans ?_ (by assumption)))⟩
set_option maxRecDepth 100000 in
set_option maxHeartbeats 2000000 in
theorem sameInts_28 (L : List Int) (A B : Option Addr) (n c d : Nat) (w : World) (hA : Rows 1 encInt w A n L) (hB : Rows 1 encInt w B n L) :
    Calls Tryz.prog 28 #[.slice A n c, .slice B n d] w fun e w' => e = .returned (.bool true) ∧ Ext w w' := by
  obtain rfl := hA.len
  have hsm := hA.small
  go_enter Tryz.func28, Tryz.ntmps28
  go_wp2_with fail
  go_loopw [5] (fun i wr => ∃ k : Nat, k ≤ L.length ∧ i = .int .i64 k ∧ Ext w wr) (fun i _ => L.length - (intOf i).toNat)
  case atStart => exact ⟨0, Nat.zero_le _, rfl, Ext.refl _⟩
  case round =>
    obtain ⟨k, hk, rfl, he⟩ := hrel
    by_cases hlt : k < L.length
    · obtain ⟨b0, off, rfl, hb0, q0⟩ := (hA.ext he).int hlt
      obtain ⟨b1, off1, rfl, hb1, q1⟩ := (hB.ext he).int hlt
      go_wp2_with fail
      go_quiet (fail)
      go_wp2_with fail
      go_roundw
      case rel => exact ⟨k + 1, by omega, by go_num, (by with_reducible (repeat first | assumption | exact Ext.refl _ | refine Ext.set ?_ (by omega) _ | refine Ext.alloc ?_ _ | refine Ext.drew ?_ | refine Ext.drewN ?_ _ | refine Ext.trans ?_ (by assumption)))⟩
      case measure => simp [intOf]; omega
    · obtain rfl : k = L.length := by omega
      go_wp2_with fail
      go_ret
      exact ⟨rfl, he⟩
end Go.Proofs.YtmmimbcfgobnaaaGreat
