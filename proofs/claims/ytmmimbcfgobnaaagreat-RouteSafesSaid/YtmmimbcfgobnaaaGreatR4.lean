/- route.fly, newFlight. -/
import Derived.Test.YtmmimbcfgobnaaaGreatR3
set_option linter.unusedVariables false
set_option linter.unusedSimpArgs false
namespace Go.Proofs.YtmmimbcfgobnaaaGreat
open Go.RowKit
set_option linter.unusedVariables false
set_option linter.unusedSimpArgs false
attribute [local go_sem] stored_match isSome_setCell

/-- A flight in block p, over the net in block q. -/
structure FlightAt (w : World) (p q : Nat) (f : Flight) (R : Value) (l : Minima) (v : Value) : Prop where
  lt : p < w.heap.size
  c0 : w.cell? ⟨p, 0, none⟩ = some (.pointer (some ⟨q, 0, none⟩))
  c1 : w.cell? ⟨p, 1, none⟩ = some R
  c2 : w.cell? ⟨p, 2, none⟩ = some (.int .i64 f.depart)
  c3 : w.cell? ⟨p, 3, none⟩ = some (.int .i64 f.fuel)
  c4 : w.cell? ⟨p, 4, none⟩ = some (.int .i64 f.burn)
  c5 : w.cell? ⟨p, 5, none⟩ = some (.int .i64 f.reserve)
  c6 : w.cell? ⟨p, 6, none⟩ = some (.int .i64 l.wind)
  c7 : w.cell? ⟨p, 7, none⟩ = some (.int .i64 l.see)
  c8 : w.cell? ⟨p, 8, none⟩ = some (.int .i64 l.ceil)
  c9 : w.cell? ⟨p, 9, none⟩ = some (.bool l.ice)
  c10 : w.cell? ⟨p, 10, none⟩ = some (.bool l.storm)
  c11 : w.cell? ⟨p, 11, none⟩ = some v
  free : ∀ o, w.frozen? ⟨p, o, none⟩ = false
theorem FlightAt.same {w w' : World} {p q : Nat} {f : Flight} {R : Value} {l : Minima} {v : Value} (h : FlightAt w p q f R l v) (hl : p < w'.heap.size) (e : ∀ o, w'.cell? ⟨p, o, none⟩ = w.cell? ⟨p, o, none⟩) (e2 : ∀ o, w'.frozen? ⟨p, o, none⟩ = w.frozen? ⟨p, o, none⟩) : FlightAt w' p q f R l v :=
  ⟨hl, (e _).trans h.c0, (e _).trans h.c1, (e _).trans h.c2, (e _).trans h.c3, (e _).trans h.c4, (e _).trans h.c5, (e _).trans h.c6, (e _).trans h.c7, (e _).trans h.c8, (e _).trans h.c9, (e _).trans h.c10, (e _).trans h.c11, fun o => (e2 _).trans (h.free o)⟩
theorem FlightAt.ext {w w' : World} {p q : Nat} {f : Flight} {R : Value} {l : Minima} {v : Value} (h : FlightAt w p q f R l v) (e : Ext w w') : FlightAt w' p q f R l v :=
  h.same (e.cells.2.2 _ h.lt) (fun o => e.cells.1 _ o h.lt) (fun o => e.cells.2.1 _ o h.lt)
theorem FlightAt.grown {w w' : World} {p q : Nat} {f : Flight} {R : Value} {l : Minima} {v : Value} {r : Option Nat} (h : FlightAt w p q f R l v) (k : w.grownBy w' r) (hp : ¬ (some p = r)) : FlightAt w' p q f R l v := by
  obtain ⟨c, fz, z⟩ := grown_cells k
  exact h.same (z _ h.lt) (fun o => c _ o h.lt hp) (fun o => fz _ o h.lt hp)
theorem FlightAt.put {w : World} {p q : Nat} {f : Flight} {R : Value} {l : Minima} {v : Value} (h : FlightAt w p q f R l v) (v' : Value) : FlightAt (w.setCell ⟨p, 11, none⟩ v') p q f R l v' := by
  have n : ∀ o, o ≠ 11 → (w.setCell ⟨p, 11, none⟩ v').cell? ⟨p, o, none⟩ = w.cell? ⟨p, o, none⟩ := fun o ho => cell_set_ne _ _ (Or.inr ho)
  exact ⟨by simpa [World.setCell] using h.lt, (n _ (by omega)).trans h.c0, (n _ (by omega)).trans h.c1, (n _ (by omega)).trans h.c2, (n _ (by omega)).trans h.c3, (n _ (by omega)).trans h.c4, (n _ (by omega)).trans h.c5, (n _ (by omega)).trans h.c6, (n _ (by omega)).trans h.c7, (n _ (by omega)).trans h.c8, (n _ (by omega)).trans h.c9, (n _ (by omega)).trans h.c10, cell_set_eq _ _ (by rw [h.c11]; rfl), fun o => by rw [((ExtBut.refl p w).set 11 v').frozen h.lt o]; exact h.free o⟩
def z_min : Minima := ⟨0, 0, 0, false, false⟩
/-- The tick behind the first k places. -/
def Flight.nowAt (f : Flight) (L : Tab) (k : Nat) : Int := f.at L (k - 1)
theorem Flight.nowAt_succ (f : Flight) (L : Tab) (j : Nat) : f.nowAt L (j + 1 + 1) = f.nowAt L (j + 1) + L (f.route.getD j 0) (f.route.getD (j + 1) 0) := rfl
theorem Flight.atList_succ (f : Flight) (L : Tab) (k : Nat) : f.atList L (k + 1) = f.atList L k ++ [f.nowAt L (k + 1)] := by
  simp [Flight.atList, List.range_succ, Flight.nowAt]
theorem Flight.atList_length (f : Flight) (L : Tab) (k : Nat) : (f.atList L k).length = k := by simp [Flight.atList]
theorem Flight.good_parts {f : Flight} {places : Int} {L : Tab} (h : f.good places L = true) : f.plain = true ∧ (∀ p ∈ f.route, 0 ≤ p ∧ p ≤ places - 1) ∧ joined L f.route f.last = true ∧ f.arrival L ≤ 2000 := by
  unfold Flight.good at h
  simp only [Bool.and_eq_true, decide_eq_true_eq, List.all_eq_true] at h
  exact ⟨h.1.1.1, fun p hp => within_true.1 (h.1.1.2 p hp), h.1.2, h.2⟩
theorem Flight.plain_parts {f : Flight} (h : f.plain = true) : (1 ≤ f.route.length ∧ f.route.length ≤ 8) ∧ (0 ≤ f.depart ∧ f.depart ≤ 2000) ∧ (0 ≤ f.fuel ∧ f.fuel ≤ 100000) ∧ (0 ≤ f.reserve ∧ f.reserve ≤ 100000) ∧ (1 ≤ f.burn ∧ f.burn ≤ 100000) := by
  unfold Flight.plain at h
  simp only [Bool.and_eq_true, decide_eq_true_eq] at h
  exact ⟨h.1.1.1.1, within_true.1 h.1.1.1.2, within_true.1 h.1.1.2, within_true.1 h.1.2, within_true.1 h.2⟩
def FlyPost (w : World) (q : Nat) (places : Int) (L : Tab) (f : Flight) (R : Value) (e : Ending) (w' : World) : Prop :=
  (f.good places L = true → ∃ p v, e = .returned (.pointer (some ⟨p, 0, none⟩)) ∧ w.heap.size ≤ p ∧ FlightAt w' p q f R z_min v ∧ Owns 3 1 encInt w' (p + 1) v (f.atList L f.route.length)) ∧ (f.good places L = false → e = .returned (.pointer none)) ∧ Ext w w'
theorem FlyPost.bad {w : World} {q : Nat} {places : Int} {L : Tab} {f : Flight} {R : Value} {w' : World} (h : f.good places L = false) (e : Ext w w') : FlyPost w q places L f R (.returned (.pointer none)) w' :=
  ⟨fun g => by rw [h] at g; exact absurd g (by decide), fun _ => rfl, e⟩
theorem FlyPost.ok {w : World} {q : Nat} {places : Int} {L : Tab} {f : Flight} {R : Value} {w' : World} {p : Nat} {v : Value} (h : f.good places L = true) (hp : w.heap.size ≤ p) (hF : FlightAt w' p q f R z_min v) (hO : Owns 3 1 encInt w' (p + 1) v (f.atList L f.route.length)) (e : Ext w w') : FlyPost w q places L f R (.returned (.pointer (some ⟨p, 0, none⟩))) w' :=
  ⟨fun _ => ⟨p, v, rfl, hp, hF, hO⟩, fun g => by rw [h] at g; exact absurd g (by decide), e⟩
theorem bad_plain {f : Flight} {places : Int} {L : Tab} (h : f.plain = false) : f.good places L = false := by unfold Flight.good; rw [h]; rfl
theorem encInt_one : ∀ x, ∀ u ∈ encInt x, u.oneCell' = true := by
  intro x u hu
  simp only [encInt, List.mem_singleton] at hu
  subst hu; rfl
/-- The places of the route up to the k-th one are fine. -/
structure RouteOk (f : Flight) (places : Int) (L : Tab) (k : Nat) : Prop where
  all : ∀ p ∈ f.route.take k, 0 ≤ p ∧ p ≤ places - 1
  legs : joined L f.route (k - 1) = true
  low : 0 ≤ f.nowAt L k
  high : f.nowAt L k ≤ 2000 + 200 * k
theorem RouteOk.zero {f : Flight} {places : Int} {L : Tab} (h : 0 ≤ f.depart ∧ f.depart ≤ 2000) : RouteOk f places L 0 := ⟨by simp, rfl, h.1, by show f.depart ≤ _; omega⟩
theorem mem_take_succ {α : Type} {xs : List α} {k : Nat} {x y : α} (h : xs[k]? = some x) (hy : y ∈ xs.take (k + 1)) : y ∈ xs.take k ∨ y = x := by
  obtain ⟨hk, rfl⟩ := List.getElem?_eq_some_iff.1 h
  rw [List.take_succ_eq_append_getElem hk, List.mem_append, List.mem_singleton] at hy
  exact hy
theorem RouteOk.one {f : Flight} {places : Int} {L : Tab} (h : RouteOk f places L 0) {x : Int} (hx : f.route[0]? = some x) (hp : 0 ≤ x ∧ x ≤ places - 1) : RouteOk f places L 1 :=
  ⟨fun p hp' => by rcases mem_take_succ hx hp' with h1 | rfl; exact h.all p h1; exact hp, rfl, h.low, by have := h.high; show f.depart ≤ _; have e : f.nowAt L 0 = f.depart := rfl; omega⟩
theorem RouteOk.succ {f : Flight} {places : Int} {L : Tab} {j : Nat} (h : RouteOk f places L (j + 1)) {x y : Int} (hx : f.route[j + 1]? = some x) (hy : f.route[j]? = some y) (hp : 0 ≤ x ∧ x ≤ places - 1) (h0 : 0 ≤ L y x) (h1 : L y x ≤ 200) : RouteOk f places L (j + 1 + 1) := by
  have ex : f.route.getD (j + 1) 0 = x := by rw [List.getD_eq_getElem?_getD, hx]; rfl
  have ey : f.route.getD j 0 = y := by rw [List.getD_eq_getElem?_getD, hy]; rfl
  have e := f.nowAt_succ L j
  rw [ex, ey] at e
  have h2 := h.low
  have h3 := h.high
  refine ⟨fun p hp' => ?_, ?_, by rw [e]; omega, by rw [e]; omega⟩
  · rcases mem_take_succ hx hp' with h1 | rfl
    · exact h.all p h1
    · exact hp
  · show (joined L f.route j && decide (0 ≤ L (f.route.getD j 0) (f.route.getD (j + 1) 0))) = true
    rw [ex, ey]
    have := h.legs
    simp only [Nat.add_sub_cancel] at this
    rw [this]
    simp [h0]
theorem bad_place {f : Flight} {places : Int} {L : Tab} {k : Nat} {x : Int} (hx : f.route[k]? = some x) (hp : within x 0 (places - 1) = false) : f.good places L = false := by
  rw [← Bool.not_eq_true]
  intro h
  have := (Flight.good_parts h).2.1 x (List.mem_of_getElem? hx)
  rw [within_false] at hp
  omega
theorem joined_false {L : Tab} {r : List Int} {j : Nat} (h : ¬ 0 ≤ L (r.getD j 0) (r.getD (j + 1) 0)) : ∀ n, j < n → joined L r n = false
  | n + 1, hj => by
    unfold joined
    by_cases e : j = n
    · subst e; exact Bool.and_eq_false_iff.2 (Or.inr (decide_eq_false h))
    · rw [joined_false h n (by omega)]; rfl
theorem bad_leg {f : Flight} {places : Int} {L : Tab} {j : Nat} {x y : Int} (hx : f.route[j + 1]? = some x) (hy : f.route[j]? = some y) (h0 : L y x < 0) : f.good places L = false := by
  have ex : f.route.getD (j + 1) 0 = x := by rw [List.getD_eq_getElem?_getD, hx]; rfl
  have ey : f.route.getD j 0 = y := by rw [List.getD_eq_getElem?_getD, hy]; rfl
  have hl : j + 1 < f.route.length := (List.getElem?_eq_some_iff.1 hx).1
  have := joined_false (L := L) (r := f.route) (j := j) (by rw [ex, ey]; omega) f.last (by unfold Flight.last; omega)
  unfold Flight.good
  rw [this, Bool.and_false, Bool.false_and]
theorem RouteOk.good {f : Flight} {places : Int} {L : Tab} (hp : f.plain = true) (h : RouteOk f places L f.route.length) (h1 : f.nowAt L f.route.length ≤ 2000) : f.good places L = true := by
  unfold Flight.good
  simp only [Bool.and_eq_true, decide_eq_true_eq, List.all_eq_true]
  refine ⟨⟨⟨hp, fun p hp' => within_true.2 (h.all p (by rw [List.take_of_length_le (Nat.le_refl _)]; exact hp'))⟩, h.legs⟩, h1⟩
theorem bad_late {f : Flight} {places : Int} {L : Tab} (h1 : 2000 < f.nowAt L f.route.length) : f.good places L = false := by
  rw [← Bool.not_eq_true]
  intro h
  have := (Flight.good_parts h).2.2.2
  unfold Flight.arrival Flight.last at this
  unfold Flight.nowAt at h1
  omega
theorem Owns.sliced {α : Type} {e : TypeId} {k : Nat} {enc : α → List Value} {w : World} {base : Nat} {v : Value} {L : List α} (h : Owns e k enc w base v L) : ∃ A n c, v = .slice A n c := by
  rcases h.form with ⟨_, rfl⟩ | ⟨g, c, rfl, _⟩
  · exact ⟨_, _, _, rfl⟩
  · exact ⟨_, _, _, rfl⟩
theorem Rows.intx {w : World} {A : Option Addr} {n : Nat} {xs : List Int} (h : Rows 1 encInt w A n xs) {j : Nat} (hj : j < n) {x : Int} (hx : xs[j]? = some x) : ∃ b off, A = some ⟨b, off, none⟩ ∧ b < w.heap.size ∧ w.cell? ⟨b, off + j, none⟩ = some (.int .i64 x) := by
  obtain ⟨b, off, e, hb, h0⟩ := h.int hj
  obtain ⟨hk, rfl⟩ := List.getElem?_eq_some_iff.1 hx
  exact ⟨b, off, e, hb, h0⟩
set_option maxRecDepth 100000 in
set_option maxHeartbeats 2000000 in
theorem fly_102 (W0 : World) (m : Met) (F S : Value) (q n : Nat) (t : Two) (L T : Tab) (f : Flight) (AR : Option Addr) (nR cR : Nat) (w : World) (hN : NetSt W0 m F S q n t L T w) (hL : L.upto 200) (hR : Rows 1 encInt w AR nR f.route) (hn1 : (n : Int) ≤ m.places) (hn2 : m.places ≤ n) (hn8 : n ≤ 8) (h1n : 1 ≤ n) :
    Calls Tryz.prog 102 #[.pointer (some ⟨q, 0, none⟩), f.val (.slice AR nR cR)] w (FlyPost w q m.places L f (.slice AR nR cR)) := by
  obtain rfl := hR.len
  have hsm := hR.small
  simp only [Flight.val]
  rcases Bool.eq_false_or_eq_true f.plain with hp | hp
  · obtain ⟨⟨d1, d2⟩, ⟨d3, d4⟩, ⟨d5, d6⟩, ⟨d7, d8⟩, ⟨d9, d10⟩⟩ := Flight.plain_parts hp
    have w1 : within (f.route.length : Int) 1 8 = true := within_true.2 (by omega)
    have w2 : within f.depart 0 2000 = true := within_true.2 (by omega)
    have w3 : within f.fuel 0 100000 = true := within_true.2 (by omega)
    have w4 : within f.reserve 0 100000 = true := within_true.2 (by omega)
    have w5 : within f.burn 1 100000 = true := within_true.2 (by omega)
    have hp := Lib.hid hp
    have hN' := Lib.hid hN
    clear hN
    go_enter Tryz.func102, Tryz.ntmps102
    go_wp2_with (go_at_call 85; refine (within_85 _ _ _ _).mono ?_; rintro e1 w1 ⟨rfl, rfl⟩)
    refine name_world (R := fun W => Code.wp _ _ _ _ W) fun W1 hx2 hc2 hf2 hz2 => ?_
    have hxw : Ext w W1 := (by with_reducible (repeat first | assumption | exact Ext.refl _ | refine Ext.set ?_ (by omega) _ | refine Ext.alloc ?_ _ | refine Ext.drew ?_ | refine Ext.drewN ?_ _ | refine Ext.trans ?_ (by assumption)))
    simp at hz2
    have hF1 : FlightAt W1 (w.heap.size + 1) q f (.slice AR f.route.length cR) z_min (.slice none 0 0) := ⟨by omega, by go_simp, by go_simp, by go_simp, by go_simp, by go_simp, by go_simp, by go_simp; rfl, by go_simp; rfl, by go_simp; rfl, by go_simp; rfl, by go_simp; rfl, by go_simp, fun o => by rw [hf2]; simp⟩
    have e3 : W1.cell? ⟨w.heap.size, 0, none⟩ = some (.slice AR f.route.length cR) := by go_simp
    have e4 : w.heap.size + 1 < W1.heap.size := by omega
    have hW1 := Lib.hid hz2
    have hok0 := Lib.hid (RouteOk.zero (f := f) (places := m.places) (L := L) ⟨d3, d4⟩)
    clear hz2 hc2 hf2
    go_loopw [6, 48] (fun u i wr => ∃ k : Nat, k ≤ f.route.length ∧ i = .int .i64 k ∧ u = .int .i64 (f.nowAt L k) ∧ ∃ v, FlightAt wr (w.heap.size + 1) q f (.slice AR f.route.length cR) z_min v ∧ Owns 3 1 encInt wr W1.heap.size v (f.atList L k) ∧ ExtBut (w.heap.size + 1) W1 wr ∧ RouteOk f m.places L k) (fun _ i _ => f.route.length - (intOf i).toNat)
    case atStart => exact ⟨0, Nat.zero_le _, rfl, rfl, _, hF1, Owns.nil _ _ _ _ _, ExtBut.refl _ _, hok0.out⟩
    case round =>
      clear hF1
      obtain ⟨k, hk, rfl, rfl, v, hF, hown, he, hok⟩ := hrel
      have b1 := (he.cells.1 _ _ (by omega) (by omega)).trans e3
      have hew : Ext w wr := ExtBut.ext hxw he (by omega)
      have b2 := Nat.lt_of_lt_of_le e4 he.size
      by_cases hlt : k < f.route.length
      · obtain ⟨x, hx⟩ : ∃ x, f.route[k]? = some x := ⟨_, List.getElem?_eq_getElem hlt⟩
        obtain ⟨b0, off, hAR, hb0, q0⟩ := (hR.ext hew).intx hlt hx
        have hN := hN'.out.grow hew
        have n0 := hN.met.c0
        have n1 := hN.legs
        have nl := hN.met.lt
        have g11 := hF.c11
        have gl := hF.lt
        have hob := Lib.hid (fun g hg => hown.lt (g := g) hg)
        have hne := Lib.hid (show ¬ (some (w.heap.size + 1) = v.ownBlock) from fun h => by have := (hob.out _ h.symm).1; omega)
        rcases Bool.eq_false_or_eq_true (within x 0 (m.places - 1)) with hw | hw
        · obtain ⟨x0, x1⟩ := within_true.1 hw
          obtain ⟨x, rfl⟩ := Int.eq_ofNat_of_zero_le x0
          have hes := he.size
          have hF := Lib.hid hF
          have hown := Lib.hid hown
          have he := Lib.hid he
          rcases k with _ | j
          · have hok1 := Lib.hid (hok.one hx ⟨x0, x1⟩)
            simp only [Nat.add_zero] at q0
            clear hok hx
            subst hAR
            go_wp2_with (first | (go_at_call 85; refine (within_85 _ _ _ _).mono ?_; rintro e1 w1 ⟨rfl, rfl⟩) | (at_builtin; (refine append_one e_int encInt (fun _ => rfl) encInt_one rfl _ _ rfl W1.heap.size v (f.atList L 0) rfl (f.nowAt L 0) #[.int .i64 (f.nowAt L 0)] rfl _ rfl (by first | rfl | simp) (hown.out.ext (by with_reducible (repeat first | assumption | exact Ext.refl _ | refine Ext.set ?_ (by omega) _ | refine Ext.alloc ?_ _ | refine Ext.drew ?_ | refine Ext.drewN ?_ _ | refine Ext.trans ?_ (by assumption)))) (by first | omega | (simp; omega)) (by rw [Flight.atList_length]; omega) ?_); intro v' w2 hown2 hgrow; obtain ⟨Av, nv, cv, rfl⟩ := hown2.sliced; have hF2 := FlightAt.grown (hF.out.ext (by with_reducible (repeat first | assumption | exact Ext.refl _ | refine Ext.set ?_ (by omega) _ | refine Ext.alloc ?_ _ | refine Ext.drew ?_ | refine Ext.drewN ?_ _ | refine Ext.trans ?_ (by assumption)))) hgrow hne.out; have z11 := hF2.c11; have zf := hF2.free 11; have zl := hF2.lt; have hF2 := Lib.hid hF2; have hown2 := Lib.hid hown2; have hgrow := Lib.hid hgrow))
            go_roundw
            case rel => exact ⟨0 + 1, by omega, by go_num, rfl, _, hF2.out.put _, by rw [Flight.atList_succ]; exact hown2.out.but ((ExtBut.refl _ w2).set 11 _) (by omega), (grown_but hgrow.out (he.out.trans (((by with_reducible (repeat first | assumption | exact Ext.refl _ | refine Ext.set ?_ (by omega) _ | refine Ext.alloc ?_ _ | refine Ext.drew ?_ | refine Ext.drewN ?_ _ | refine Ext.trans ?_ (by assumption))) : Ext wr _).but _)) (fun g hg => (hob.out g hg).1) hne.out (by simp; omega)).set _ _, hok1.out⟩
            case measure => simp [intOf]; omega
          · obtain ⟨y, hy⟩ : ∃ y, f.route[j]? = some y := ⟨_, List.getElem?_eq_getElem (by omega)⟩
            obtain ⟨b0', off', hAR', hb0', q1⟩ := (hR.ext hew).intx (by omega) hy
            rw [hAR] at hAR'
            simp only [Option.some.injEq, Addr.mk.injEq, and_true] at hAR'
            obtain ⟨rfl, rfl⟩ := hAR'
            obtain ⟨y0, y1⟩ := hok.all y (List.mem_of_getElem? (i := j) (by rw [List.getElem?_take_of_lt (show j < j + 1 by omega)]; exact hy))
            obtain ⟨y, rfl⟩ := Int.eq_ofNat_of_zero_le y0
            have r1 := hN.T1.row y (by omega)
            have r2 := hN.T1.cell y x (by omega) (by omega)
            obtain ⟨v1, v2⟩ := hL y x
            have hns := f.nowAt_succ L j
            rw [show f.route.getD (j + 1) 0 = (x : Int) by rw [List.getD_eq_getElem?_getD, hx]; rfl, show f.route.getD j 0 = (y : Int) by rw [List.getD_eq_getElem?_getD, hy]; rfl] at hns
            have hns := Lib.hid hns
            have k1 := hok.low
            have k2 := hok.high
            subst hAR
            by_cases hl : L y x < 0
            · have hbad := Lib.hid (bad_leg (L := L) (places := m.places) hx hy hl)
              clear hok hx hy
              generalize f.nowAt L (j + 1) = u at *
              go_wp2_with (go_at_call 85; refine (within_85 _ _ _ _).mono ?_; rintro e1 w1 ⟨rfl, rfl⟩)
              go_quiet (fail)
              go_wp2_with fail
              go_ret
              exact FlyPost.bad hbad.out (by with_reducible (repeat first | assumption | exact Ext.refl _ | refine Ext.set ?_ (by omega) _ | refine Ext.alloc ?_ _ | refine Ext.drew ?_ | refine Ext.drewN ?_ _ | refine Ext.trans ?_ (by assumption)))
            · have hok1 := Lib.hid (hok.succ hx hy ⟨x0, x1⟩ (by omega) v2)
              clear hok hx hy
              generalize f.nowAt L (j + 1) = u at *
              go_wp2_with (go_at_call 85; refine (within_85 _ _ _ _).mono ?_; rintro e1 w1 ⟨rfl, rfl⟩)
              go_quiet (fail)
              go_wp2_with (at_builtin; (refine append_one e_int encInt (fun _ => rfl) encInt_one rfl _ _ rfl W1.heap.size v (f.atList L (j + 1)) rfl (u + L y x) #[.int .i64 (u + L y x)] rfl _ rfl (by first | rfl | simp) (hown.out.ext (by with_reducible (repeat first | assumption | exact Ext.refl _ | refine Ext.set ?_ (by omega) _ | refine Ext.alloc ?_ _ | refine Ext.drew ?_ | refine Ext.drewN ?_ _ | refine Ext.trans ?_ (by assumption)))) (by first | omega | (simp; omega)) (by rw [Flight.atList_length]; omega) ?_); intro v' w2 hown2 hgrow; obtain ⟨Av, nv, cv, rfl⟩ := hown2.sliced; have hF2 := FlightAt.grown (hF.out.ext (by with_reducible (repeat first | assumption | exact Ext.refl _ | refine Ext.set ?_ (by omega) _ | refine Ext.alloc ?_ _ | refine Ext.drew ?_ | refine Ext.drewN ?_ _ | refine Ext.trans ?_ (by assumption)))) hgrow hne.out; have z11 := hF2.c11; have zf := hF2.free 11; have zl := hF2.lt; have hF2 := Lib.hid hF2; have hown2 := Lib.hid hown2; have hgrow := Lib.hid hgrow)
              go_roundw
              case rel => exact ⟨j + 1 + 1, by omega, by go_num, by rw [hns.out], _, hF2.out.put _, by rw [Flight.atList_succ, hns.out]; exact hown2.out.but ((ExtBut.refl _ w2).set 11 _) (by omega), (grown_but hgrow.out (he.out.trans (((by with_reducible (repeat first | assumption | exact Ext.refl _ | refine Ext.set ?_ (by omega) _ | refine Ext.alloc ?_ _ | refine Ext.drew ?_ | refine Ext.drewN ?_ _ | refine Ext.trans ?_ (by assumption))) : Ext wr _).but _)) (fun g hg => (hob.out g hg).1) hne.out (by simp; omega)).set _ _, hok1.out⟩
              case measure => simp [intOf]; omega
        · have hbad := Lib.hid (bad_place (L := L) hx hw)
          clear hok hx
          subst hAR
          go_wp2_with (go_at_call 85; refine (within_85 _ _ _ _).mono ?_; rintro e1 w1 ⟨rfl, rfl⟩)
          go_ret
          exact FlyPost.bad hbad.out (by with_reducible (repeat first | assumption | exact Ext.refl _ | refine Ext.set ?_ (by omega) _ | refine Ext.alloc ?_ _ | refine Ext.drew ?_ | refine Ext.drewN ?_ _ | refine Ext.trans ?_ (by assumption)))
      · obtain rfl : k = f.route.length := by omega
        by_cases hlate : f.nowAt L f.route.length ≤ 2000
        · have hgd := Lib.hid (hok.good hp.out hlate)
          have k1 := hok.low
          have hO := Lib.hid hown
          have hFF := Lib.hid hF
          have hW2 : W1.heap.size = w.heap.size + 1 + 1 := hW1.out
          rw [hW2] at hown
          have hO := Lib.hid hown
          clear hok hF hown hW2
          generalize f.nowAt L f.route.length = u at *
          go_wp2_with fail
          go_ret
          exact FlyPost.ok hgd.out (by omega) hFF.out hO.out hew
        · have hbad := Lib.hid (bad_late (f := f) (places := m.places) (L := L) (by omega))
          have k2 := hok.high
          clear hok hF hown
          generalize f.nowAt L f.route.length = u at *
          go_wp2_with fail
          go_ret
          exact FlyPost.bad hbad.out hew
  · have hbad := Lib.hid (bad_plain (places := m.places) (L := L) hp)
    unfold Flight.plain at hp
    have e8 : within (f.route.length : Int) 1 8 = decide (1 ≤ f.route.length ∧ f.route.length ≤ 8) := by
      rw [Bool.eq_iff_iff, within_true, decide_eq_true_eq]; omega
    rw [← e8] at hp
    clear e8
    go_enter Tryz.func102, Tryz.ntmps102
    go_wp2_with (go_at_call 85; refine (within_85 _ _ _ _).mono ?_; rintro e1 w1 ⟨rfl, rfl⟩)
    all_goals
      first
      | (go_ret; exact FlyPost.bad hbad.out (by with_reducible (repeat first | assumption | exact Ext.refl _ | refine Ext.set ?_ (by omega) _ | refine Ext.alloc ?_ _ | refine Ext.drew ?_ | refine Ext.drewN ?_ _ | refine Ext.trans ?_ (by assumption))))
      | (exfalso; simp_all; done)
end Go.Proofs.YtmmimbcfgobnaaaGreat
