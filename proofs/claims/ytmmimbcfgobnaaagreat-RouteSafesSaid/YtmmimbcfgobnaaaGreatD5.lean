/- Plain laws of a good net: its times are a metric; where a flight is at a tick, told in the two ways. Plain laws: where a flight is at a tick, as the program and as the reference tell it. Plain laws: the last tick to return; the middle. -/
import Derived.Test.YtmmimbcfgobnaaaGreatD0
import Derived.Test.YtmmimbcfgobnaaaGreatQ4
import Derived.Test.YtmmimbcfgobnaaaGreatR8
import Derived.Test.YtmmimbcfgobnaaaGreatR11
set_option linter.unusedVariables false
set_option linter.unusedSimpArgs false
set_option linter.unusedSimpArgs false
namespace Go.Proofs.YtmmimbcfgobnaaaGreat

theorem legStep_sym (a b u : Int) (x : Leg) : legStep a b u x = legStep b a u x := by
  unfold legStep
  by_cases h : ((x.a = a ∧ x.b = b) ∨ (x.a = b ∧ x.b = a)) ∧ (u < 0 ∨ x.t < u)
  · rw [if_pos h, if_pos ⟨h.1.symm, h.2⟩]
  · rw [if_neg h, if_neg (fun g => h ⟨g.1.symm, g.2⟩)]
theorem legOf_sym (xs : List Leg) (a b : Int) : legOf xs a b = legOf xs b a := by
  have : legStep a b = legStep b a := by funext u x; exact legStep_sym a b u x
  unfold legOf
  rw [this]
theorem foldl_inv {α β : Type} (q : β → Prop) (s : β → α → β) : ∀ (xs : List α) (u : β), q u → (∀ x ∈ xs, ∀ u, q u → q (s u x)) → q (xs.foldl s u)
  | [], _, h, _ => h
  | x :: xs, u, h, hs => foldl_inv q s xs _ (hs x (by simp) u h) (fun y hy => hs y (by simp [hy]))
theorem Net.leg_ok {N : Net} (hg : N.good = true) : ∀ x ∈ N.net, Leg.ok N.met.places x = true := by
  unfold Net.good at hg
  simp only [Bool.and_eq_true, decide_eq_true_eq, List.all_eq_true] at hg
  exact hg.2
theorem Net.legs {N : Net} (hg : N.good = true) : (∀ a b, N.L a b = N.L b a) ∧ (∀ a b, N.L a b = -1 ∨ 1 ≤ N.L a b) ∧ ∀ a, N.L a a = -1 := by
  have hx := Net.leg_ok hg
  have e : N.L = legOf N.net := (Net.legOf_eq hg).symm
  rw [e]
  refine ⟨legOf_sym _, fun a b => ?_, fun a => ?_⟩
  · refine foldl_inv (fun u => u = -1 ∨ 1 ≤ u) (legStep a b) N.net (-1) (Or.inl rfl) fun x hx' u hu => ?_
    have := (Leg.ok_parts (hx x hx')).2.2.2
    unfold legStep
    split <;> omega
  · refine foldl_inv (fun u => u = -1) (legStep a a) N.net (-1) rfl fun x hx' u hu => ?_
    have := (Leg.ok_parts (hx x hx')).2.2.1
    unfold legStep
    split <;> omega
theorem Net.metric {N : Net} (hg : N.good = true) : Tab.metric N.n N.L N.T N.n := by
  obtain ⟨h1, h2, h3⟩ := Net.legs hg
  refine Tab.fw_metric (f := N.L.diag N.n) ⟨fun a b => ?_, fun a b ha hb => ?_, fun a ha => ?_, fun a b ha hb hne => ?_, fun a b ha hb hgg => ?_, fun a b c ha hb hc => by omega⟩ N.n (Nat.le_refl _)
  · unfold Tab.diag; have := h2 a b; split <;> omega
  · unfold Tab.diag; have := h1 a b; split <;> split <;> omega
  · unfold Tab.diag; rw [if_pos ⟨rfl, ha⟩]
  · unfold Tab.diag; rw [if_neg (fun g => hne g.1)]; have := h2 a b; omega
  · have hne : a ≠ b := by intro e; subst e; have := h3 a; omega
    unfold Tab.diag; rw [if_neg (fun g => hne g.1)]; omega
/-- The places along a good flight are reached, or not, together. -/
theorem Net.together {N : Net} (hg : N.good = true) {x y p : Int} (hx : 0 ≤ x ∧ x < N.n) (hy : 0 ≤ y ∧ y < N.n) (hp : 0 ≤ p ∧ p < N.n) (hl : 0 ≤ N.L x y) : (0 ≤ N.T x p ↔ 0 ≤ N.T y p) := by
  have m := Net.metric hg
  have l1 := m.leg x y hx hy hl
  have l2 := m.leg y x hy hx (by rw [(Net.legs hg).1]; exact hl)
  constructor
  · intro h; exact (m.tri y p x hy hp hx l2.1 h).1
  · intro h; exact (m.tri x p y hx hp hy l1.1 h).1
end Go.Proofs.YtmmimbcfgobnaaaGreat
set_option linter.unusedSimpArgs false
namespace Go.Proofs.YtmmimbcfgobnaaaGreat

/-- When the place on is reached; when a flight can be at a place by way of the i-th place of its route. -/
def onOf (T : Tab) (a : Nat → Int) (r : List Int) (i : Nat) (place : Int) : Int := if 0 ≤ T (r.getD i 0) place then T (r.getD i 0) place + a i else T (r.getD i 0) place
def refR (T : Tab) (a : Nat → Int) (r : List Int) (i : Nat) (tick place : Int) : Int × Bool :=
  if a i = tick then (onOf T a r i place, false)
  else if T (r.getD (i - 1) 0) place < 0 then (onOf T a r i place, false)
  else if onOf T a r i place < 0 ∨ T (r.getD (i - 1) 0) place + (tick + (tick - a (i - 1))) < onOf T a r i place then (T (r.getD (i - 1) 0) place + (tick + (tick - a (i - 1))), true)
  else (onOf T a r i place, false)
/-- What the reference answers, by what the program finds. -/
def Plan.at47 (P : Plan) (tick place : Int) : Int × Bool := if (P.reach tick place).2 = true then ((P.reach tick place).1.at_, (P.reach tick place).1.back) else (-1, false)
theorem joined_at {L : Tab} {r : List Int} : ∀ n i, i < n → joined L r n = true → 0 ≤ L (r.getD i 0) (r.getD (i + 1) 0) := by
  intro n
  induction n with
  | zero => intro i hi; omega
  | succ n ih =>
    intro i hi hn
    unfold joined at hn
    simp only [Bool.and_eq_true, decide_eq_true_eq] at hn
    by_cases e : i = n
    · subst e; exact hn.2
    · exact ih i (by omega) hn.1
theorem Flight.at_lt {N : Net} {f : Flight} (hg : N.good = true) (h : f.good N.met.places N.L = true) : ∀ i, i < f.last → f.at N.L i < f.at N.L (i + 1) := fun i hi => by
  obtain ⟨hp, hr, hj, ha⟩ := Flight.good_parts h
  have h1 := joined_at f.last i hi hj
  have h2 := (Net.legs hg).2.1 (f.route.getD i 0) (f.route.getD (i + 1) 0)
  have e : f.at N.L (i + 1) = f.at N.L i + N.L (f.route.getD i 0) (f.route.getD (i + 1) 0) := rfl
  omega
theorem mono_of_step {a : Nat → Int} {n : Nat} (h : ∀ i, i < n → a i < a (i + 1)) : ∀ j i, i < j → j ≤ n → a i < a j := by
  intro j
  induction j with
  | zero => intro i hi; omega
  | succ j ih =>
    intro i hi hj
    have := h j (by omega)
    by_cases e : i = j
    · subst e; exact this
    · have := ih i (by omega) (by omega); omega
theorem back_unique {a : Nat → Int} {n : Nat} {tick : Int} (hs : ∀ i, i < n → a i < a (i + 1)) (h0 : a 0 ≤ tick) {i : Nat} (hi : i ≤ n) (h1 : a i ≤ tick) (h2 : i < n → tick < a (i + 1)) : backTo a tick n = i := by
  obtain ⟨b1, b2, b3⟩ := backTo_facts h0 n
  have hm := mono_of_step hs
  generalize backTo a tick n = b at *
  by_cases hlt : b < i
  · have := b3 (by omega)
    by_cases e : b + 1 = i
    · subst e; omega
    · have := hm i (b + 1) (by omega) hi; omega
  · by_cases hgt : i < b
    · have := h2 (by omega)
      by_cases e : i + 1 = b
      · subst e; omega
      · have := hm b (i + 1) (by omega) b1; omega
    · omega
theorem Flight.place_ok {N : Net} {f : Flight} (hg : N.good = true) (h : f.good N.met.places N.L = true) (i : Nat) (hi : i ≤ f.last) : 0 ≤ f.route.getD i 0 ∧ f.route.getD i 0 < N.n := by
  obtain ⟨hp, hr, hj, ha⟩ := Flight.good_parts h
  obtain ⟨⟨l1, l2⟩, -⟩ := Flight.plain_parts hp
  obtain ⟨-, -, ⟨n1, n2, n3, n8⟩, -, -⟩ := Net.good_parts hg
  have hl : i < f.route.length := by unfold Flight.last at hi; omega
  rw [List.getD_eq_getElem?_getD, List.getElem?_eq_getElem hl]
  have := hr f.route[i] (List.getElem_mem _)
  show 0 ≤ f.route[i] ∧ f.route[i] < N.n
  omega
theorem Plan.refR_eq (P : Plan) (hg : P.N.good = true) (h : P.f.good P.N.met.places P.N.L = true) {tick place : Int} (t0 : P.f.depart ≤ tick) (p0 : 0 ≤ place ∧ place < P.N.n) {i : Nat} (hi : i ≤ P.f.last) (h1 : ∀ j, j < i → P.f.at P.N.L j < tick) (h2 : tick ≤ P.f.at P.N.L i) :
    refR P.N.T (P.f.at P.N.L) P.f.route i tick place = P.at47 tick place := by
  have hs := Flight.at_lt hg h
  have m := Net.metric hg
  have e0 : P.f.at P.N.L 0 = P.f.depart := rfl
  have hst := Flight.at_step (Net.good_parts hg).2.2.2.1 h
  obtain ⟨hp, -, hj, -⟩ := Flight.good_parts h
  obtain ⟨⟨l1, l2⟩, ⟨d1, d2⟩, -⟩ := Flight.plain_parts hp
  have hll : P.f.last + 1 = P.f.route.length := by unfold Flight.last; omega
  have a0 : ∀ i, i ≤ P.f.last → 0 ≤ P.f.at P.N.L i := fun i hi => by have := (hst i (by omega)).1; omega
  by_cases he : P.f.at P.N.L i = tick
  · have hb : backTo (P.f.at P.N.L) tick P.f.last = i := back_unique hs (by omega) hi (by omega) (fun hlt => by have := hs i hlt; omega)
    have hlow := m.low (P.f.route.getD i 0) place
    have hai := a0 i hi
    unfold Plan.at47 Plan.reach
    rw [reachP_at hb he.symm rfl]
    unfold refR onOf
    rw [if_pos he]
    generalize P.N.T (P.f.route.getD i 0) place = t at *
    generalize P.f.at P.N.L i = u at *
    subst he
    dsimp only
    by_cases hT : 0 ≤ t
    · rw [if_pos hT, if_pos (decide_eq_true hT), decide_eq_false (show ¬ u < u by omega)]
      exact Prod.ext (by dsimp only; omega) rfl
    · rw [if_neg hT, if_neg (by simp; omega)]
      exact Prod.ext (by dsimp only; omega) rfl
  · have hi0 : i ≠ 0 := by intro e; subst e; omega
    obtain ⟨b, rfl⟩ : ∃ b, i = b + 1 := ⟨i - 1, by omega⟩
    have hab := h1 b (by omega)
    have hb : backTo (P.f.at P.N.L) tick P.f.last = b := back_unique hs (by omega) (by omega) (by omega) (fun hlt => by omega)
    have htg := Net.together hg (Flight.place_ok hg h b (by omega)) (Flight.place_ok hg h (b + 1) hi) p0 (joined_at P.f.last b (by omega) hj)
    have hlow := m.low (P.f.route.getD (b + 1) 0) place
    have hai := a0 (b + 1) hi
    have hne : tick ≠ P.f.at P.N.L b := by omega
    unfold Plan.at47 Plan.reach
    by_cases hc : tick + (tick - P.f.at P.N.L b) + P.N.T (P.f.route.getD b 0) place < P.f.at P.N.L (b + 1) + P.N.T (P.f.route.getD (b + 1) 0) place
    · rw [reachP_back hb hne rfl rfl hc]
      unfold refR onOf
      rw [if_neg he, Nat.add_sub_cancel]
      generalize P.N.T (P.f.route.getD b 0) place = s at *
      generalize P.N.T (P.f.route.getD (b + 1) 0) place = t at *
      generalize P.f.at P.N.L (b + 1) = u at *
      generalize P.f.at P.N.L b = v at *
      dsimp only
      by_cases hT : 0 ≤ t
      · have hS := htg.2 hT
        rw [if_pos hT, if_neg (by omega), if_pos (by omega), if_pos (decide_eq_true hS), decide_eq_true hab]
        exact Prod.ext (by dsimp only; omega) rfl
      · have hS : ¬ 0 ≤ s := fun g => hT (htg.1 g)
        rw [if_neg hT, if_pos (by omega), if_neg (by simp; omega)]
        exact Prod.ext (by dsimp only; omega) rfl
    · rw [reachP_on hb hne rfl rfl hc]
      unfold refR onOf
      rw [if_neg he, Nat.add_sub_cancel]
      generalize P.N.T (P.f.route.getD b 0) place = s at *
      generalize P.N.T (P.f.route.getD (b + 1) 0) place = t at *
      generalize P.f.at P.N.L (b + 1) = u at *
      generalize P.f.at P.N.L b = v at *
      dsimp only
      by_cases hT : 0 ≤ t
      · have hS := htg.2 hT
        rw [if_pos hT, if_neg (by omega), if_neg (by omega), if_pos (decide_eq_true hT)]
        exact Prod.ext (by dsimp only; omega) rfl
      · have hS : ¬ 0 ≤ s := fun g => hT (htg.1 g)
        rw [if_neg hT, if_pos (by omega), if_neg (by simp; omega)]
        exact Prod.ext (by dsimp only; omega) rfl
end Go.Proofs.YtmmimbcfgobnaaaGreat
set_option linter.unusedSimpArgs false
namespace Go.Proofs.YtmmimbcfgobnaaaGreat

theorem Plan.T_route (P : Plan) (hg : P.N.good = true) (h : P.f.good P.N.met.places P.N.L = true) {p : Int} (hp : 0 ≤ p ∧ p < P.N.n) : ∀ i, i ≤ P.f.last → (0 ≤ P.N.T (P.f.route.getD i 0) p ↔ 0 ≤ P.N.T (P.f.route.getD 0 0) p) := by
  have hj := (Flight.good_parts h).2.2.1
  intro i
  induction i with
  | zero => intro _; exact Iff.rfl
  | succ i ih =>
    intro hi
    exact (Net.together hg (Flight.place_ok hg h i (by omega)) (Flight.place_ok hg h (i + 1) hi) hp (joined_at P.f.last i (by omega) hj)).symm.trans (ih (by omega))
theorem Plan.T_on (P : Plan) (hg : P.N.good = true) (h : P.f.good P.N.met.places P.N.L = true) {i j : Nat} (hi : i ≤ P.f.last) (hj : j ≤ P.f.last) : 0 ≤ P.N.T (P.f.route.getD i 0) (P.f.route.getD j 0) := by
  have hp := Flight.place_ok hg h j hj
  rw [P.T_route hg h hp i hi, ← P.T_route hg h hp j hj, (Net.metric hg).dia _ hp]
  omega
theorem Plan.reach_on (P : Plan) (hg : P.N.good = true) (h : P.f.good P.N.met.places P.N.L = true) {tick : Int} (t0 : P.f.depart ≤ tick) (t1 : tick ≤ P.f.arrival P.N.L) {j : Nat} (hj : j ≤ P.f.last) : (P.reach tick (P.f.route.getD j 0)).2 = true := by
  obtain ⟨b1, b2, b3⟩ := backTo_facts (a := P.f.at P.N.L) (tick := tick) t0 P.f.last
  have har : P.f.arrival P.N.L = P.f.at P.N.L P.f.last := rfl
  have hT := fun i hi => P.T_on hg h (i := i) (j := j) hi hj
  unfold Plan.reach reachP
  dsimp only
  generalize hk : backTo (P.f.at P.N.L) tick P.f.last = k at *
  split
  · exact decide_eq_true (hT k b1)
  · rename_i hne
    have hkl : k < P.f.last := by
      by_cases e : k = P.f.last
      · subst e; omega
      · omega
    split
    · exact decide_eq_true (hT k b1)
    · exact decide_eq_true (hT (k + 1) hkl)
/-- When the flight, k ticks ahead of its arrival, is back where it set out. -/
def Plan.home (P : Plan) (tick : Int) : Int := (P.reach tick (P.f.route.getD 0 0)).1.at_
def Plan.ahead (P : Plan) (tick : Int) : Int := (P.reach tick (P.f.route.getD P.f.last 0)).1.at_
def Plan.gone (P : Plan) (k : Nat) : Bool := !P.f.lasts (P.home (P.f.arrival P.N.L - k))
def Plan.noRet (P : Plan) : Int × Int := if lead P.gone P.ticks < P.ticks then (P.f.arrival P.N.L - (lead P.gone P.ticks : Nat), 0) else (0, 3)
theorem Plan.noRet_at {P : Plan} {k : Nat} (h : ∀ j, j < k → P.gone j = true) (hk : P.gone k = false) (hl : k < P.ticks) : P.noRet = (P.f.arrival P.N.L - k, 0) := by
  unfold Plan.noRet
  rw [lead_stop h hk _ hl, if_pos hl]
theorem Plan.noRet_none {P : Plan} (h : ∀ j, j < P.ticks → P.gone j = true) : P.noRet = (0, 3) := by
  unfold Plan.noRet
  rw [lead_all _ h, if_neg (by omega)]
def Plan.under (P : Plan) (k : Nat) : Bool := decide (P.home (P.f.depart + k) < P.ahead (P.f.depart + k))
def Plan.middle (P : Plan) : Int := P.f.depart + (lead P.under (P.ticks - 1) : Nat)
theorem Plan.middle_at {P : Plan} {k : Nat} (h : ∀ j, j < k → P.under j = true) (hk : P.under k = false) (hl : k < P.ticks - 1) : P.middle = P.f.depart + k := by
  unfold Plan.middle
  rw [lead_stop h hk _ hl]
theorem Plan.middle_end {P : Plan} {k : Nat} (h : ∀ j, j < k → P.under j = true) (hl : k = P.ticks - 1) : P.middle = P.f.depart + k := by
  subst hl
  unfold Plan.middle
  rw [lead_all _ h]
theorem Plan.under_end (P : Plan) (hg : P.N.good = true) (h : P.f.good P.N.met.places P.N.L = true) : P.home (P.f.arrival P.N.L) ≥ P.ahead (P.f.arrival P.N.L) := by
  have hs := Flight.at_lt hg h
  have m := Net.metric hg
  have hst := Flight.at_step (Net.good_parts hg).2.2.2.1 h
  obtain ⟨⟨l1, l2⟩, -⟩ := Flight.plain_parts (Flight.good_parts h).1
  have hll : P.f.last + 1 = P.f.route.length := by unfold Flight.last; omega
  have har : P.f.arrival P.N.L = P.f.at P.N.L P.f.last := rfl
  have h0 : P.f.at P.N.L 0 ≤ P.f.arrival P.N.L := by rw [har]; exact (hst P.f.last (by omega)).1
  have hb : backTo (P.f.at P.N.L) (P.f.arrival P.N.L) P.f.last = P.f.last := back_unique hs h0 (Nat.le_refl _) (by rw [har]; exact Int.le_refl _) (fun hlt => by omega)
  have hT := P.T_on hg h (i := P.f.last) (j := 0) (Nat.le_refl _) (Nat.zero_le _)
  have hd := m.dia _ (Flight.place_ok hg h P.f.last (Nat.le_refl _))
  unfold Plan.home Plan.ahead Plan.reach
  rw [reachP_at hb har rfl, reachP_at hb har rfl]
  dsimp only
  omega
end Go.Proofs.YtmmimbcfgobnaaaGreat
