/- Plain laws: the least fuel; more fuel, a lesser reserve, weaker minima. -/
import Derived.Test.YtmmimbcfgobnaaaGreatD5
set_option linter.unusedVariables false
set_option linter.unusedSimpArgs false
namespace Go.Proofs.YtmmimbcfgobnaaaGreat

theorem foldl_sooner_le : ∀ (t : List Haven) (m : Haven), (t.foldl sooner m).at_ ≤ m.at_ ∧ ∀ y ∈ t, (t.foldl sooner m).at_ ≤ y.at_
  | [], m => ⟨Int.le_refl _, by simp⟩
  | x :: t, m => by
    obtain ⟨h1, h2⟩ := foldl_sooner_le t (sooner m x)
    have h3 : (sooner m x).at_ ≤ m.at_ ∧ (sooner m x).at_ ≤ x.at_ := by unfold sooner; split <;> omega
    rw [List.foldl_cons]
    refine ⟨by omega, fun y hy => ?_⟩
    rcases List.mem_cons.1 hy with rfl | hy
    · omega
    · exact h2 y hy
theorem bestOf_le {L : List Haven} {y : Haven} (h : y ∈ L) : (bestOf L).at_ ≤ y.at_ := by
  cases L with
  | nil => simp at h
  | cons x t =>
    obtain ⟨h1, h2⟩ := foldl_sooner_le t x
    rcases List.mem_cons.1 h with rfl | h
    · exact h1
    · exact h2 y h
theorem hasBest_iff {L : List Haven} : hasBest L = true ↔ ∃ x, x ∈ L := by
  cases L with
  | nil => simp [hasBest]
  | cons x t => simp [hasBest]
theorem Plan.all_mem {P : Plan} {tick : Int} {dry : Bool} {k : Nat} (hk : k < P.N.n) (h : P.keeps tick dry k = true) : (P.reach tick k).1 ∈ P.all tick dry := by
  unfold Plan.all Plan.havens
  rw [List.mem_map]
  exact ⟨k, List.mem_filter.2 ⟨List.mem_range.2 hk, h⟩, rfl⟩
theorem Plan.keeps_iff {P : Plan} {tick : Int} {dry : Bool} {k : Nat} : P.keeps tick dry k = true ↔ (P.reach tick k).2 = true ∧ P.opens (P.reach tick k).1 = true ∧ (dry = true ∨ P.f.lasts (P.reach tick k).1.at_ = true) := by
  unfold Plan.keeps
  simp only [Bool.and_eq_true, Bool.or_eq_true, and_assoc]
theorem Plan.safeAt_iff {P : Plan} {dry : Bool} {k : Nat} : P.safeAt dry k = true ↔ ∃ j : Nat, j < P.N.n ∧ P.keeps (P.f.depart + k) dry j = true := by
  unfold Plan.safeAt
  rw [hasBest_iff]
  constructor
  · rintro ⟨x, hx⟩
    obtain ⟨j, hj, _, h⟩ := Plan.mem_all hx
    exact ⟨j, hj, h⟩
  · rintro ⟨j, hj, h⟩
    exact ⟨_, Plan.all_mem hj h⟩
theorem Flight.lasts_iff {f : Flight} {t : Int} : f.lasts t = true ↔ f.reserve + f.burn * (t - f.depart) ≤ f.fuel := by
  unfold Flight.lasts
  rw [decide_eq_true_eq]
  omega
theorem Flight.lasts_mono {f : Flight} (hb : 0 ≤ f.burn) {s t : Int} (h : s ≤ t) (ht : f.lasts t = true) : f.lasts s = true := by
  rw [Flight.lasts_iff] at *
  have : f.burn * (s - f.depart) ≤ f.burn * (t - f.depart) := Int.mul_le_mul_of_nonneg_left (by omega) hb
  omega
theorem Plan.safeAt_dry {P : Plan} {k : Nat} (hb : 0 ≤ P.f.burn) : P.safeAt false k = true ↔ P.safeAt true k = true ∧ P.f.lasts (P.bestAt true k).at_ = true := by
  constructor
  · intro h
    obtain ⟨j, hj, h1⟩ := Plan.safeAt_iff.1 h
    obtain ⟨a, b, c⟩ := Plan.keeps_iff.1 h1
    have hk : P.keeps (P.f.depart + k) true j = true := Plan.keeps_iff.2 ⟨a, b, Or.inl rfl⟩
    refine ⟨Plan.safeAt_iff.2 ⟨j, hj, hk⟩, ?_⟩
    rcases c with c | c
    · exact absurd c (by decide)
    · exact Flight.lasts_mono hb (bestOf_le (Plan.all_mem hj hk)) c
  · rintro ⟨h1, h2⟩
    have hm := bestOf_mem (show hasBest (P.all (P.f.depart + k) true) = true from h1)
    obtain ⟨j, hj, e, h⟩ := Plan.mem_all hm
    obtain ⟨a, b, -⟩ := Plan.keeps_iff.1 h
    refine Plan.safeAt_iff.2 ⟨j, hj, Plan.keeps_iff.2 ⟨a, b, Or.inr ?_⟩⟩
    rw [← e]; exact h2
theorem Plan.safeTo_iff {P : Plan} {dry : Bool} {n : Nat} : P.safeTo dry n = true ↔ ∀ k, k < n → P.safeAt dry k = true := by
  unfold Plan.safeTo
  rw [List.all_eq_true]
  exact ⟨fun h k hk => h k (List.mem_range.2 hk), fun h k hk => h k (List.mem_range.1 hk)⟩
theorem Plan.mostTo_iff {P : Plan} {u : Int} : ∀ n : Nat, P.mostTo n ≤ u ↔ 0 ≤ u ∧ ∀ k, k < n → P.f.reserve + P.f.burn * ((P.bestAt true k).at_ - P.f.depart) ≤ u
  | 0 => by unfold Plan.mostTo; exact ⟨fun h => ⟨h, fun k hk => by omega⟩, fun h => h.1⟩
  | n + 1 => by
    have ih := Plan.mostTo_iff (P := P) (u := u) n
    unfold Plan.mostTo
    rw [mx_eq]
    constructor
    · intro h
      obtain ⟨h1, h2⟩ := ih.1 (by omega)
      refine ⟨h1, fun k hk => ?_⟩
      by_cases e : k = n
      · subst e; omega
      · exact h2 k (by omega)
    · rintro ⟨h1, h2⟩
      have h3 := ih.2 ⟨h1, fun k hk => h2 k (by omega)⟩
      have h4 := h2 n (by omega)
      omega
theorem Plan.mostTo_nonneg (P : Plan) : ∀ n : Nat, 0 ≤ P.mostTo n
  | 0 => Int.le_refl _
  | n + 1 => by have := Plan.mostTo_nonneg P n; unfold Plan.mostTo; rw [mx_eq]; omega
/-- A flight is safe if, and only if, it is with all the fuel there may be, and its fuel is enough. -/
theorem Plan.safe_iff {P : Plan} (hb : 0 ≤ P.f.burn) (hf : 0 ≤ P.f.fuel) {n : Nat} : P.safeTo false n = true ↔ P.safeTo true n = true ∧ P.mostTo n ≤ P.f.fuel := by
  rw [Plan.safeTo_iff, Plan.safeTo_iff, Plan.mostTo_iff]
  constructor
  · intro h
    exact ⟨fun k hk => ((Plan.safeAt_dry hb).1 (h k hk)).1, hf, fun k hk => Flight.lasts_iff.1 ((Plan.safeAt_dry hb).1 (h k hk)).2⟩
  · rintro ⟨h1, _, h2⟩ k hk
    exact (Plan.safeAt_dry hb).2 ⟨h1 k hk, Flight.lasts_iff.2 (h2 k hk)⟩
/-- What is safe stays safe where more is open, and the fuel lasts longer. -/
theorem Plan.safe_mono {P Q : Plan} (hn : Q.N.n = P.N.n) (hd : Q.f.depart = P.f.depart) (ht : Q.ticks = P.ticks) (hr : ∀ t p, Q.reach t p = P.reach t p) (ho : ∀ k j : Nat, k < P.ticks → j < P.N.n → (P.reach (P.f.depart + k) j).2 = true → P.opens (P.reach (P.f.depart + k) j).1 = true → Q.opens (P.reach (P.f.depart + k) j).1 = true) (hl : ∀ t, P.f.lasts t = true → Q.f.lasts t = true) (h : P.safeTo false P.ticks = true) : Q.safeTo false Q.ticks = true := by
  rw [Plan.safeTo_iff] at *
  intro k hk
  rw [ht] at hk
  obtain ⟨j, hj, h1⟩ := Plan.safeAt_iff.1 (h k hk)
  obtain ⟨a, b, c⟩ := Plan.keeps_iff.1 h1
  refine Plan.safeAt_iff.2 ⟨j, by omega, Plan.keeps_iff.2 ?_⟩
  rw [hd, hr]
  refine ⟨a, ho k j hk hj a b, Or.inr ?_⟩
  rcases c with c | c
  · exact absurd c (by decide)
  · exact hl _ c
theorem Plan.safeN_snd (P : Plan) : P.safeN.2 = P.safeTo false P.ticks := by
  unfold Plan.safeN
  by_cases h : P.safeTo false P.ticks = true
  · rw [if_pos h, h]
  · rw [if_neg h]; simp at h; rw [h]
theorem Plan.leastN_snd (P : Plan) : P.leastN.2 = (P.safeTo true P.ticks && decide (P.mostTo P.ticks ≤ 100000)) := by
  unfold Plan.leastN
  by_cases h : P.safeTo true P.ticks = true
  · rw [if_pos h, h]; rfl
  · rw [if_neg h]; simp at h; rw [h]; rfl
theorem Net.check_of {N : Net} (h : N.good = true) : N.check = 0 := by
  unfold Net.good at h
  simp only [Bool.and_eq_true] at h
  unfold Net.check
  rw [if_pos h.1.1, if_pos (by simp only [Bool.and_eq_true]; exact ⟨h.1.2, h.2⟩)]
theorem Inp.err_mk {I : Inp} (hn : I.N.good = true) (hl : I.l.good = true) (hf : I.f.good I.m.places I.N.L = true) : I.err = 0 := by
  have h1 : checkMinima I.m I.l = 0 := (checkMinima_of _ _).2 ⟨(Net.good_parts hn).1, hl⟩
  have h2 : I.N.checkL (some I.l) = 0 := by simp only [Net.checkL]; rw [if_pos h1]; exact Net.check_of hn
  unfold Inp.err
  exact Net.checkF_ok h2 hf
theorem Inp.safeR_ok {I : Inp} (h : I.err = 0) : I.safeR.2 = (I.P.safeTo false I.P.ticks, 0) := by
  unfold Inp.safeR
  rw [if_pos h, Plan.safeN_snd]
/-- The same flight with another fuel, or another reserve. -/
abbrev Inp.fu (I : Inp) (n : Int) : Inp := { I with f := { I.f with fuel := n } }
abbrev Inp.rs (I : Inp) (n : Int) : Inp := { I with f := { I.f with reserve := n } }
abbrev Inp.mi (I : Inp) (l : Minima) : Inp := { I with l := l }
theorem Flight.good_fuel {f : Flight} {places : Int} {L : Tab} (h : f.good places L = true) {n : Int} (h0 : 0 ≤ n) (h1 : n ≤ 100000) : ({ f with fuel := n } : Flight).good places L = true := by
  have hn : within n 0 100000 = true := within_true.2 ⟨h0, h1⟩
  unfold Flight.good Flight.plain at *
  simp only [Bool.and_eq_true] at *
  exact ⟨⟨⟨⟨⟨⟨h.1.1.1.1.1.1, hn⟩, h.1.1.1.1.2⟩, h.1.1.1.2⟩, h.1.1.2⟩, h.1.2⟩, h.2⟩
theorem Flight.good_reserve {f : Flight} {places : Int} {L : Tab} (h : f.good places L = true) {n : Int} (h0 : 0 ≤ n) (h1 : n ≤ 100000) : ({ f with reserve := n } : Flight).good places L = true := by
  have hn : within n 0 100000 = true := within_true.2 ⟨h0, h1⟩
  unfold Flight.good Flight.plain at *
  simp only [Bool.and_eq_true] at *
  exact ⟨⟨⟨⟨⟨h.1.1.1.1.1, hn⟩, h.1.1.1.2⟩, h.1.1.2⟩, h.1.2⟩, h.2⟩
theorem Plan.mostTo_fuel (P : Plan) (n : Int) : ∀ k, ({ P with f := { P.f with fuel := n } } : Plan).mostTo k = P.mostTo k
  | 0 => rfl
  | k + 1 => by
    have ih := Plan.mostTo_fuel P n k
    unfold Plan.mostTo
    rw [ih]
    rfl
/-- What the statement on the least fuel needs. -/
theorem Inp.least_law {I : Inp} (he : I.err = 0) :
    (I.leastR.2 = 0 ∧ 0 ≤ I.leastR.1 ∧ I.leastR.1 ≤ 100000 ∧ I.safeR.2 = (decide (I.leastR.1 ≤ I.f.fuel), 0) ∧ (I.fu I.leastR.1).safeR.2 = (true, 0) ∧ (0 < I.leastR.1 → (I.fu (I.leastR.1 - 1)).safeR.2 = (false, 0))) ∨
    (I.leastR.2 = 3 ∧ I.safeR.2 = (false, 0)) := by
  obtain ⟨hn, hl, hf, -⟩ := Inp.err_good he
  obtain ⟨-, -, ⟨f1, f2⟩, -, ⟨b1, b2⟩⟩ := Flight.plain_parts (Flight.good_parts hf).1
  have hsf := Plan.safe_iff (P := I.P) (by show 0 ≤ I.f.burn; omega) f1 (n := I.P.ticks)
  have hs2 := Inp.safeR_ok he
  unfold Inp.leastR
  rw [if_pos he]
  by_cases h2 : I.P.leastN.2 = true
  · left
    rw [if_pos h2]
    rw [Plan.leastN_snd, Bool.and_eq_true, decide_eq_true_eq] at h2
    obtain ⟨h3, h4⟩ := h2
    have hl1 : I.P.leastN.1 = I.P.mostTo I.P.ticks := by unfold Plan.leastN; rw [if_pos h3]
    dsimp only
    rw [hl1]
    have h0 := Plan.mostTo_nonneg I.P I.P.ticks
    have key : ∀ n, 0 ≤ n → n ≤ 100000 → (I.fu n).safeR.2 = (decide (I.P.mostTo I.P.ticks ≤ n), 0) := fun n n0 n1 => by
      rw [Inp.safeR_ok (I := I.fu n) (Inp.err_mk (I := I.fu n) hn hl (Flight.good_fuel hf n0 n1))]
      have := Plan.safe_iff (P := (I.fu n).P) (by show 0 ≤ I.f.burn; omega) n0 (n := (I.fu n).P.ticks)
      rw [show (I.fu n).P.mostTo (I.fu n).P.ticks = I.P.mostTo I.P.ticks from Plan.mostTo_fuel I.P n _] at this
      congr 1
      rw [Bool.eq_iff_iff, this, decide_eq_true_eq]
      exact ⟨fun h => h.2, fun h => ⟨h3, h⟩⟩
    refine ⟨rfl, h0, h4, ?_, ?_, fun hp => ?_⟩
    · rw [hs2]
      congr 1
      rw [Bool.eq_iff_iff, hsf, decide_eq_true_eq]
      exact ⟨fun h => h.2, fun h => ⟨h3, h⟩⟩
    · rw [key _ h0 h4, decide_eq_true (Int.le_refl _)]
    · rw [key _ (by omega) (by omega), decide_eq_false (by omega)]
  · right
    rw [if_neg h2]
    refine ⟨rfl, ?_⟩
    rw [hs2]
    congr 1
    rw [← Bool.not_eq_true, hsf]
    rintro ⟨h3, h4⟩
    have h4 : I.P.mostTo I.P.ticks ≤ I.f.fuel := h4
    apply h2
    rw [Plan.leastN_snd, h3, decide_eq_true (by omega)]
    rfl
theorem flyable_weak {w : Wx} {l k : Minima} (h1 : l.wind ≤ k.wind) (h2 : k.see ≤ l.see) (h3 : k.ceil ≤ l.ceil) (h4 : k.ice = true) (h5 : k.storm = l.storm) (h : flyable w l = true) : flyable w k = true := by
  unfold flyable at *
  simp only [Bool.and_eq_true, decide_eq_true_eq, Bool.or_eq_true] at *
  rw [h4, h5]
  exact ⟨⟨⟨⟨by omega, by omega⟩, by omega⟩, Or.inr rfl⟩, h.2⟩
theorem Plan.opens_iff {P : Plan} {h : Haven} (hm : P.N.met.good = true) (hl : P.l.good = true) : P.opens h = true ↔ h.at_ ≤ 2000 ∧ (0 ≤ h.place ∧ h.place ≤ P.N.met.places - 1) ∧ 0 ≤ h.at_ ∧ P.N.met.isOpen P.l h.place h.at_ = true := by
  have hc : checkOpen P.N.met P.l h.place h.at_ = checkAt P.N.met h.place h.at_ := by unfold checkOpen; rw [if_pos ((checkMinima_of _ _).2 ⟨hm, hl⟩)]
  unfold Plan.opens Met.opened
  rw [hc]
  unfold checkAt
  rw [if_pos hm]
  by_cases hw : (within h.place 0 (P.N.met.places - 1) && within h.at_ 0 2000) = true
  · rw [if_pos hw, if_pos rfl]
    simp only [Bool.and_eq_true, decide_eq_true_eq] at *
    have a := within_true.1 hw.1
    have b := within_true.1 hw.2
    constructor
    · rintro ⟨⟨c, -⟩, d⟩; exact ⟨c, a, b.1, d⟩
    · rintro ⟨c, -, -, d⟩; exact ⟨⟨c, trivial⟩, d⟩
  · rw [if_neg hw, if_neg (by decide)]
    constructor
    · intro g; simp at g
    · rintro ⟨c, d, e, -⟩
      exact absurd (by rw [Bool.and_eq_true]; exact ⟨within_true.2 d, within_true.2 ⟨e, c⟩⟩) hw
theorem Inp.more_law {I : Inp} (he : I.err = 0) (hs : I.safeR.2.1 = true) (k : Minima) (k1 : k = ⟨min 300 (I.l.wind + 1), I.l.see / 2, I.l.ceil / 2, true, I.l.storm⟩) :
    (I.fu (min 100000 (I.f.fuel + 1))).safeR.2 = (true, 0) ∧ (I.rs (I.f.reserve / 2)).safeR.2 = (true, 0) ∧ (I.mi k).safeR.2 = (true, 0) := by
  obtain ⟨hn, hl, hf, -⟩ := Inp.err_good he
  obtain ⟨-, -, ⟨f1, f2⟩, ⟨r1, r2⟩, ⟨b1, b2⟩⟩ := Flight.plain_parts (Flight.good_parts hf).1
  rw [Inp.safeR_ok he] at hs
  have hs : I.P.safeTo false I.P.ticks = true := hs
  have hl' : I.l.good = true := hl
  unfold Minima.good at hl'
  simp only [Bool.and_eq_true, within_true] at hl'
  have k6 : k.wind = min 300 (I.l.wind + 1) := by rw [k1]
  have k7 : k.see = I.l.see / 2 := by rw [k1]
  have k8 : k.ceil = I.l.ceil / 2 := by rw [k1]
  have k4 : k.ice = true := by rw [k1]
  have k5 : k.storm = I.l.storm := by rw [k1]
  clear k1
  have k1 : I.l.wind ≤ k.wind := by omega
  have k2 : k.see ≤ I.l.see := by omega
  have k3 : k.ceil ≤ I.l.ceil := by omega
  refine ⟨?_, ?_, ?_⟩
  · rw [Inp.safeR_ok (I := I.fu (min 100000 (I.f.fuel + 1))) (Inp.err_mk (I := I.fu (min 100000 (I.f.fuel + 1))) hn hl (Flight.good_fuel hf (by omega) (by omega)))]
    congr 1
    refine Plan.safe_mono (P := I.P) rfl rfl rfl (fun _ _ => rfl) (fun _ _ _ _ _ h => h) (fun t h => ?_) hs
    rw [Flight.lasts_iff] at *
    have h : I.f.reserve + I.f.burn * (t - I.f.depart) ≤ I.f.fuel := h
    show I.f.reserve + I.f.burn * (t - I.f.depart) ≤ min 100000 (I.f.fuel + 1)
    omega
  · rw [Inp.safeR_ok (I := I.rs (I.f.reserve / 2)) (Inp.err_mk (I := I.rs (I.f.reserve / 2)) hn hl (Flight.good_reserve hf (by omega) (by omega)))]
    congr 1
    refine Plan.safe_mono (P := I.P) rfl rfl rfl (fun _ _ => rfl) (fun _ _ _ _ _ h => h) (fun t h => ?_) hs
    rw [Flight.lasts_iff] at *
    have h : I.f.reserve + I.f.burn * (t - I.f.depart) ≤ I.f.fuel := h
    show I.f.reserve / 2 + I.f.burn * (t - I.f.depart) ≤ I.f.fuel
    omega
  · have hk : k.good = true := by
      unfold Minima.good
      simp only [Bool.and_eq_true, within_true]
      omega
    rw [Inp.safeR_ok (I := I.mi k) (Inp.err_mk (I := I.mi k) hn hk hf)]
    congr 1
    have hm := (Net.good_parts hn).1
    refine Plan.safe_mono (P := I.P) (Q := (I.mi k).P) rfl rfl rfl (fun _ _ => rfl) (fun t j _ _ _ h => ?_) (fun t h => h) hs
    rw [Plan.opens_iff (P := I.P) hm hl] at h
    rw [Plan.opens_iff (P := (I.mi k).P) hm hk]
    refine ⟨h.1, h.2.1, h.2.2.1, ?_⟩
    have h4 := h.2.2.2
    unfold Met.isOpen at h4 ⊢
    exact flyable_weak (l := I.l) (k := k) k1 k2 k3 k4 k5 h4
end Go.Proofs.YtmmimbcfgobnaaaGreat
