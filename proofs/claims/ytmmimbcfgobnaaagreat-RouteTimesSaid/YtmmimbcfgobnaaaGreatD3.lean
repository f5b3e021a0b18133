/- Plain laws of the route's tables: the shortest leg, the time between two places. -/
import Derived.Test.YtmmimbcfgobnaaaGreatD2
set_option linter.unusedSimpArgs false
namespace Go.Proofs.YtmmimbcfgobnaaaGreat

/-- A number for each two places. -/
abbrev Tab := Int → Int → Int
def Tab.set (f : Tab) (a b v : Int) : Tab := fun x y => if x = a ∧ y = b then v else f x y
def Tab.short (f : Tab) (a b v : Int) : Tab := if f a b < 0 ∨ v < f a b then f.set a b v else f
def Tab.leg (f : Tab) (x : Leg) : Tab := (f.short x.a x.b x.t).short x.b x.a x.t
def tab0 : Tab := fun _ _ => -1
def legTab (xs : List Leg) : Tab := xs.foldl Tab.leg tab0
def Tab.via (f : Tab) (c a b : Int) : Tab := if 0 ≤ f a c ∧ 0 ≤ f c b then f.short a b (f a c + f c b) else f
def Tab.viaB (f : Tab) (c a : Int) (n : Nat) : Tab := (List.range n).foldl (fun f (b : Nat) => f.via c a b) f
def Tab.viaA (n : Nat) (f : Tab) (c : Int) (k : Nat) : Tab := (List.range k).foldl (fun f (a : Nat) => f.viaB c a n) f
def Tab.fw (n : Nat) (f : Tab) (k : Nat) : Tab := (List.range k).foldl (fun f (c : Nat) => Tab.viaA n f c n) f
def Tab.diag (f : Tab) (k : Nat) : Tab := fun x y => if x = y ∧ 0 ≤ x ∧ x < k then 0 else f x y
/-- The times between n places. -/
def timesOf (n : Nat) (xs : List Leg) : Tab := Tab.fw n ((legTab xs).diag n) n

theorem Tab.viaB_succ (f : Tab) (c a : Int) (k : Nat) : f.viaB c a (k + 1) = (f.viaB c a k).via c a k := by simp [Tab.viaB, List.range_succ]
theorem Tab.viaA_succ (n : Nat) (f : Tab) (c : Int) (k : Nat) : Tab.viaA n f c (k + 1) = (Tab.viaA n f c k).viaB c k n := by simp [Tab.viaA, List.range_succ]
theorem Tab.fw_succ (n : Nat) (f : Tab) (k : Nat) : Tab.fw n f (k + 1) = Tab.viaA n (Tab.fw n f k) k n := by simp [Tab.fw, List.range_succ]
theorem Tab.diag_succ (f : Tab) (k : Nat) : f.diag (k + 1) = (f.diag k).set k k 0 := by
  funext x y
  simp only [Tab.diag, Tab.set]
  by_cases h1 : x = y <;> by_cases h2 : x = (k : Int)
  · rw [if_pos (by omega), if_pos (by omega)]
  · rw [if_neg (by omega : ¬ (x = (k : Int) ∧ y = (k : Int)))]
    by_cases h3 : x = y ∧ 0 ≤ x ∧ x < (k : Int)
    · rw [if_pos h3, if_pos (by omega)]
    · rw [if_neg h3, if_neg (by omega)]
  · rw [if_neg (by omega), if_neg (by omega), if_neg (by omega)]
  · rw [if_neg (by omega), if_neg (by omega), if_neg (by omega)]
theorem Tab.diag_zero (f : Tab) : f.diag 0 = f := by
  funext x y; unfold Tab.diag; rw [if_neg (by omega)]

/-- The table is -1 or a number up to B. -/
def Tab.upto (f : Tab) (B : Int) : Prop := ∀ x y, -1 ≤ f x y ∧ f x y ≤ B
theorem Tab.upto.short {f : Tab} {B : Int} (h : f.upto B) {a b v : Int} (h0 : 0 ≤ v) (h1 : v ≤ B) : (f.short a b v).upto B := by
  intro x y
  unfold Tab.short Tab.set
  split
  · dsimp only; split
    · omega
    · exact h x y
  · exact h x y
theorem Tab.upto.leg {f : Tab} {B : Int} (h : f.upto B) {x : Leg} (h0 : 0 ≤ x.t) (h1 : x.t ≤ B) : (f.leg x).upto B := (h.short h0 h1).short h0 h1
theorem tab0_upto (B : Int) (h : 0 ≤ B) : tab0.upto B := by intro x y; unfold tab0; omega
theorem Tab.upto.diag {f : Tab} {B : Int} (h : f.upto B) (h0 : 0 ≤ B) (k : Nat) : (f.diag k).upto B := by
  intro x y
  unfold Tab.diag
  split
  · omega
  · exact h x y
/-- Within the phase c: the row and the column c stand. -/
structure Tab.phase (n : Nat) (f : Tab) (c : Int) (B : Int) : Prop where
  all : f.upto (2 * B)
  row : ∀ b, f c b ≤ B
  col : ∀ a, f a c ≤ B
  dia : ∀ a : Int, 0 ≤ a → a < n → f a a = 0
theorem Tab.phase.via {n : Nat} {f : Tab} {c B : Int} (h : f.phase n c B) (hc : 0 ≤ c ∧ c < n) (a b : Int) (ha : 0 ≤ a ∧ a < n) (hb : 0 ≤ b ∧ b < n) : (f.via c a b).phase n c B := by
  unfold Tab.via
  split
  case isFalse => exact h
  rename_i h1
  have r1 := h.row b
  have r2 := h.col a
  have hcc := h.dia c hc.1 hc.2
  unfold Tab.short
  split
  case isFalse => exact h
  rename_i h2
  have nc : a ≠ c := by intro e; subst e; rw [hcc] at h2; omega
  have nb : b ≠ c := by intro e; subst e; rw [hcc] at h2; omega
  have nab : a ≠ b := by intro e; subst e; have := h.dia a ha.1 ha.2; omega
  refine ⟨fun x y => ?_, fun y => ?_, fun x => ?_, fun x hx0 hx1 => ?_⟩
  · unfold Tab.set; split
    · omega
    · exact h.all x y
  · unfold Tab.set; rw [if_neg (by omega)]; exact h.row y
  · unfold Tab.set; rw [if_neg (by omega)]; exact h.col x
  · unfold Tab.set; rw [if_neg (by omega)]; exact h.dia x hx0 hx1
theorem Tab.phase.viaB {n : Nat} {f : Tab} {c B : Int} (h : f.phase n c B) (hc : 0 ≤ c ∧ c < n) (a : Int) (ha : 0 ≤ a ∧ a < n) : ∀ k : Nat, k ≤ n → (f.viaB c a k).phase n c B
  | 0, _ => h
  | k + 1, hk => by rw [Tab.viaB_succ]; exact (Tab.phase.viaB h hc a ha k (by omega)).via hc a k ha (by omega)
theorem Tab.phase.viaA {n : Nat} {f : Tab} {c B : Int} (h : f.phase n c B) (hc : 0 ≤ c ∧ c < n) : ∀ k : Nat, k ≤ n → (Tab.viaA n f c k).phase n c B
  | 0, _ => h
  | k + 1, hk => by rw [Tab.viaA_succ]; exact (Tab.phase.viaA h hc k (by omega)).viaB hc k (by omega) n (Nat.le_refl _)
theorem Tab.phase.start {n : Nat} {f : Tab} {B : Int} (h : f.upto B) (h0 : 0 ≤ B) (hd : ∀ a : Int, 0 ≤ a → a < n → f a a = 0) (c : Int) : f.phase n c B :=
  ⟨fun x y => by have := h x y; omega, fun b => (h c b).2, fun a => (h a c).2, hd⟩
theorem Tab.fw_phase {n : Nat} {f : Tab} (h : f.upto 200) (hd : ∀ a : Int, 0 ≤ a → a < n → f a a = 0) : ∀ k : Nat, k ≤ n → (Tab.fw n f k).upto (200 * 2 ^ k) ∧ ∀ a : Int, 0 ≤ a → a < n → (Tab.fw n f k) a a = 0
  | 0, _ => ⟨by simp only [Int.pow_zero, Int.mul_one]; exact h, hd⟩
  | k + 1, hk => by
    obtain ⟨h1, h2⟩ := Tab.fw_phase h hd k (by omega)
    have h3 := Tab.phase.viaA (Tab.phase.start h1 (Int.mul_nonneg (by omega) (Int.pow_nonneg (by omega))) h2 k) (by omega) n (Nat.le_refl _)
    rw [Tab.fw_succ]
    refine ⟨fun x y => ?_, h3.dia⟩
    have := h3.all x y
    rw [Int.pow_succ]
    omega
theorem pow_bd {k : Nat} (h : k ≤ 8) : (200 : Int) * 2 ^ k ≤ 51200 ∧ 0 ≤ (200 : Int) * 2 ^ k := by
  rcases (show k = 0 ∨ k = 1 ∨ k = 2 ∨ k = 3 ∨ k = 4 ∨ k = 5 ∨ k = 6 ∨ k = 7 ∨ k = 8 by omega) with rfl | rfl | rfl | rfl | rfl | rfl | rfl | rfl | rfl <;> decide
def Leg.ok (places : Int) (x : Leg) : Bool := within x.a 0 (places - 1) && within x.b 0 (places - 1) && decide (x.a ≠ x.b) && within x.t 1 200
theorem Leg.ok_parts {p : Int} {x : Leg} (h : Leg.ok p x = true) : (0 ≤ x.a ∧ x.a ≤ p - 1) ∧ (0 ≤ x.b ∧ x.b ≤ p - 1) ∧ x.a ≠ x.b ∧ (1 ≤ x.t ∧ x.t ≤ 200) := by
  unfold Leg.ok at h
  simp only [Bool.and_eq_true, decide_eq_true_eq] at h
  exact ⟨within_true.1 h.1.1.1, within_true.1 h.1.1.2, h.1.2, within_true.1 h.2⟩
theorem foldl_leg_upto {p : Int} : ∀ (xs : List Leg) (f : Tab), (∀ x ∈ xs, Leg.ok p x = true) → f.upto 200 → (xs.foldl Tab.leg f).upto 200
  | [], f, _, h => h
  | x :: xs, f, hx, h => foldl_leg_upto xs _ (fun y hy => hx y (by simp [hy])) (h.leg (by have := Leg.ok_parts (hx x (by simp)); omega) (by have := Leg.ok_parts (hx x (by simp)); omega))
theorem legTab_upto {p : Int} {xs : List Leg} (h : ∀ x ∈ xs, Leg.ok p x = true) : (legTab xs).upto 200 := foldl_leg_upto xs _ h (tab0_upto 200 (by omega))
theorem timesOf_upto {n : Nat} {p : Int} {xs : List Leg} (hn : n ≤ 8) (h : ∀ x ∈ xs, Leg.ok p x = true) : (timesOf n xs).upto 51200 := by
  have := (Tab.fw_phase (n := n) ((legTab_upto h).diag (by omega) n) (fun a h0 h1 => by unfold Tab.diag; rw [if_pos ⟨rfl, h0, h1⟩]) n (Nat.le_refl _)).1
  intro x y
  have h1 := this x y
  have h2 := pow_bd hn
  unfold timesOf
  omega

/-! ### A flight -/
structure Net where
  met : Met
  net : List Leg
def Net.n (N : Net) : Nat := N.met.places.toNat
def Net.L (N : Net) : Tab := legTab N.net
def Net.T (N : Net) : Tab := timesOf N.n N.net
def Net.good (N : Net) : Bool := N.met.good && decide (N.net.length ≤ 20) && N.net.all (Leg.ok N.met.places)
def Net.check (N : Net) : Int := if N.met.good = true then (if (decide (N.net.length ≤ 20) && N.net.all (Leg.ok N.met.places)) = true then 0 else 50) else 40
/-- The errors of a met, minima (none: there are none) and a net. -/
def Net.checkL (N : Net) (l : Option Minima) : Int :=
  match l with
  | none => N.check
  | some l => if checkMinima N.met l = 0 then N.check else checkMinima N.met l

/-- When a flight is at the k-th place of its route. -/
def tickAt (L : Tab) (d : Int) (r : List Int) : Nat → Int
  | 0 => d
  | k + 1 => tickAt L d r k + L (r.getD k 0) (r.getD (k + 1) 0)
/-- The first k places follow one another along legs. -/
def joined (L : Tab) (r : List Int) : Nat → Bool
  | 0 => true
  | k + 1 => joined L r k && decide (0 ≤ L (r.getD k 0) (r.getD (k + 1) 0))
def Flight.at (f : Flight) (L : Tab) : Nat → Int := tickAt L f.depart f.route
def Flight.last (f : Flight) : Nat := f.route.length - 1
def Flight.arrival (f : Flight) (L : Tab) : Int := f.at L f.last
def Flight.plain (f : Flight) : Bool := decide (1 ≤ f.route.length ∧ f.route.length ≤ 8) && within f.depart 0 2000 && within f.fuel 0 100000 && within f.reserve 0 100000 && within f.burn 1 100000
def Flight.good (f : Flight) (places : Int) (L : Tab) : Bool := f.plain && f.route.all (fun p => within p 0 (places - 1)) && joined L f.route f.last && decide (f.arrival L ≤ 2000)
def Net.checkF (N : Net) (l : Option Minima) (f : Flight) : Int := if N.checkL l = 0 then (if f.good N.met.places N.L = true then 0 else 51) else N.checkL l
def Flight.atList (f : Flight) (L : Tab) (k : Nat) : List Int := (List.range k).map (f.at L)

/-- The last place up to i that the flight has reached up to a tick. -/
def backTo (a : Nat → Int) (tick : Int) : Nat → Nat
  | 0 => 0
  | i + 1 => if tick < a (i + 1) then backTo a tick i else i + 1
/-- When, and how, a flight can be at a place behind a tick; whether it can. -/
def reachP (T : Tab) (a : Nat → Int) (r : List Int) (n : Nat) (tick place : Int) : Haven × Bool :=
  let i := backTo a tick n
  let back : Haven := ⟨place, tick + (tick - a i) + T (r.getD i 0) place, decide (a i < tick)⟩
  if tick = a i then (back, decide (0 ≤ T (r.getD i 0) place))
  else
    let on : Haven := ⟨place, a (i + 1) + T (r.getD (i + 1) 0) place, false⟩
    if back.at_ < on.at_ then (back, decide (0 ≤ T (r.getD i 0) place)) else (on, decide (0 ≤ T (r.getD (i + 1) 0) place))
structure Plan where
  N : Net
  l : Minima
  f : Flight
def Plan.reach (P : Plan) (tick place : Int) : Haven × Bool := reachP P.N.T (P.f.at P.N.L) P.f.route P.f.last tick place
def Flight.lasts (f : Flight) (tick : Int) : Bool := decide (f.reserve ≤ f.fuel - f.burn * (tick - f.depart))
def Plan.opens (P : Plan) (h : Haven) : Bool := decide (h.at_ ≤ 2000) && decide ((P.N.met.opened P.l h.place h.at_).2 = 0) && (P.N.met.opened P.l h.place h.at_).1
def Plan.keeps (P : Plan) (tick : Int) (dry : Bool) (p : Nat) : Bool := (P.reach tick p).2 && P.opens (P.reach tick p).1 && (dry || P.f.lasts (P.reach tick p).1.at_)
def Plan.havens (P : Plan) (tick : Int) (dry : Bool) (k : Nat) : List Haven := ((List.range k).filter (P.keeps tick dry)).map fun p : Nat => (P.reach tick p).1
def Plan.all (P : Plan) (tick : Int) (dry : Bool) : List Haven := P.havens tick dry P.N.n
def sooner (m x : Haven) : Haven := if x.at_ < m.at_ then x else m
def z_hv : Haven := ⟨0, 0, false⟩
def bestOf (l : List Haven) : Haven := match l with
  | [] => z_hv
  | x :: t => t.foldl sooner x
def hasBest (l : List Haven) : Bool := !l.isEmpty
def Plan.safeAt (P : Plan) (dry : Bool) (k : Nat) : Bool := hasBest (P.all (P.f.depart + k) dry)
def Plan.bestAt (P : Plan) (dry : Bool) (k : Nat) : Haven := bestOf (P.all (P.f.depart + k) dry)
/-- How many ticks the flight takes, with the first and the last one. -/
def Plan.ticks (P : Plan) : Nat := (P.f.arrival P.N.L - P.f.depart + 1).toNat
def Plan.safeTo (P : Plan) (dry : Bool) (k : Nat) : Bool := (List.range k).all (P.safeAt dry)
def Plan.proofTo (P : Plan) (dry : Bool) (k : Nat) : List Haven := (List.range k).map (P.bestAt dry)
def Plan.mostTo (P : Plan) : Nat → Int
  | 0 => 0
  | k + 1 => mx (P.mostTo k) (P.f.reserve + P.f.burn * ((P.bestAt true k).at_ - P.f.depart))
end Go.Proofs.YtmmimbcfgobnaaaGreat
