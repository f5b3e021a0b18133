/- Data of the program in plain Lean: what the Go structs hold; what their cells are. No program in sight. -/
import Derived.Below
namespace Go.Proofs.YtmmimbcfgobnaaaGreat
open Go.RowKit

structure Span where
  lo : Int
  hi : Int
structure Sky where
  w : Span
  s : Span
  c : Span
  ice : Bool
  storm : Bool
structure Wx where
  wind : Int
  see : Int
  ceil : Int
  ice : Bool
  storm : Bool
structure Fc where
  place : Int
  fr : Int
  to : Int
  issued : Int
  sky : Sky
structure Sight where
  place : Int
  at_ : Int
  now : Wx
structure Met where
  places : Int
  any : Sky
  wind : Int
  see : Int
  ceil : Int
  fcs : List Fc
  sights : List Sight
structure Minima where
  wind : Int
  see : Int
  ceil : Int
  ice : Bool
  storm : Bool
structure Leg where
  a : Int
  b : Int
  t : Int
structure Flight where
  route : List Int
  depart : Int
  fuel : Int
  burn : Int
  reserve : Int
structure Haven where
  place : Int
  at_ : Int
  back : Bool
deriving DecidableEq

abbrev iv (n : Int) : Value := .int .i64 n
def encInt (n : Int) : List Value := [iv n]
def Span.enc (x : Span) : List Value := [iv x.lo, iv x.hi]
def Leg.enc (x : Leg) : List Value := [iv x.a, iv x.b, iv x.t]
def Haven.enc (x : Haven) : List Value := [iv x.place, iv x.at_, .bool x.back]
def Fc.enc (x : Fc) : List Value := [iv x.place, iv x.fr, iv x.to, iv x.issued, iv x.sky.w.lo, iv x.sky.w.hi, iv x.sky.s.lo, iv x.sky.s.hi, iv x.sky.c.lo, iv x.sky.c.hi, .bool x.sky.ice, .bool x.sky.storm]
def Sight.enc (x : Sight) : List Value := [iv x.place, iv x.at_, iv x.now.wind, iv x.now.see, iv x.now.ceil, .bool x.now.ice, .bool x.now.storm]

abbrev Span.val (x : Span) : Value := .agg #[.int .i64 x.lo, .int .i64 x.hi]
abbrev Sky.val (x : Sky) : Value := .agg #[.int .i64 x.w.lo, .int .i64 x.w.hi, .int .i64 x.s.lo, .int .i64 x.s.hi, .int .i64 x.c.lo, .int .i64 x.c.hi, .bool x.ice, .bool x.storm]
abbrev Wx.val (x : Wx) : Value := .agg #[.int .i64 x.wind, .int .i64 x.see, .int .i64 x.ceil, .bool x.ice, .bool x.storm]
abbrev Minima.val (x : Minima) : Value := .agg #[.int .i64 x.wind, .int .i64 x.see, .int .i64 x.ceil, .bool x.ice, .bool x.storm]
abbrev Leg.val (x : Leg) : Value := .agg #[.int .i64 x.a, .int .i64 x.b, .int .i64 x.t]
abbrev Haven.val (x : Haven) : Value := .agg #[.int .i64 x.place, .int .i64 x.at_, .bool x.back]
abbrev Fc.val (x : Fc) : Value := .agg #[.int .i64 x.place, .int .i64 x.fr, .int .i64 x.to, .int .i64 x.issued, .int .i64 x.sky.w.lo, .int .i64 x.sky.w.hi, .int .i64 x.sky.s.lo, .int .i64 x.sky.s.hi, .int .i64 x.sky.c.lo, .int .i64 x.sky.c.hi, .bool x.sky.ice, .bool x.sky.storm]
abbrev Sight.val (x : Sight) : Value := .agg #[.int .i64 x.place, .int .i64 x.at_, .int .i64 x.now.wind, .int .i64 x.now.see, .int .i64 x.now.ceil, .bool x.now.ice, .bool x.now.storm]
abbrev Met.val (m : Met) (F S : Value) : Value := .agg #[.int .i64 m.places, .int .i64 m.any.w.lo, .int .i64 m.any.w.hi, .int .i64 m.any.s.lo, .int .i64 m.any.s.hi, .int .i64 m.any.c.lo, .int .i64 m.any.c.hi, .bool m.any.ice, .bool m.any.storm, .int .i64 m.wind, .int .i64 m.see, .int .i64 m.ceil, F, S]
abbrev Flight.val (f : Flight) (R : Value) : Value := .agg #[R, .int .i64 f.depart, .int .i64 f.fuel, .int .i64 f.burn, .int .i64 f.reserve]

/-! ### Weather -/
def within (n lo hi : Int) : Bool := decide (lo ≤ n) && decide (n ≤ hi)
theorem within_true {n lo hi : Int} : within n lo hi = true ↔ lo ≤ n ∧ n ≤ hi := by simp [within]
theorem within_false {n lo hi : Int} : within n lo hi = false ↔ n < lo ∨ hi < n := by
  rw [← Bool.not_eq_true, within_true]; omega
/-- A span that layer 1 lets in. -/
def Span.valid (x : Span) : Bool := within x.lo (-1000000) x.hi && decide (x.hi ≤ 1000000)
/-- A valid span from 0 to most. -/
def Span.ok (x : Span) (most : Int) : Bool := decide (0 ≤ x.lo ∧ x.lo ≤ x.hi ∧ x.hi ≤ most)
def Sky.ok (x : Sky) : Bool := x.w.ok 300 && x.s.ok 20000 && x.c.ok 20000
def Wx.ok (x : Wx) : Bool := within x.wind 0 300 && within x.see 0 20000 && within x.ceil 0 20000
def Fc.ok (places : Int) (f : Fc) : Bool := within f.place 0 (places - 1) && decide (0 ≤ f.fr ∧ f.fr < f.to ∧ f.to ≤ 2000) && within f.issued 0 2000 && f.sky.ok
def Sight.ok (places : Int) (s : Sight) : Bool := within s.place 0 (places - 1) && within s.at_ 0 2000 && s.now.ok
def Met.good (m : Met) : Bool :=
  within m.places 1 8 && m.any.ok && within m.wind 0 20000 && within m.see 0 20000 && within m.ceil 0 20000 &&
  decide (m.fcs.length ≤ 40) && m.fcs.all (Fc.ok m.places) && decide (m.sights.length ≤ 20) && m.sights.all (Sight.ok m.places)
def Met.check (m : Met) : Int := if m.good = true then 0 else 40
def Minima.good (l : Minima) : Bool := within l.wind 0 300 && within l.see 0 20000 && within l.ceil 0 20000
def checkMinima (m : Met) (l : Minima) : Int := if m.good = true then (if l.good = true then 0 else 41) else 40
def checkAt (m : Met) (place tick : Int) : Int := if m.good = true then (if (within place 0 (m.places - 1) && within tick 0 2000) = true then 0 else 1) else 40

/-- The greater and the lesser one, as the model has them. -/
def mx (a b : Int) : Int := if a < b then b else a
def mn (a b : Int) : Int := if b < a then b else a
theorem mx_eq (a b : Int) : mx a b = max a b := by unfold mx; omega
theorem mn_eq (a b : Int) : mn a b = min a b := by unfold mn; omega
/-- What two spans have in common; the error. -/
def meet (a b : Span) : Span × Int :=
  if (a.valid && b.valid) = true then
    (if mn a.hi b.hi < mx a.lo b.lo then (⟨0, 0⟩, 3) else (⟨mx a.lo b.lo, mn a.hi b.hi⟩, 0))
  else (⟨0, 0⟩, 10)
/-- A span cut by another one; whether that replaces it. -/
def cut (a b : Span) : Span × Bool := if (meet a b).2 = 0 then ((meet a b).1, false) else (b, true)
def Sky.cut (a b : Sky) : Sky := ⟨(YtmmimbcfgobnaaaGreat.cut a.w b.w).1, (YtmmimbcfgobnaaaGreat.cut a.s b.s).1, (YtmmimbcfgobnaaaGreat.cut a.c b.c).1, a.ice, a.storm⟩
def Sky.cuts (a b : Sky) : Bool := (YtmmimbcfgobnaaaGreat.cut a.w b.w).2 || (YtmmimbcfgobnaaaGreat.cut a.s b.s).2 || (YtmmimbcfgobnaaaGreat.cut a.c b.c).2
def near (n by_ most : Int) : Span := ⟨max 0 (n - by_), min most (n + by_)⟩

/-! #### A list sorted by insertion from behind: the new one goes ahead of those that it is less than -/
def insR {α : Type} (lt : α → α → Bool) (x : α) : List α → List α
  | [] => [x]
  | y :: ys => if lt x y = true then y :: insR lt x ys else x :: y :: ys
def ins {α : Type} (lt : α → α → Bool) (xs : List α) (x : α) : List α := (insR lt x xs.reverse).reverse
def isort {α : Type} (lt : α → α → Bool) (xs : List α) : List α := xs.foldl (ins lt) []

def z_fc : Fc := ⟨0, 0, 0, 0, ⟨⟨0, 0⟩, ⟨0, 0⟩, ⟨0, 0⟩, false, false⟩⟩
def z_si : Sight := ⟨0, 0, ⟨0, 0, 0, false, false⟩⟩
def Met.fc (m : Met) (i : Nat) : Fc := m.fcs.getD i z_fc
def Met.si (m : Met) (i : Nat) : Sight := m.sights.getD i z_si
def Met.coversOf (m : Met) (place tick : Int) (i : Nat) : Bool := decide ((m.fc i).place = place ∧ (m.fc i).fr ≤ tick ∧ tick < (m.fc i).to)
def Met.covers0 (m : Met) (place tick : Int) (n : Nat) : List Nat := (List.range n).filter (m.coversOf place tick)
def Met.seenOf (m : Met) (place tick : Int) (i : Nat) : Bool := decide ((m.si i).place = place ∧ (m.si i).at_ ≤ tick)
def Met.seen0 (m : Met) (place tick : Int) (n : Nat) : List Nat := (List.range n).filter (m.seenOf place tick)
def Met.fcLt (m : Met) (i j : Nat) : Bool := decide ((m.fc i).issued < (m.fc j).issued)
def Met.siLt (m : Met) (i j : Nat) : Bool := decide ((m.si i).at_ < (m.si j).at_)
def Met.covers (m : Met) (place tick : Int) : List Nat := isort m.fcLt (m.covers0 place tick m.fcs.length)
def Met.seen (m : Met) (place tick : Int) : List Nat := isort m.siLt (m.seen0 place tick m.sights.length)
/-- A forecast that cuts. -/
def Met.fcStep (m : Met) (s : Sky × List Nat) (i : Nat) : Sky × List Nat :=
  let by_ := (m.fc i).sky
  ({ s.1.cut by_ with ice := s.1.ice && by_.ice, storm := s.1.storm && by_.storm }, if s.1.cuts by_ = true then s.2 ++ [i] else s.2)
def Met.around (m : Met) (tick : Int) (x : Sight) : Sky :=
  ⟨near x.now.wind ((tick - x.at_) * m.wind) 300, near x.now.see ((tick - x.at_) * m.see) 20000, near x.now.ceil ((tick - x.at_) * m.ceil) 20000, false, false⟩
/-- A sight that cuts. -/
def Met.siStep (m : Met) (tick : Int) (s : Sky) (i : Nat) : Sky :=
  let x := m.si i
  let c := s.cut (m.around tick x)
  if tick - x.at_ = 0 then { c with ice := x.now.ice, storm := x.now.storm } else c
def Met.byFcs (m : Met) (place tick : Int) : Sky × List Nat := (m.covers place tick).foldl m.fcStep (m.any, [])
def Met.sky (m : Met) (place tick : Int) : Sky := (m.seen place tick).foldl (m.siStep tick) (m.byFcs place tick).1
def Met.strange (m : Met) (place tick : Int) : List Nat := (m.byFcs place tick).2
def Sky.worst (s : Sky) : Wx := ⟨s.w.hi, s.s.lo, s.c.lo, s.ice, s.storm⟩
def flyable (w : Wx) (l : Minima) : Bool := decide (w.wind ≤ l.wind) && decide (l.see ≤ w.see) && decide (l.ceil ≤ w.ceil) && (!w.ice || l.ice) && (!w.storm || l.storm)
def Met.isOpen (m : Met) (l : Minima) (place tick : Int) : Bool := flyable (m.sky place tick).worst l
def checkOpen (m : Met) (l : Minima) (place tick : Int) : Int := if checkMinima m l = 0 then checkAt m place tick else checkMinima m l
/-- weather.Open: whether it is, and the error. -/
def Met.opened (m : Met) (l : Minima) (place tick : Int) : Bool × Int := if checkOpen m l place tick = 0 then (m.isOpen l place tick, 0) else (false, checkOpen m l place tick)

/-! ### slices.IndexFunc -/
def idxOf {α : Type} (p : α → Bool) : List α → Int
  | [] => -1
  | x :: t => if p x = true then 0 else if idxOf p t < 0 then -1 else idxOf p t + 1
theorem idxOf_at {α : Type} (p : α → Bool) (x : α) : ∀ (xs : List α) (k : Nat), (xs.take k).any p = false → xs[k]? = some x → p x = true → idxOf p xs = (k : Int)
  | [], k, _, h, _ => by simp at h
  | y :: t, 0, _, h, hp => by
    simp only [List.getElem?_cons_zero, Option.some.injEq] at h
    subst h
    simp [idxOf, hp]
  | y :: t, k + 1, ha, h, hp => by
    simp only [List.take_succ_cons, List.any_cons, Bool.or_eq_false_iff] at ha
    have := idxOf_at p x t k ha.2 (by simpa using h) hp
    simp only [idxOf, ha.1, this]
    simp only [Bool.false_eq_true, if_false]
    rw [if_neg (by omega)]
    omega
theorem idxOf_none {α : Type} (p : α → Bool) : ∀ (xs : List α), xs.any p = false → idxOf p xs = -1
  | [], _ => rfl
  | y :: t, ha => by
    simp only [List.any_cons, Bool.or_eq_false_iff] at ha
    simp [idxOf, ha.1, idxOf_none p t ha.2]
theorem idxOf_any {α : Type} (p : α → Bool) : ∀ (xs : List α), decide (0 ≤ idxOf p xs) = xs.any p
  | [] => rfl
  | y :: t => by
    have ih := idxOf_any p t
    simp only [idxOf, List.any_cons]
    rcases Bool.eq_false_or_eq_true (p y) with hp | hp
    · simp [hp]
    · simp only [hp, Bool.false_eq_true, if_false, Bool.false_or]
      rw [← ih]
      by_cases h : idxOf p t < 0
      · rw [if_pos h]; simp; omega
      · rw [if_neg h]
        have : 0 ≤ idxOf p t := by omega
        simp [this]; omega
theorem any_take_succ {α : Type} (p : α → Bool) (x : α) (xs : List α) (k : Nat) (h : xs[k]? = some x) : (xs.take (k + 1)).any p = ((xs.take k).any p || p x) := by
  obtain ⟨hk, rfl⟩ := List.getElem?_eq_some_iff.1 h
  rw [List.take_succ_eq_append_getElem hk, List.any_append]
  simp
theorem any_take_all {α : Type} (p : α → Bool) (xs : List α) (k : Nat) (h : xs.length ≤ k) : (xs.take k).any p = xs.any p := by rw [List.take_of_length_le h]
theorem foldl_take_succ {α β : Type} (f : β → α → β) (b : β) (x : α) (xs : List α) (k : Nat) (h : xs[k]? = some x) : (xs.take (k + 1)).foldl f b = f ((xs.take k).foldl f b) x := by
  obtain ⟨hk, rfl⟩ := List.getElem?_eq_some_iff.1 h
  rw [List.take_succ_eq_append_getElem hk, List.foldl_append]
  rfl
theorem foldl_take_all {α β : Type} (f : β → α → β) (b : β) (xs : List α) (k : Nat) (h : xs.length ≤ k) : (xs.take k).foldl f b = xs.foldl f b := by rw [List.take_of_length_le h]
end Go.Proofs.YtmmimbcfgobnaaaGreat
