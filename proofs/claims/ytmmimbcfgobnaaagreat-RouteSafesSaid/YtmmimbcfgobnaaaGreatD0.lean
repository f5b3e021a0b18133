/- Data of the program in plain Lean: what the Go structs hold; what their cells are. No program in sight. Plain laws on lists: sorting by insertion from behind, step by step. Plain laws of the weather. Plain laws of the route's tables: the shortest leg, the time between two places. Plain laws of the route's times: they are a metric. -/
import Derived.Below
set_option linter.unusedVariables false
set_option linter.unusedSimpArgs false
namespace Go.Proofs.YtmmimbcfgobnaaaGreat
open Go.RowKit

structure Span where
  lo : Int
  hi : Int
structure Sky where
  w : Span
  s : Span
  c : Span
  ice : Bool
  storm : Bool
structure Wx where
  wind : Int
  see : Int
  ceil : Int
  ice : Bool
  storm : Bool
structure Fc where
  place : Int
  fr : Int
  to : Int
  issued : Int
  sky : Sky
structure Sight where
  place : Int
  at_ : Int
  now : Wx
structure Met where
  places : Int
  any : Sky
  wind : Int
  see : Int
  ceil : Int
  fcs : List Fc
  sights : List Sight
structure Minima where
  wind : Int
  see : Int
  ceil : Int
  ice : Bool
  storm : Bool
structure Leg where
  a : Int
  b : Int
  t : Int
structure Flight where
  route : List Int
  depart : Int
  fuel : Int
  burn : Int
  reserve : Int
structure Haven where
  place : Int
  at_ : Int
  back : Bool
deriving DecidableEq

abbrev iv (n : Int) : Value := .int .i64 n
def encInt (n : Int) : List Value := [iv n]
def Span.enc (x : Span) : List Value := [iv x.lo, iv x.hi]
def Leg.enc (x : Leg) : List Value := [iv x.a, iv x.b, iv x.t]
def Haven.enc (x : Haven) : List Value := [iv x.place, iv x.at_, .bool x.back]
def Fc.enc (x : Fc) : List Value := [iv x.place, iv x.fr, iv x.to, iv x.issued, iv x.sky.w.lo, iv x.sky.w.hi, iv x.sky.s.lo, iv x.sky.s.hi, iv x.sky.c.lo, iv x.sky.c.hi, .bool x.sky.ice, .bool x.sky.storm]
def Sight.enc (x : Sight) : List Value := [iv x.place, iv x.at_, iv x.now.wind, iv x.now.see, iv x.now.ceil, .bool x.now.ice, .bool x.now.storm]

abbrev Span.val (x : Span) : Value := .agg #[.int .i64 x.lo, .int .i64 x.hi]
abbrev Sky.val (x : Sky) : Value := .agg #[.int .i64 x.w.lo, .int .i64 x.w.hi, .int .i64 x.s.lo, .int .i64 x.s.hi, .int .i64 x.c.lo, .int .i64 x.c.hi, .bool x.ice, .bool x.storm]
abbrev Wx.val (x : Wx) : Value := .agg #[.int .i64 x.wind, .int .i64 x.see, .int .i64 x.ceil, .bool x.ice, .bool x.storm]
abbrev Minima.val (x : Minima) : Value := .agg #[.int .i64 x.wind, .int .i64 x.see, .int .i64 x.ceil, .bool x.ice, .bool x.storm]
abbrev Leg.val (x : Leg) : Value := .agg #[.int .i64 x.a, .int .i64 x.b, .int .i64 x.t]
abbrev Haven.val (x : Haven) : Value := .agg #[.int .i64 x.place, .int .i64 x.at_, .bool x.back]
abbrev Fc.val (x : Fc) : Value := .agg #[.int .i64 x.place, .int .i64 x.fr, .int .i64 x.to, .int .i64 x.issued, .int .i64 x.sky.w.lo, .int .i64 x.sky.w.hi, .int .i64 x.sky.s.lo, .int .i64 x.sky.s.hi, .int .i64 x.sky.c.lo, .int .i64 x.sky.c.hi, .bool x.sky.ice, .bool x.sky.storm]
abbrev Sight.val (x : Sight) : Value := .agg #[.int .i64 x.place, .int .i64 x.at_, .int .i64 x.now.wind, .int .i64 x.now.see, .int .i64 x.now.ceil, .bool x.now.ice, .bool x.now.storm]
abbrev Met.val (m : Met) (F S : Value) : Value := .agg #[.int .i64 m.places, .int .i64 m.any.w.lo, .int .i64 m.any.w.hi, .int .i64 m.any.s.lo, .int .i64 m.any.s.hi, .int .i64 m.any.c.lo, .int .i64 m.any.c.hi, .bool m.any.ice, .bool m.any.storm, .int .i64 m.wind, .int .i64 m.see, .int .i64 m.ceil, F, S]
abbrev Flight.val (f : Flight) (R : Value) : Value := .agg #[R, .int .i64 f.depart, .int .i64 f.fuel, .int .i64 f.burn, .int .i64 f.reserve]

/-! ### Weather -/
def within (n lo hi : Int) : Bool := decide (lo ≤ n) && decide (n ≤ hi)
theorem within_true {n lo hi : Int} : within n lo hi = true ↔ lo ≤ n ∧ n ≤ hi := by simp [within]
theorem within_false {n lo hi : Int} : within n lo hi = false ↔ n < lo ∨ hi < n := by
  rw [← Bool.not_eq_true, within_true]; omega
/-- A span that layer 1 lets in. -/
def Span.valid (x : Span) : Bool := within x.lo (-1000000) x.hi && decide (x.hi ≤ 1000000)
/-- A valid span from 0 to most. -/
def Span.ok (x : Span) (most : Int) : Bool := decide (0 ≤ x.lo ∧ x.lo ≤ x.hi ∧ x.hi ≤ most)
def Sky.ok (x : Sky) : Bool := x.w.ok 300 && x.s.ok 20000 && x.c.ok 20000
def Wx.ok (x : Wx) : Bool := within x.wind 0 300 && within x.see 0 20000 && within x.ceil 0 20000
def Fc.ok (places : Int) (f : Fc) : Bool := within f.place 0 (places - 1) && decide (0 ≤ f.fr ∧ f.fr < f.to ∧ f.to ≤ 2000) && within f.issued 0 2000 && f.sky.ok
def Sight.ok (places : Int) (s : Sight) : Bool := within s.place 0 (places - 1) && within s.at_ 0 2000 && s.now.ok
def Met.good (m : Met) : Bool :=
  within m.places 1 8 && m.any.ok && within m.wind 0 20000 && within m.see 0 20000 && within m.ceil 0 20000 &&
  decide (m.fcs.length ≤ 40) && m.fcs.all (Fc.ok m.places) && decide (m.sights.length ≤ 20) && m.sights.all (Sight.ok m.places)
def Met.check (m : Met) : Int := if m.good = true then 0 else 40
/-- A good met has few forecasts, few sights. -/
def Met.fc12 (m : Met) : Prop := m.good = true → m.fcs.length ≤ 12
def Met.si12 (m : Met) : Prop := m.good = true → m.sights.length ≤ 12
def Minima.good (l : Minima) : Bool := within l.wind 0 300 && within l.see 0 20000 && within l.ceil 0 20000
def checkMinima (m : Met) (l : Minima) : Int := if m.good = true then (if l.good = true then 0 else 41) else 40
def checkAt (m : Met) (place tick : Int) : Int := if m.good = true then (if (within place 0 (m.places - 1) && within tick 0 2000) = true then 0 else 1) else 40

/-- The greater and the lesser one, as the model has them. -/
def mx (a b : Int) : Int := if a < b then b else a
def mn (a b : Int) : Int := if b < a then b else a
theorem mx_eq (a b : Int) : mx a b = max a b := by unfold mx; omega
theorem mn_eq (a b : Int) : mn a b = min a b := by unfold mn; omega
/-- What two spans have in common; the error. -/
def meet (a b : Span) : Span × Int :=
  if (a.valid && b.valid) = true then
    (if mn a.hi b.hi < mx a.lo b.lo then (⟨0, 0⟩, 3) else (⟨mx a.lo b.lo, mn a.hi b.hi⟩, 0))
  else (⟨0, 0⟩, 10)
/-- A span cut by another one; whether that replaces it. -/
def cut (a b : Span) : Span × Bool := if (meet a b).2 = 0 then ((meet a b).1, false) else (b, true)
def Sky.cut (a b : Sky) : Sky := ⟨(YtmmimbcfgobnaaaGreat.cut a.w b.w).1, (YtmmimbcfgobnaaaGreat.cut a.s b.s).1, (YtmmimbcfgobnaaaGreat.cut a.c b.c).1, a.ice, a.storm⟩
def Sky.cuts (a b : Sky) : Bool := (YtmmimbcfgobnaaaGreat.cut a.w b.w).2 || (YtmmimbcfgobnaaaGreat.cut a.s b.s).2 || (YtmmimbcfgobnaaaGreat.cut a.c b.c).2
def near (n by_ most : Int) : Span := ⟨max 0 (n - by_), min most (n + by_)⟩

/-! #### A list sorted by insertion from behind: the new one goes ahead of those that it is less than -/
def insR {α : Type} (lt : α → α → Bool) (x : α) : List α → List α
  | [] => [x]
  | y :: ys => if lt x y = true then y :: insR lt x ys else x :: y :: ys
def ins {α : Type} (lt : α → α → Bool) (xs : List α) (x : α) : List α := (insR lt x xs.reverse).reverse
def isort {α : Type} (lt : α → α → Bool) (xs : List α) : List α := xs.foldl (ins lt) []

def z_fc : Fc := ⟨0, 0, 0, 0, ⟨⟨0, 0⟩, ⟨0, 0⟩, ⟨0, 0⟩, false, false⟩⟩
def z_si : Sight := ⟨0, 0, ⟨0, 0, 0, false, false⟩⟩
def Met.fc (m : Met) (i : Nat) : Fc := m.fcs.getD i z_fc
def Met.si (m : Met) (i : Nat) : Sight := m.sights.getD i z_si
def Met.coversOf (m : Met) (place tick : Int) (i : Nat) : Bool := decide ((m.fc i).place = place ∧ (m.fc i).fr ≤ tick ∧ tick < (m.fc i).to)
def Met.covers0 (m : Met) (place tick : Int) (n : Nat) : List Nat := (List.range n).filter (m.coversOf place tick)
def Met.seenOf (m : Met) (place tick : Int) (i : Nat) : Bool := decide ((m.si i).place = place ∧ (m.si i).at_ ≤ tick)
def Met.seen0 (m : Met) (place tick : Int) (n : Nat) : List Nat := (List.range n).filter (m.seenOf place tick)
def Met.fcLt (m : Met) (i j : Nat) : Bool := decide ((m.fc i).issued < (m.fc j).issued)
def Met.siLt (m : Met) (i j : Nat) : Bool := decide ((m.si i).at_ < (m.si j).at_)
def Met.covers (m : Met) (place tick : Int) : List Nat := isort m.fcLt (m.covers0 place tick m.fcs.length)
def Met.seen (m : Met) (place tick : Int) : List Nat := isort m.siLt (m.seen0 place tick m.sights.length)
/-- A forecast that cuts. -/
def Met.fcStep (m : Met) (s : Sky × List Nat) (i : Nat) : Sky × List Nat :=
  let by_ := (m.fc i).sky
  ({ s.1.cut by_ with ice := s.1.ice && by_.ice, storm := s.1.storm && by_.storm }, if s.1.cuts by_ = true then s.2 ++ [i] else s.2)
def Met.around (m : Met) (tick : Int) (x : Sight) : Sky :=
  ⟨near x.now.wind ((tick - x.at_) * m.wind) 300, near x.now.see ((tick - x.at_) * m.see) 20000, near x.now.ceil ((tick - x.at_) * m.ceil) 20000, false, false⟩
/-- A sight that cuts. -/
def Met.siStep (m : Met) (tick : Int) (s : Sky) (i : Nat) : Sky :=
  let x := m.si i
  let c := s.cut (m.around tick x)
  if tick - x.at_ = 0 then { c with ice := x.now.ice, storm := x.now.storm } else c
def Met.byFcs (m : Met) (place tick : Int) : Sky × List Nat := (m.covers place tick).foldl m.fcStep (m.any, [])
def Met.sky (m : Met) (place tick : Int) : Sky := (m.seen place tick).foldl (m.siStep tick) (m.byFcs place tick).1
def Met.strange (m : Met) (place tick : Int) : List Nat := (m.byFcs place tick).2
def Sky.worst (s : Sky) : Wx := ⟨s.w.hi, s.s.lo, s.c.lo, s.ice, s.storm⟩
def flyable (w : Wx) (l : Minima) : Bool := decide (w.wind ≤ l.wind) && decide (l.see ≤ w.see) && decide (l.ceil ≤ w.ceil) && (!w.ice || l.ice) && (!w.storm || l.storm)
def Met.isOpen (m : Met) (l : Minima) (place tick : Int) : Bool := flyable (m.sky place tick).worst l
def checkOpen (m : Met) (l : Minima) (place tick : Int) : Int := if checkMinima m l = 0 then checkAt m place tick else checkMinima m l
/-- weather.Open: whether it is, and the error. -/
def Met.opened (m : Met) (l : Minima) (place tick : Int) : Bool × Int := if checkOpen m l place tick = 0 then (m.isOpen l place tick, 0) else (false, checkOpen m l place tick)

/-! ### slices.IndexFunc -/
def idxOf {α : Type} (p : α → Bool) : List α → Int
  | [] => -1
  | x :: t => if p x = true then 0 else if idxOf p t < 0 then -1 else idxOf p t + 1
theorem idxOf_at {α : Type} (p : α → Bool) (x : α) : ∀ (xs : List α) (k : Nat), (xs.take k).any p = false → xs[k]? = some x → p x = true → idxOf p xs = (k : Int)
  | [], k, _, h, _ => by simp at h
  | y :: t, 0, _, h, hp => by
    simp only [List.getElem?_cons_zero, Option.some.injEq] at h
    subst h
    simp [idxOf, hp]
  | y :: t, k + 1, ha, h, hp => by
    simp only [List.take_succ_cons, List.any_cons, Bool.or_eq_false_iff] at ha
    have := idxOf_at p x t k ha.2 (by simpa using h) hp
    simp only [idxOf, ha.1, this]
    simp only [Bool.false_eq_true, if_false]
    rw [if_neg (by omega)]
    omega
theorem idxOf_none {α : Type} (p : α → Bool) : ∀ (xs : List α), xs.any p = false → idxOf p xs = -1
  | [], _ => rfl
  | y :: t, ha => by
    simp only [List.any_cons, Bool.or_eq_false_iff] at ha
    simp [idxOf, ha.1, idxOf_none p t ha.2]
theorem idxOf_any {α : Type} (p : α → Bool) : ∀ (xs : List α), decide (0 ≤ idxOf p xs) = xs.any p
  | [] => rfl
  | y :: t => by
    have ih := idxOf_any p t
    simp only [idxOf, List.any_cons]
    rcases Bool.eq_false_or_eq_true (p y) with hp | hp
    · simp [hp]
    · simp only [hp, Bool.false_eq_true, if_false, Bool.false_or]
      rw [← ih]
      by_cases h : idxOf p t < 0
      · rw [if_pos h]; simp; omega
      · rw [if_neg h]
        have : 0 ≤ idxOf p t := by omega
        simp [this]; omega
theorem any_take_succ {α : Type} (p : α → Bool) (x : α) (xs : List α) (k : Nat) (h : xs[k]? = some x) : (xs.take (k + 1)).any p = ((xs.take k).any p || p x) := by
  obtain ⟨hk, rfl⟩ := List.getElem?_eq_some_iff.1 h
  rw [List.take_succ_eq_append_getElem hk, List.any_append]
  simp
theorem any_take_all {α : Type} (p : α → Bool) (xs : List α) (k : Nat) (h : xs.length ≤ k) : (xs.take k).any p = xs.any p := by rw [List.take_of_length_le h]
theorem foldl_take_succ {α β : Type} (f : β → α → β) (b : β) (x : α) (xs : List α) (k : Nat) (h : xs[k]? = some x) : (xs.take (k + 1)).foldl f b = f ((xs.take k).foldl f b) x := by
  obtain ⟨hk, rfl⟩ := List.getElem?_eq_some_iff.1 h
  rw [List.take_succ_eq_append_getElem hk, List.foldl_append]
  rfl
theorem foldl_take_all {α β : Type} (f : β → α → β) (b : β) (xs : List α) (k : Nat) (h : xs.length ≤ k) : (xs.take k).foldl f b = xs.foldl f b := by rw [List.take_of_length_le h]
end Go.Proofs.YtmmimbcfgobnaaaGreat
namespace Go.Proofs.YtmmimbcfgobnaaaGreat

/-- x stands at place j of acc, what was there and behind it is moved up. -/
def bub {α : Type} (acc : List α) (x : α) (j : Nat) : List α := acc.take j ++ x :: acc.drop j
theorem bub_length {α : Type} (acc : List α) (x : α) (j : Nat) (h : j ≤ acc.length) : (bub acc x j).length = acc.length + 1 := by
  simp [bub]; omega
theorem bub_end {α : Type} (acc : List α) (x : α) : bub acc x acc.length = acc ++ [x] := by simp [bub]
theorem bub_at {α : Type} (acc : List α) (x : α) (j : Nat) (h : j ≤ acc.length) : (bub acc x j)[j]? = some x := by
  simp [bub, List.getElem?_append_right, Nat.min_eq_left h]
theorem bub_before {α : Type} (acc : List α) (x : α) (j : Nat) (h : j ≤ acc.length) (h0 : 0 < j) : (bub acc x j)[j - 1]? = acc[j - 1]? := by
  rw [bub, List.getElem?_append_left (by simp; omega), List.getElem?_take_of_lt (by omega)]
theorem set_swap {α : Type} (A B : List α) (p x : α) : ((A ++ p :: x :: B).set (A.length + 1) p).set A.length x = A ++ x :: p :: B := by
  induction A with
  | nil => rfl
  | cons a A ih => simp only [List.cons_append, List.length_cons, List.set_cons_succ, ih]
theorem bub_swap {α : Type} (acc rest : List α) (x p : α) (j : Nat) (h : j ≤ acc.length) (h0 : 0 < j) (hp : acc[j - 1]? = some p) :
    (((bub acc x j) ++ rest).set j p).set (j - 1) x = bub acc x (j - 1) ++ rest := by
  obtain ⟨hj, rfl⟩ := List.getElem?_eq_some_iff.1 hp
  obtain ⟨i, rfl⟩ : ∃ i, j = i + 1 := ⟨j - 1, by omega⟩
  have e1 : acc.take (i + 1) = acc.take i ++ [acc[i]] := List.take_succ_eq_append_getElem (by omega)
  have e2 : acc.drop i = acc[i] :: acc.drop (i + 1) := List.drop_eq_getElem_cons (by omega)
  have hl : (acc.take i).length = i := by simp; omega
  have := set_swap (acc.take i) (acc.drop (i + 1) ++ rest) acc[i] x
  rw [hl] at this
  simp only [bub, Nat.add_sub_cancel, e1, e2, List.append_assoc, List.cons_append, List.nil_append]
  exact this

theorem insR_skip {α : Type} (lt : α → α → Bool) (x : α) : ∀ (s p : List α), (∀ y ∈ s, lt x y = true) → insR lt x (s ++ p) = s ++ insR lt x p
  | [], p, _ => rfl
  | y :: s, p, h => by
    have hy := h y (by simp)
    simp only [List.cons_append, insR, hy, if_true]
    rw [insR_skip lt x s p (fun z hz => h z (by simp [hz]))]
theorem ins_stop {α : Type} (lt : α → α → Bool) (acc : List α) (x : α) (j : Nat) (h : j ≤ acc.length) (hs : ∀ y ∈ acc.drop j, lt x y = true)
    (he : j = 0 ∨ ∃ y, acc[j - 1]? = some y ∧ lt x y = false) : ins lt acc x = bub acc x j := by
  unfold ins bub
  have e : acc.reverse = (acc.drop j).reverse ++ (acc.take j).reverse := by rw [← List.reverse_append, List.take_append_drop]
  rw [e, insR_skip lt x _ _ (fun y hy => hs y (by simpa using hy))]
  have : insR lt x (acc.take j).reverse = x :: (acc.take j).reverse := by
    rcases he with rfl | ⟨y, hy, hl⟩
    · simp [insR]
    · obtain ⟨hj, rfl⟩ := List.getElem?_eq_some_iff.1 hy
      rcases Nat.eq_zero_or_pos j with rfl | hp
      · simp [insR]
      · obtain ⟨i, rfl⟩ : ∃ i, j = i + 1 := ⟨j - 1, by omega⟩
        have e1 : acc.take (i + 1) = acc.take i ++ [acc[i]] := List.take_succ_eq_append_getElem (by omega)
        rw [e1, List.reverse_append]
        simp only [List.reverse_cons, List.reverse_nil, List.nil_append, List.cons_append, insR]
        simp only [Nat.add_sub_cancel] at hl
        rw [if_neg (by simp [hl])]
  rw [this]
  simp
theorem insR_length {α : Type} (lt : α → α → Bool) (x : α) : ∀ (l : List α), (insR lt x l).length = l.length + 1
  | [] => rfl
  | y :: l => by unfold insR; split <;> simp [insR_length lt x l]
theorem ins_length {α : Type} (lt : α → α → Bool) (acc : List α) (x : α) : (ins lt acc x).length = acc.length + 1 := by simp [ins, insR_length]
theorem isort_foldl_length {α : Type} (lt : α → α → Bool) : ∀ (xs acc : List α), (xs.foldl (ins lt) acc).length = acc.length + xs.length
  | [], acc => rfl
  | x :: xs, acc => by rw [List.foldl_cons, isort_foldl_length lt xs, ins_length, List.length_cons]; omega
theorem isort_length {α : Type} (lt : α → α → Bool) (xs : List α) : (isort lt xs).length = xs.length := by simp [isort, isort_foldl_length]
theorem mem_insR {α : Type} (lt : α → α → Bool) (x : α) : ∀ (l : List α) (y : α), y ∈ insR lt x l ↔ y = x ∨ y ∈ l
  | [], y => by simp [insR]
  | z :: l, y => by
    unfold insR
    split
    · simp only [List.mem_cons, mem_insR lt x l y]
      constructor
      · rintro (h | h | h) <;> simp [h]
      · rintro (h | h | h) <;> simp [h]
    · simp
theorem mem_ins {α : Type} (lt : α → α → Bool) (acc : List α) (x y : α) : y ∈ ins lt acc x ↔ y = x ∨ y ∈ acc := by simp [ins, mem_insR]
theorem mem_isort {α : Type} (lt : α → α → Bool) (xs : List α) (y : α) : y ∈ isort lt xs ↔ y ∈ xs := by
  have : ∀ (xs acc : List α), y ∈ xs.foldl (ins lt) acc ↔ y ∈ acc ∨ y ∈ xs := by
    intro xs
    induction xs with
    | nil => intro acc; simp
    | cons x xs ih =>
      intro acc
      rw [List.foldl_cons, ih, mem_ins, List.mem_cons]
      constructor
      · rintro ((h | h) | h) <;> simp [h]
      · rintro (h | h | h) <;> simp [h]
  simp [isort, this]
theorem isort_take_succ {α : Type} (lt : α → α → Bool) (xs : List α) (k : Nat) (x : α) (h : xs[k]? = some x) : isort lt (xs.take (k + 1)) = ins lt (isort lt (xs.take k)) x := foldl_take_succ _ _ _ _ _ h
end Go.Proofs.YtmmimbcfgobnaaaGreat
set_option linter.unusedSimpArgs false
namespace Go.Proofs.YtmmimbcfgobnaaaGreat

theorem Met.good_parts {m : Met} (h : m.good = true) : (1 ≤ m.places ∧ m.places ≤ 8) ∧ m.any.ok = true ∧ (0 ≤ m.wind ∧ m.wind ≤ 20000) ∧ (0 ≤ m.see ∧ m.see ≤ 20000) ∧ (0 ≤ m.ceil ∧ m.ceil ≤ 20000) ∧
    (∀ f ∈ m.fcs, Fc.ok m.places f = true) ∧ (∀ s ∈ m.sights, Sight.ok m.places s = true) := by
  unfold Met.good at h
  simp only [Bool.and_eq_true, decide_eq_true_eq, List.all_eq_true] at h
  obtain ⟨⟨⟨⟨⟨⟨⟨⟨h1, h2⟩, h3⟩, h4⟩, h5⟩, _⟩, h7⟩, _⟩, h9⟩ := h
  exact ⟨within_true.1 h1, h2, within_true.1 h3, within_true.1 h4, within_true.1 h5, h7, h9⟩
theorem Fc.ok_parts {p : Int} {f : Fc} (h : Fc.ok p f = true) : (0 ≤ f.place ∧ f.place ≤ p - 1) ∧ (0 ≤ f.fr ∧ f.fr < f.to ∧ f.to ≤ 2000) ∧ (0 ≤ f.issued ∧ f.issued ≤ 2000) ∧ f.sky.ok = true := by
  unfold Fc.ok at h
  simp only [Bool.and_eq_true, decide_eq_true_eq] at h
  exact ⟨within_true.1 h.1.1.1, h.1.1.2, within_true.1 h.1.2, h.2⟩
theorem Sight.ok_parts {p : Int} {s : Sight} (h : Sight.ok p s = true) : (0 ≤ s.place ∧ s.place ≤ p - 1) ∧ (0 ≤ s.at_ ∧ s.at_ ≤ 2000) ∧ (0 ≤ s.now.wind ∧ s.now.wind ≤ 300) ∧ (0 ≤ s.now.see ∧ s.now.see ≤ 20000) ∧ (0 ≤ s.now.ceil ∧ s.now.ceil ≤ 20000) := by
  unfold Sight.ok Wx.ok at h
  simp only [Bool.and_eq_true] at h
  exact ⟨within_true.1 h.1.1, within_true.1 h.1.2, within_true.1 h.2.1.1, within_true.1 h.2.1.2, within_true.1 h.2.2⟩
theorem Met.fc_eq {m : Met} {k : Nat} {x : Fc} (h : m.fcs[k]? = some x) : m.fc k = x := by simp [Met.fc, List.getD, h]
theorem Met.si_eq {m : Met} {k : Nat} {x : Sight} (h : m.sights[k]? = some x) : m.si k = x := by simp [Met.si, List.getD, h]
theorem Met.coversOf_eq {m : Met} {place tick : Int} {k : Nat} {x : Fc} (h : m.fcs[k]? = some x) : m.coversOf place tick k = (decide (x.place = place) && within tick x.fr (x.to - 1)) := by
  rw [Met.coversOf, Met.fc_eq h, Bool.eq_iff_iff]
  simp only [decide_eq_true_eq, Bool.and_eq_true, within_true]
  omega
theorem Met.seenOf_eq {m : Met} {place tick : Int} {k : Nat} {x : Sight} (h : m.sights[k]? = some x) : m.seenOf place tick k = (decide (x.place = place) && decide (x.at_ ≤ tick)) := by
  rw [Met.seenOf, Met.si_eq h, Bool.eq_iff_iff]
  simp
theorem Met.covers0_succ (m : Met) (place tick : Int) (k : Nat) : m.covers0 place tick (k + 1) = m.covers0 place tick k ++ if m.coversOf place tick k = true then [k] else [] := by
  unfold Met.covers0
  rw [List.range_succ, List.filter_append]
  congr 1
  simp only [List.filter_cons, List.filter_nil]
theorem Met.seen0_succ (m : Met) (place tick : Int) (k : Nat) : m.seen0 place tick (k + 1) = m.seen0 place tick k ++ if m.seenOf place tick k = true then [k] else [] := by
  unfold Met.seen0
  rw [List.range_succ, List.filter_append]
  congr 1
  simp only [List.filter_cons, List.filter_nil]
theorem Met.covers0_length (m : Met) (place tick : Int) (k : Nat) : (m.covers0 place tick k).length ≤ k := by
  unfold Met.covers0
  exact Nat.le_trans (List.length_filter_le _ _) (by simp)
theorem Met.seen0_length (m : Met) (place tick : Int) (k : Nat) : (m.seen0 place tick k).length ≤ k := by
  unfold Met.seen0
  exact Nat.le_trans (List.length_filter_le _ _) (by simp)
theorem Met.covers0_mem {m : Met} {place tick : Int} {k i : Nat} (h : i ∈ m.covers0 place tick k) : i < k := by
  unfold Met.covers0 at h
  simpa using (List.mem_filter.1 h).1
theorem Met.seen0_mem {m : Met} {place tick : Int} {k i : Nat} (h : i ∈ m.seen0 place tick k) : i < k := by
  unfold Met.seen0 at h
  simpa using (List.mem_filter.1 h).1
theorem prod_bd {n a : Int} (h0 : 0 ≤ n) (h1 : n ≤ 2000) (h2 : 0 ≤ a) (h3 : a ≤ 20000) : 0 ≤ n * a ∧ n * a ≤ 40000000 := by
  refine ⟨Int.mul_nonneg h0 h2, ?_⟩
  calc n * a ≤ 2000 * 20000 := Int.mul_le_mul h1 h3 h2 (by omega)
    _ = 40000000 := by decide
theorem Met.seen0_of {m : Met} {place tick : Int} {k i : Nat} (h : i ∈ m.seen0 place tick k) : m.seenOf place tick i = true := (List.mem_filter.1 h).2
theorem Met.siStep_eq {m : Met} {i : Nat} {x : Sight} (hx : m.si i = x) (tick : Int) (sk : Sky) : m.siStep tick sk i = if tick - x.at_ = 0 then { sk.cut (m.around tick x) with ice := x.now.ice, storm := x.now.storm } else sk.cut (m.around tick x) := by subst hx; rfl
end Go.Proofs.YtmmimbcfgobnaaaGreat
set_option linter.unusedSimpArgs false
namespace Go.Proofs.YtmmimbcfgobnaaaGreat

/-- A number for each two places. -/
abbrev Tab := Int → Int → Int
def Tab.set (f : Tab) (a b v : Int) : Tab := fun x y => if x = a ∧ y = b then v else f x y
def Tab.short (f : Tab) (a b v : Int) : Tab := if f a b < 0 ∨ v < f a b then f.set a b v else f
def Tab.leg (f : Tab) (x : Leg) : Tab := (f.short x.a x.b x.t).short x.b x.a x.t
def tab0 : Tab := fun _ _ => -1
def legTab (xs : List Leg) : Tab := xs.foldl Tab.leg tab0
def Tab.via (f : Tab) (c a b : Int) : Tab := if 0 ≤ f a c ∧ 0 ≤ f c b then f.short a b (f a c + f c b) else f
def Tab.viaB (f : Tab) (c a : Int) (n : Nat) : Tab := (List.range n).foldl (fun f (b : Nat) => f.via c a b) f
def Tab.viaA (n : Nat) (f : Tab) (c : Int) (k : Nat) : Tab := (List.range k).foldl (fun f (a : Nat) => f.viaB c a n) f
def Tab.fw (n : Nat) (f : Tab) (k : Nat) : Tab := (List.range k).foldl (fun f (c : Nat) => Tab.viaA n f c n) f
def Tab.diag (f : Tab) (k : Nat) : Tab := fun x y => if x = y ∧ 0 ≤ x ∧ x < k then 0 else f x y
/-- The times between n places. -/
def timesOf (n : Nat) (xs : List Leg) : Tab := Tab.fw n ((legTab xs).diag n) n

theorem Tab.viaB_succ (f : Tab) (c a : Int) (k : Nat) : f.viaB c a (k + 1) = (f.viaB c a k).via c a k := by simp [Tab.viaB, List.range_succ]
theorem Tab.viaA_succ (n : Nat) (f : Tab) (c : Int) (k : Nat) : Tab.viaA n f c (k + 1) = (Tab.viaA n f c k).viaB c k n := by simp [Tab.viaA, List.range_succ]
theorem Tab.fw_succ (n : Nat) (f : Tab) (k : Nat) : Tab.fw n f (k + 1) = Tab.viaA n (Tab.fw n f k) k n := by simp [Tab.fw, List.range_succ]
theorem Tab.diag_succ (f : Tab) (k : Nat) : f.diag (k + 1) = (f.diag k).set k k 0 := by
  funext x y
  simp only [Tab.diag, Tab.set]
  by_cases h1 : x = y <;> by_cases h2 : x = (k : Int)
  · rw [if_pos (by omega), if_pos (by omega)]
  · rw [if_neg (by omega : ¬ (x = (k : Int) ∧ y = (k : Int)))]
    by_cases h3 : x = y ∧ 0 ≤ x ∧ x < (k : Int)
    · rw [if_pos h3, if_pos (by omega)]
    · rw [if_neg h3, if_neg (by omega)]
  · rw [if_neg (by omega), if_neg (by omega), if_neg (by omega)]
  · rw [if_neg (by omega), if_neg (by omega), if_neg (by omega)]
theorem Tab.diag_zero (f : Tab) : f.diag 0 = f := by
  funext x y; unfold Tab.diag; rw [if_neg (by omega)]

/-- The table is -1 or a number up to B. -/
def Tab.upto (f : Tab) (B : Int) : Prop := ∀ x y, -1 ≤ f x y ∧ f x y ≤ B
theorem Tab.upto.short {f : Tab} {B : Int} (h : f.upto B) {a b v : Int} (h0 : 0 ≤ v) (h1 : v ≤ B) : (f.short a b v).upto B := by
  intro x y
  unfold Tab.short Tab.set
  split
  · dsimp only; split
    · omega
    · exact h x y
  · exact h x y
theorem Tab.upto.leg {f : Tab} {B : Int} (h : f.upto B) {x : Leg} (h0 : 0 ≤ x.t) (h1 : x.t ≤ B) : (f.leg x).upto B := (h.short h0 h1).short h0 h1
theorem tab0_upto (B : Int) (h : 0 ≤ B) : tab0.upto B := by intro x y; unfold tab0; omega
theorem Tab.upto.diag {f : Tab} {B : Int} (h : f.upto B) (h0 : 0 ≤ B) (k : Nat) : (f.diag k).upto B := by
  intro x y
  unfold Tab.diag
  split
  · omega
  · exact h x y
/-- Within the phase c: the row and the column c stand. -/
structure Tab.phase (n : Nat) (f : Tab) (c : Int) (B : Int) : Prop where
  all : f.upto (2 * B)
  row : ∀ b, f c b ≤ B
  col : ∀ a, f a c ≤ B
  dia : ∀ a : Int, 0 ≤ a → a < n → f a a = 0
theorem Tab.phase.via {n : Nat} {f : Tab} {c B : Int} (h : f.phase n c B) (hc : 0 ≤ c ∧ c < n) (a b : Int) (ha : 0 ≤ a ∧ a < n) (hb : 0 ≤ b ∧ b < n) : (f.via c a b).phase n c B := by
  unfold Tab.via
  split
  case isFalse => exact h
  rename_i h1
  have r1 := h.row b
  have r2 := h.col a
  have hcc := h.dia c hc.1 hc.2
  unfold Tab.short
  split
  case isFalse => exact h
  rename_i h2
  have nc : a ≠ c := by intro e; subst e; rw [hcc] at h2; omega
  have nb : b ≠ c := by intro e; subst e; rw [hcc] at h2; omega
  have nab : a ≠ b := by intro e; subst e; have := h.dia a ha.1 ha.2; omega
  refine ⟨fun x y => ?_, fun y => ?_, fun x => ?_, fun x hx0 hx1 => ?_⟩
  · unfold Tab.set; split
    · omega
    · exact h.all x y
  · unfold Tab.set; rw [if_neg (by omega)]; exact h.row y
  · unfold Tab.set; rw [if_neg (by omega)]; exact h.col x
  · unfold Tab.set; rw [if_neg (by omega)]; exact h.dia x hx0 hx1
theorem Tab.phase.viaB {n : Nat} {f : Tab} {c B : Int} (h : f.phase n c B) (hc : 0 ≤ c ∧ c < n) (a : Int) (ha : 0 ≤ a ∧ a < n) : ∀ k : Nat, k ≤ n → (f.viaB c a k).phase n c B
  | 0, _ => h
  | k + 1, hk => by rw [Tab.viaB_succ]; exact (Tab.phase.viaB h hc a ha k (by omega)).via hc a k ha (by omega)
theorem Tab.phase.viaA {n : Nat} {f : Tab} {c B : Int} (h : f.phase n c B) (hc : 0 ≤ c ∧ c < n) : ∀ k : Nat, k ≤ n → (Tab.viaA n f c k).phase n c B
  | 0, _ => h
  | k + 1, hk => by rw [Tab.viaA_succ]; exact (Tab.phase.viaA h hc k (by omega)).viaB hc k (by omega) n (Nat.le_refl _)
theorem Tab.phase.start {n : Nat} {f : Tab} {B : Int} (h : f.upto B) (h0 : 0 ≤ B) (hd : ∀ a : Int, 0 ≤ a → a < n → f a a = 0) (c : Int) : f.phase n c B :=
  ⟨fun x y => by have := h x y; omega, fun b => (h c b).2, fun a => (h a c).2, hd⟩
theorem Tab.fw_phase {n : Nat} {f : Tab} (h : f.upto 200) (hd : ∀ a : Int, 0 ≤ a → a < n → f a a = 0) : ∀ k : Nat, k ≤ n → (Tab.fw n f k).upto (200 * 2 ^ k) ∧ ∀ a : Int, 0 ≤ a → a < n → (Tab.fw n f k) a a = 0
  | 0, _ => ⟨by simp only [Int.pow_zero, Int.mul_one]; exact h, hd⟩
  | k + 1, hk => by
    obtain ⟨h1, h2⟩ := Tab.fw_phase h hd k (by omega)
    have h3 := Tab.phase.viaA (Tab.phase.start h1 (Int.mul_nonneg (by omega) (Int.pow_nonneg (by omega))) h2 k) (by omega) n (Nat.le_refl _)
    rw [Tab.fw_succ]
    refine ⟨fun x y => ?_, h3.dia⟩
    have := h3.all x y
    rw [Int.pow_succ]
    omega
theorem pow_bd {k : Nat} (h : k ≤ 8) : (200 : Int) * 2 ^ k ≤ 51200 ∧ 0 ≤ (200 : Int) * 2 ^ k := by
  rcases (show k = 0 ∨ k = 1 ∨ k = 2 ∨ k = 3 ∨ k = 4 ∨ k = 5 ∨ k = 6 ∨ k = 7 ∨ k = 8 by omega) with rfl | rfl | rfl | rfl | rfl | rfl | rfl | rfl | rfl <;> decide
def Leg.ok (places : Int) (x : Leg) : Bool := within x.a 0 (places - 1) && within x.b 0 (places - 1) && decide (x.a ≠ x.b) && within x.t 1 200
theorem Leg.ok_parts {p : Int} {x : Leg} (h : Leg.ok p x = true) : (0 ≤ x.a ∧ x.a ≤ p - 1) ∧ (0 ≤ x.b ∧ x.b ≤ p - 1) ∧ x.a ≠ x.b ∧ (1 ≤ x.t ∧ x.t ≤ 200) := by
  unfold Leg.ok at h
  simp only [Bool.and_eq_true, decide_eq_true_eq] at h
  exact ⟨within_true.1 h.1.1.1, within_true.1 h.1.1.2, h.1.2, within_true.1 h.2⟩
theorem foldl_leg_upto {p : Int} : ∀ (xs : List Leg) (f : Tab), (∀ x ∈ xs, Leg.ok p x = true) → f.upto 200 → (xs.foldl Tab.leg f).upto 200
  | [], f, _, h => h
  | x :: xs, f, hx, h => foldl_leg_upto xs _ (fun y hy => hx y (by simp [hy])) (h.leg (by have := Leg.ok_parts (hx x (by simp)); omega) (by have := Leg.ok_parts (hx x (by simp)); omega))
theorem legTab_upto {p : Int} {xs : List Leg} (h : ∀ x ∈ xs, Leg.ok p x = true) : (legTab xs).upto 200 := foldl_leg_upto xs _ h (tab0_upto 200 (by omega))
theorem timesOf_upto {n : Nat} {p : Int} {xs : List Leg} (hn : n ≤ 8) (h : ∀ x ∈ xs, Leg.ok p x = true) : (timesOf n xs).upto 51200 := by
  have := (Tab.fw_phase (n := n) ((legTab_upto h).diag (by omega) n) (fun a h0 h1 => by unfold Tab.diag; rw [if_pos ⟨rfl, h0, h1⟩]) n (Nat.le_refl _)).1
  intro x y
  have h1 := this x y
  have h2 := pow_bd hn
  unfold timesOf
  omega

/-! ### A flight -/
structure Net where
  met : Met
  net : List Leg
def Net.n (N : Net) : Nat := N.met.places.toNat
def Net.L (N : Net) : Tab := legTab N.net
def Net.T (N : Net) : Tab := timesOf N.n N.net
def Net.good (N : Net) : Bool := N.met.good && decide (N.net.length ≤ 20) && N.net.all (Leg.ok N.met.places)
def Net.check (N : Net) : Int := if N.met.good = true then (if (decide (N.net.length ≤ 20) && N.net.all (Leg.ok N.met.places)) = true then 0 else 50) else 40
/-- The errors of a met, minima (none: there are none) and a net. -/
def Net.checkL (N : Net) (l : Option Minima) : Int :=
  match l with
  | none => N.check
  | some l => if checkMinima N.met l = 0 then N.check else checkMinima N.met l

/-- When a flight is at the k-th place of its route. -/
def tickAt (L : Tab) (d : Int) (r : List Int) : Nat → Int
  | 0 => d
  | k + 1 => tickAt L d r k + L (r.getD k 0) (r.getD (k + 1) 0)
/-- The first k places follow one another along legs. -/
def joined (L : Tab) (r : List Int) : Nat → Bool
  | 0 => true
  | k + 1 => joined L r k && decide (0 ≤ L (r.getD k 0) (r.getD (k + 1) 0))
def Flight.at (f : Flight) (L : Tab) : Nat → Int := tickAt L f.depart f.route
def Flight.last (f : Flight) : Nat := f.route.length - 1
def Flight.arrival (f : Flight) (L : Tab) : Int := f.at L f.last
def Flight.plain (f : Flight) : Bool := decide (1 ≤ f.route.length ∧ f.route.length ≤ 8) && within f.depart 0 2000 && within f.fuel 0 100000 && within f.reserve 0 100000 && within f.burn 1 100000
def Flight.good (f : Flight) (places : Int) (L : Tab) : Bool := f.plain && f.route.all (fun p => within p 0 (places - 1)) && joined L f.route f.last && decide (f.arrival L ≤ 2000)
def Net.checkF (N : Net) (l : Option Minima) (f : Flight) : Int := if N.checkL l = 0 then (if f.good N.met.places N.L = true then 0 else 51) else N.checkL l
def Flight.atList (f : Flight) (L : Tab) (k : Nat) : List Int := (List.range k).map (f.at L)

/-- The last place up to i that the flight has reached up to a tick. -/
def backTo (a : Nat → Int) (tick : Int) : Nat → Nat
  | 0 => 0
  | i + 1 => if tick < a (i + 1) then backTo a tick i else i + 1
/-- When, and how, a flight can be at a place behind a tick; whether it can. -/
def reachP (T : Tab) (a : Nat → Int) (r : List Int) (n : Nat) (tick place : Int) : Haven × Bool :=
  let i := backTo a tick n
  let back : Haven := ⟨place, tick + (tick - a i) + T (r.getD i 0) place, decide (a i < tick)⟩
  if tick = a i then (back, decide (0 ≤ T (r.getD i 0) place))
  else
    let on : Haven := ⟨place, a (i + 1) + T (r.getD (i + 1) 0) place, false⟩
    if back.at_ < on.at_ then (back, decide (0 ≤ T (r.getD i 0) place)) else (on, decide (0 ≤ T (r.getD (i + 1) 0) place))
structure Plan where
  N : Net
  l : Minima
  f : Flight
def Plan.reach (P : Plan) (tick place : Int) : Haven × Bool := reachP P.N.T (P.f.at P.N.L) P.f.route P.f.last tick place
def Flight.lasts (f : Flight) (tick : Int) : Bool := decide (f.reserve ≤ f.fuel - f.burn * (tick - f.depart))
def Plan.opens (P : Plan) (h : Haven) : Bool := decide (h.at_ ≤ 2000) && decide ((P.N.met.opened P.l h.place h.at_).2 = 0) && (P.N.met.opened P.l h.place h.at_).1
def Plan.keeps (P : Plan) (tick : Int) (dry : Bool) (p : Nat) : Bool := (P.reach tick p).2 && P.opens (P.reach tick p).1 && (dry || P.f.lasts (P.reach tick p).1.at_)
def Plan.havens (P : Plan) (tick : Int) (dry : Bool) (k : Nat) : List Haven := ((List.range k).filter (P.keeps tick dry)).map fun p : Nat => (P.reach tick p).1
def Plan.all (P : Plan) (tick : Int) (dry : Bool) : List Haven := P.havens tick dry P.N.n
def sooner (m x : Haven) : Haven := if x.at_ < m.at_ then x else m
def z_hv : Haven := ⟨0, 0, false⟩
def bestOf (l : List Haven) : Haven := match l with
  | [] => z_hv
  | x :: t => t.foldl sooner x
def hasBest (l : List Haven) : Bool := !l.isEmpty
def Plan.safeAt (P : Plan) (dry : Bool) (k : Nat) : Bool := hasBest (P.all (P.f.depart + k) dry)
def Plan.bestAt (P : Plan) (dry : Bool) (k : Nat) : Haven := bestOf (P.all (P.f.depart + k) dry)
/-- How many ticks the flight takes, with the first and the last one. -/
def Plan.ticks (P : Plan) : Nat := (P.f.arrival P.N.L - P.f.depart + 1).toNat
def Plan.safeTo (P : Plan) (dry : Bool) (k : Nat) : Bool := (List.range k).all (P.safeAt dry)
def Plan.proofTo (P : Plan) (dry : Bool) (k : Nat) : List Haven := (List.range k).map (P.bestAt dry)
def Plan.mostTo (P : Plan) : Nat → Int
  | 0 => 0
  | k + 1 => mx (P.mostTo k) (P.f.reserve + P.f.burn * ((P.bestAt true k).at_ - P.f.depart))
end Go.Proofs.YtmmimbcfgobnaaaGreat
set_option linter.unusedSimpArgs false
namespace Go.Proofs.YtmmimbcfgobnaaaGreat

def Tab.comb (f : Tab) (c a b : Int) : Int := if (0 ≤ f a c ∧ 0 ≤ f c b) ∧ (f a b < 0 ∨ f a c + f c b < f a b) then f a c + f c b else f a b
theorem Tab.via_at (f : Tab) (c a b x y : Int) : (f.via c a b) x y = if x = a ∧ y = b then f.comb c a b else f x y := by
  unfold Tab.via Tab.short Tab.set Tab.comb
  by_cases h : x = a ∧ y = b
  · obtain ⟨rfl, rfl⟩ := h
    by_cases h1 : 0 ≤ f x c ∧ 0 ≤ f c y
    · by_cases h2 : f x y < 0 ∨ f x c + f c y < f x y
      · simp only [h1, h2, and_self, if_true]
      · simp only [h1, h2, and_false, if_false, if_true, and_self]
    · simp only [h1, false_and, if_false, if_true, and_self]
  · by_cases h1 : 0 ≤ f a c ∧ 0 ≤ f c b
    · by_cases h2 : f a b < 0 ∨ f a c + f c b < f a b
      · rw [if_pos h1, if_pos h2, if_neg h, if_neg h]
      · rw [if_pos h1, if_neg h2, if_neg h]
    · rw [if_neg h1, if_neg h]
theorem Tab.comb_row {f : Tab} {c : Int} (h : f c c = 0) (b : Int) : f.comb c c b = f c b := by
  unfold Tab.comb; split <;> omega
theorem Tab.comb_col {f : Tab} {c : Int} (h : f c c = 0) (a : Int) : f.comb c a c = f a c := by
  unfold Tab.comb; split <;> omega
theorem Tab.viaB_at {f : Tab} {c : Int} (h : f c c = 0) (a : Int) : ∀ (m : Nat) (x y : Int), (f.viaB c a m) x y = if x = a ∧ 0 ≤ y ∧ y < m then f.comb c a y else f x y
  | 0, x, y => by rw [if_neg (by omega)]; rfl
  | m + 1, x, y => by
    have e1 : (f.viaB c a m) a c = f a c := by
      rw [Tab.viaB_at h a m]; split
      · exact Tab.comb_col h a
      · rfl
    have e2 : (f.viaB c a m) c m = f c m := by rw [Tab.viaB_at h a m, if_neg (by omega)]
    have e3 : (f.viaB c a m) a m = f a m := by rw [Tab.viaB_at h a m, if_neg (by omega)]
    have e4 : (f.viaB c a m).comb c a m = f.comb c a m := by unfold Tab.comb; rw [e1, e2, e3]
    rw [Tab.viaB_succ, Tab.via_at, e4]
    by_cases hx : x = a ∧ y = (m : Int)
    · rw [if_pos hx, if_pos (by omega), hx.2]
    · rw [if_neg hx, Tab.viaB_at h a m]
      by_cases hy : x = a ∧ 0 ≤ y ∧ y < (m : Int)
      · rw [if_pos hy, if_pos (by omega)]
      · rw [if_neg hy, if_neg (by omega)]
theorem Tab.viaA_at {f : Tab} {c : Int} (h : f c c = 0) (n : Nat) : ∀ (k : Nat) (x y : Int), (Tab.viaA n f c k) x y = if (0 ≤ x ∧ x < k) ∧ 0 ≤ y ∧ y < n then f.comb c x y else f x y
  | 0, x, y => by rw [if_neg (by omega)]; rfl
  | k + 1, x, y => by
    have hcol : ∀ x, (Tab.viaA n f c k) x c = f x c := fun x => by
      rw [Tab.viaA_at h n k]; split
      · exact Tab.comb_col h x
      · rfl
    have hrow : ∀ y, (Tab.viaA n f c k) c y = f c y := fun y => by
      rw [Tab.viaA_at h n k]; split
      · exact Tab.comb_row h y
      · rfl
    have hk : ∀ y, (Tab.viaA n f c k) k y = f k y := fun y => by rw [Tab.viaA_at h n k, if_neg (by omega)]
    have hc : ∀ y, (Tab.viaA n f c k).comb c k y = f.comb c k y := fun y => by unfold Tab.comb; rw [hk, hk, hrow]
    rw [Tab.viaA_succ, Tab.viaB_at (by rw [hcol]; exact h), hc]
    by_cases hx : x = (k : Int) ∧ 0 ≤ y ∧ y < (n : Int)
    · rw [if_pos hx, if_pos (by omega), hx.1]
    · rw [if_neg hx, Tab.viaA_at h n k]
      by_cases hy : (0 ≤ x ∧ x < (k : Int)) ∧ 0 ≤ y ∧ y < (n : Int)
      · rw [if_pos hy, if_pos (by omega)]
      · rw [if_neg hy, if_neg (by omega)]
/-- A table of times so far: the triangles by way of the places ahead of k hold. -/
structure Tab.metric (n : Nat) (g f : Tab) (k : Nat) : Prop where
  low : ∀ a b, -1 ≤ f a b
  sym : ∀ a b : Int, 0 ≤ a ∧ a < n → 0 ≤ b ∧ b < n → f a b = f b a
  dia : ∀ a : Int, 0 ≤ a ∧ a < n → f a a = 0
  pos : ∀ a b : Int, 0 ≤ a ∧ a < n → 0 ≤ b ∧ b < n → a ≠ b → f a b ≠ 0
  leg : ∀ a b : Int, 0 ≤ a ∧ a < n → 0 ≤ b ∧ b < n → 0 ≤ g a b → 0 ≤ f a b ∧ f a b ≤ g a b
  tri : ∀ a b c : Int, 0 ≤ a ∧ a < n → 0 ≤ b ∧ b < n → 0 ≤ c ∧ c < k → 0 ≤ f a c → 0 ≤ f c b → 0 ≤ f a b ∧ f a b ≤ f a c + f c b
theorem Tab.comb_le {f : Tab} {c a b : Int} (_ : -1 ≤ f a b) (h : 0 ≤ f a b) : 0 ≤ f.comb c a b ∧ f.comb c a b ≤ f a b := by
  unfold Tab.comb; split <;> omega
theorem Tab.comb_way {f : Tab} {c a b : Int} (h1 : 0 ≤ f a c) (h2 : 0 ≤ f c b) : 0 ≤ f.comb c a b ∧ f.comb c a b ≤ f a c + f c b := by
  unfold Tab.comb; split <;> omega
theorem Tab.comb_or {f : Tab} {c a b : Int} : f.comb c a b = f a b ∨ (f.comb c a b = f a c + f c b ∧ 0 ≤ f a c ∧ 0 ≤ f c b) := by
  unfold Tab.comb; split
  · right; omega
  · left; rfl
theorem Tab.metric.step {n : Nat} {g f : Tab} {k : Nat} (h : Tab.metric n g f k) (hk : k < n) : Tab.metric n g (Tab.viaA n f k n) (k + 1) := by
  have hc : (0 : Int) ≤ (k : Int) ∧ (k : Int) < n := by omega
  have hd := h.dia k hc
  have e : ∀ a b : Int, 0 ≤ a ∧ a < n → 0 ≤ b ∧ b < n → (Tab.viaA n f k n) a b = f.comb k a b := fun a b ha hb => by
    rw [Tab.viaA_at hd, if_pos ⟨ha, hb⟩]
  refine ⟨fun a b => ?_, fun a b ha hb => ?_, fun a ha => ?_, fun a b ha hb hne => ?_, fun a b ha hb hg => ?_, fun a b c ha hb hcc h1 h2 => ?_⟩
  · rw [Tab.viaA_at hd]
    have := h.low a b
    split
    · rcases Tab.comb_or (f := f) (c := k) (a := a) (b := b) with e | ⟨e, _⟩ <;> omega
    · exact this
  · rw [e a b ha hb, e b a hb ha]
    have s1 := h.sym a b ha hb
    have s2 := h.sym a k ha hc
    have s3 := h.sym k b hc hb
    unfold Tab.comb
    rw [s1, s2, s3]
    by_cases q : (0 ≤ f b k ∧ 0 ≤ f k a) ∧ (f b a < 0 ∨ f b k + f k a < f b a)
    · rw [if_pos q, if_pos (by omega)]; omega
    · rw [if_neg q, if_neg (by omega)]
  · rw [e a a ha ha]
    have := h.dia a ha
    unfold Tab.comb
    rw [if_neg (by omega)]
    exact this
  · rw [e a b ha hb]
    have p1 := h.pos a b ha hb hne
    rcases Tab.comb_or (f := f) (c := k) (a := a) (b := b) with e | ⟨e, q1, q2⟩
    · omega
    · by_cases hak : a = k
      · subst hak
        have := h.pos k b hc hb (by omega)
        omega
      · have := h.pos a k ha hc hak
        omega
  · rw [e a b ha hb]
    have l := h.leg a b ha hb hg
    have := Tab.comb_le (c := (k : Int)) (h.low a b) l.1
    omega
  · have hc2 : 0 ≤ c ∧ c < n := by omega
    rw [e a c ha hc2] at h1 ⊢
    rw [e c b hc2 hb] at h2 ⊢
    rw [e a b ha hb]
    by_cases hck : c = k
    · subst hck
      rw [Tab.comb_col hd] at h1 ⊢
      rw [Tab.comb_row hd] at h2 ⊢
      exact Tab.comb_way h1 h2
    · have hcl : 0 ≤ c ∧ c < (k : Int) := by omega
      rcases Tab.comb_or (f := f) (c := k) (a := a) (b := c) with e1 | ⟨e1, q1, q2⟩ <;> rcases Tab.comb_or (f := f) (c := k) (a := c) (b := b) with e2 | ⟨e2, q3, q4⟩
      · have t := h.tri a b c ha hb hcl (by omega) (by omega)
        have := Tab.comb_le (c := (k : Int)) (h.low a b) t.1
        omega
      · have t := h.tri a k c ha hc hcl (by omega) (by omega)
        have := Tab.comb_way (f := f) (c := (k : Int)) (a := a) (b := b) (by omega) (by omega)
        omega
      · have t := h.tri k b c hc hb hcl (by omega) (by omega)
        have := Tab.comb_way (f := f) (c := (k : Int)) (a := a) (b := b) (by omega) (by omega)
        omega
      · have := Tab.comb_way (f := f) (c := (k : Int)) (a := a) (b := b) (by omega) (by omega)
        omega
theorem Tab.fw_metric {n : Nat} {g f : Tab} (h : Tab.metric n g f 0) : ∀ k, k ≤ n → Tab.metric n g (Tab.fw n f k) k
  | 0, _ => h
  | k + 1, hk => by rw [Tab.fw_succ]; exact (Tab.fw_metric h k (by omega)).step (by omega)
end Go.Proofs.YtmmimbcfgobnaaaGreat
