/- Plain laws on lists: sorting by insertion from behind, step by step. -/
import Derived.Test.YtmmimbcfgobnaaaGreatD0
namespace Go.Proofs.YtmmimbcfgobnaaaGreat

/-- x stands at place j of acc, what was there and behind it is moved up. -/
def bub {α : Type} (acc : List α) (x : α) (j : Nat) : List α := acc.take j ++ x :: acc.drop j
theorem bub_length {α : Type} (acc : List α) (x : α) (j : Nat) (h : j ≤ acc.length) : (bub acc x j).length = acc.length + 1 := by
  simp [bub]; omega
theorem bub_end {α : Type} (acc : List α) (x : α) : bub acc x acc.length = acc ++ [x] := by simp [bub]
theorem bub_at {α : Type} (acc : List α) (x : α) (j : Nat) (h : j ≤ acc.length) : (bub acc x j)[j]? = some x := by
  simp [bub, List.getElem?_append_right, Nat.min_eq_left h]
theorem bub_before {α : Type} (acc : List α) (x : α) (j : Nat) (h : j ≤ acc.length) (h0 : 0 < j) : (bub acc x j)[j - 1]? = acc[j - 1]? := by
  rw [bub, List.getElem?_append_left (by simp; omega), List.getElem?_take_of_lt (by omega)]
theorem set_swap {α : Type} (A B : List α) (p x : α) : ((A ++ p :: x :: B).set (A.length + 1) p).set A.length x = A ++ x :: p :: B := by
  induction A with
  | nil => rfl
  | cons a A ih => simp only [List.cons_append, List.length_cons, List.set_cons_succ, ih]
theorem bub_swap {α : Type} (acc rest : List α) (x p : α) (j : Nat) (h : j ≤ acc.length) (h0 : 0 < j) (hp : acc[j - 1]? = some p) :
    (((bub acc x j) ++ rest).set j p).set (j - 1) x = bub acc x (j - 1) ++ rest := by
  obtain ⟨hj, rfl⟩ := List.getElem?_eq_some_iff.1 hp
  obtain ⟨i, rfl⟩ : ∃ i, j = i + 1 := ⟨j - 1, by omega⟩
  have e1 : acc.take (i + 1) = acc.take i ++ [acc[i]] := List.take_succ_eq_append_getElem (by omega)
  have e2 : acc.drop i = acc[i] :: acc.drop (i + 1) := List.drop_eq_getElem_cons (by omega)
  have hl : (acc.take i).length = i := by simp; omega
  have := set_swap (acc.take i) (acc.drop (i + 1) ++ rest) acc[i] x
  rw [hl] at this
  simp only [bub, Nat.add_sub_cancel, e1, e2, List.append_assoc, List.cons_append, List.nil_append]
  exact this

theorem insR_skip {α : Type} (lt : α → α → Bool) (x : α) : ∀ (s p : List α), (∀ y ∈ s, lt x y = true) → insR lt x (s ++ p) = s ++ insR lt x p
  | [], p, _ => rfl
  | y :: s, p, h => by
    have hy := h y (by simp)
    simp only [List.cons_append, insR, hy, if_true]
    rw [insR_skip lt x s p (fun z hz => h z (by simp [hz]))]
theorem ins_stop {α : Type} (lt : α → α → Bool) (acc : List α) (x : α) (j : Nat) (h : j ≤ acc.length) (hs : ∀ y ∈ acc.drop j, lt x y = true)
    (he : j = 0 ∨ ∃ y, acc[j - 1]? = some y ∧ lt x y = false) : ins lt acc x = bub acc x j := by
  unfold ins bub
  have e : acc.reverse = (acc.drop j).reverse ++ (acc.take j).reverse := by rw [← List.reverse_append, List.take_append_drop]
  rw [e, insR_skip lt x _ _ (fun y hy => hs y (by simpa using hy))]
  have : insR lt x (acc.take j).reverse = x :: (acc.take j).reverse := by
    rcases he with rfl | ⟨y, hy, hl⟩
    · simp [insR]
    · obtain ⟨hj, rfl⟩ := List.getElem?_eq_some_iff.1 hy
      rcases Nat.eq_zero_or_pos j with rfl | hp
      · simp [insR]
      · obtain ⟨i, rfl⟩ : ∃ i, j = i + 1 := ⟨j - 1, by omega⟩
        have e1 : acc.take (i + 1) = acc.take i ++ [acc[i]] := List.take_succ_eq_append_getElem (by omega)
        rw [e1, List.reverse_append]
        simp only [List.reverse_cons, List.reverse_nil, List.nil_append, List.cons_append, insR]
        simp only [Nat.add_sub_cancel] at hl
        rw [if_neg (by simp [hl])]
  rw [this]
  simp
theorem insR_length {α : Type} (lt : α → α → Bool) (x : α) : ∀ (l : List α), (insR lt x l).length = l.length + 1
  | [] => rfl
  | y :: l => by unfold insR; split <;> simp [insR_length lt x l]
theorem ins_length {α : Type} (lt : α → α → Bool) (acc : List α) (x : α) : (ins lt acc x).length = acc.length + 1 := by simp [ins, insR_length]
theorem isort_foldl_length {α : Type} (lt : α → α → Bool) : ∀ (xs acc : List α), (xs.foldl (ins lt) acc).length = acc.length + xs.length
  | [], acc => rfl
  | x :: xs, acc => by rw [List.foldl_cons, isort_foldl_length lt xs, ins_length, List.length_cons]; omega
theorem isort_length {α : Type} (lt : α → α → Bool) (xs : List α) : (isort lt xs).length = xs.length := by simp [isort, isort_foldl_length]
theorem mem_insR {α : Type} (lt : α → α → Bool) (x : α) : ∀ (l : List α) (y : α), y ∈ insR lt x l ↔ y = x ∨ y ∈ l
  | [], y => by simp [insR]
  | z :: l, y => by
    unfold insR
    split
    · simp only [List.mem_cons, mem_insR lt x l y]
      constructor
      · rintro (h | h | h) <;> simp [h]
      · rintro (h | h | h) <;> simp [h]
    · simp
theorem mem_ins {α : Type} (lt : α → α → Bool) (acc : List α) (x y : α) : y ∈ ins lt acc x ↔ y = x ∨ y ∈ acc := by simp [ins, mem_insR]
theorem mem_isort {α : Type} (lt : α → α → Bool) (xs : List α) (y : α) : y ∈ isort lt xs ↔ y ∈ xs := by
  have : ∀ (xs acc : List α), y ∈ xs.foldl (ins lt) acc ↔ y ∈ acc ∨ y ∈ xs := by
    intro xs
    induction xs with
    | nil => intro acc; simp
    | cons x xs ih =>
      intro acc
      rw [List.foldl_cons, ih, mem_ins, List.mem_cons]
      constructor
      · rintro ((h | h) | h) <;> simp [h]
      · rintro (h | h | h) <;> simp [h]
  simp [isort, this]
theorem isort_take_succ {α : Type} (lt : α → α → Bool) (xs : List α) (k : Nat) (x : α) (h : xs[k]? = some x) : isort lt (xs.take (k + 1)) = ins lt (isort lt (xs.take k)) x := foldl_take_succ _ _ _ _ _ h
end Go.Proofs.YtmmimbcfgobnaaaGreat
