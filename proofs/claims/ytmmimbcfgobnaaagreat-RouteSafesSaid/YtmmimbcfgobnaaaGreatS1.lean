/- Contracts of package spans (and of its reference) as far as the weather calls it.  -/
import Derived.Test.YtmmimbcfgobnaaaGreatB0
set_option linter.unusedVariables false
set_option linter.unusedSimpArgs false
namespace Go.Proofs.YtmmimbcfgobnaaaGreat
open Go.RowKit
set_option linter.unusedVariables false
set_option linter.unusedSimpArgs false

theorem within_182 (n lo hi : Int) (w : World) : Calls Tryz.prog 182 #[.int .i64 n, .int .i64 lo, .int .i64 hi] w fun e w' => e = .returned (.bool (within n lo hi)) ∧ w = w' := by
  unfold within
  go_enter Tryz.func182, Tryz.ntmps182
  go_wp2
  all_goals
    go_ret
    exact ⟨by first | rfl | (simp [*]; done) | (simp; omega), rfl⟩
theorem within_105 (n lo hi : Int) (w : World) : Calls Tryz.prog 105 #[.int .i64 n, .int .i64 lo, .int .i64 hi] w fun e w' => e = .returned (.bool (within n lo hi)) ∧ w = w' := by
  unfold within
  go_enter Tryz.func105, Tryz.ntmps105
  go_wp2
  all_goals
    go_ret
    exact ⟨by first | rfl | (simp [*]; done) | (simp; omega), rfl⟩

set_option maxRecDepth 100000 in
theorem valid_186 (x : Span) (w : World) : Calls Tryz.prog 186 #[x.val] w fun e w' => e = .returned (.bool x.valid) ∧ Ext w w' := by
  simp only [Span.val]
  go_enter Tryz.func186, Tryz.ntmps186
  go_wp2_with (go_at_call 182; refine (within_182 _ _ _ _).mono ?_; rintro e1 w1 ⟨rfl, rfl⟩)
  all_goals
    go_ret
    exact ⟨by simp [Span.valid, *], (Ext.refl w).alloc _⟩

set_option maxRecDepth 100000 in
theorem spanned1_185 (x : Span) (w : World) : Calls Tryz.prog 185 #[x.val] w fun e w' => e = .returned (.bool (!x.valid)) ∧ Ext w w' := by
  simp only [Span.val]
  go_enter Tryz.func185, Tryz.ntmps185
  go_wp2_with (go_at_call 186; refine (valid_186 x _).mono ?_; rintro e1 w1 ⟨rfl, hb1⟩)
  go_ret
  exact ⟨by first | rfl | simp, ((Ext.refl w).alloc _).trans hb1⟩

set_option maxHeartbeats 1000000 in
set_option maxRecDepth 100000 in
theorem index_189 (xs : List Span) (A : Option Addr) (n c : Nat) (w : World) (hn : Rows 2 Span.enc w A n xs) :
    Calls Tryz.prog 189 #[.slice A n c, .func (.func 185) #[] #[]] w fun e w' => e = .returned (.int .i64 (idxOf (fun x => !x.valid) xs)) ∧ Ext w w' := by
  have hlen := hn.len
  have hsm := hn.small
  go_enter Tryz.func189, Tryz.ntmps189
  go_wp2
  go_loopw [5, 8] (fun _ i wr => ∃ k : Nat, k ≤ n ∧ i = .int .i64 k ∧ (xs.take k).any (fun x => !x.valid) = false ∧ Ext w wr) (fun _ i _ => n - (intOf i).toNat)
  case atStart => exact ⟨0, Nat.zero_le _, rfl, rfl, Ext.refl _⟩
  case round =>
    obtain ⟨k, hk, rfl, ha, he⟩ := hrel
    by_cases hlt : k < n
    · obtain ⟨x, hx⟩ : ∃ x, xs[k]? = some x := ⟨_, List.getElem?_eq_getElem (by omega)⟩
      obtain ⟨b0, off, rfl, hb0, h0, h1⟩ := (hn.ext he).span hlt hx
      have hs := Lib.hid (any_take_succ (fun x : Span => !x.valid) x xs k hx)
      have hat := Lib.hid (idxOf_at (fun x : Span => !x.valid) x xs k ha hx)
      have ha := Lib.hid ha
      clear hx hn hlen
      go_wp2_with (go_at_call 185; refine (spanned1_185 x _).mono ?_; rintro e1 w1 ⟨rfl, hb1⟩)
      · go_ret
        exact ⟨ret_int (hat.out (by simp [*])).symm, he.trans hb1⟩
      · go_roundw
        case rel => exact ⟨k + 1, by omega, by go_num, by rw [hs.out, ha.out]; simp [*], he.trans hb1⟩
        case measure => simp [intOf]; omega
    · have := Lib.hid (idxOf_none (fun x : Span => !x.valid) xs (by rw [← any_take_all _ xs k (by omega)]; exact ha))
      clear ha
      go_wp2
      go_ret
      exact ⟨ret_int this.out.symm, he⟩

set_option maxRecDepth 100000 in
theorem contains_184 (xs : List Span) (A : Option Addr) (n c : Nat) (w : World) (hn : Rows 2 Span.enc w A n xs) :
    Calls Tryz.prog 184 #[.slice A n c, .func (.func 185) #[] #[]] w fun e w' => e = .returned (.bool (xs.any fun x => !x.valid)) ∧ Ext w w' := by
  go_enter Tryz.func184, Tryz.ntmps184
  go_wp2_with (go_at_call 189; refine (index_189 xs A n c _ hn).mono ?_; rintro e1 w1 ⟨rfl, hb1⟩)
  go_ret
  exact ⟨ret_bool (idxOf_any _ xs), hb1⟩

def spanned (xs : List Span) : Int := if (xs.any fun x => !x.valid) = true then 10 else 0
set_option maxRecDepth 100000 in
theorem spanned_175 (xs : List Span) (A : Option Addr) (n c : Nat) (w : World) (hn : Rows 2 Span.enc w A n xs) :
    Calls Tryz.prog 175 #[.slice A n c] w fun e w' => e = .returned (.int .i64 (spanned xs)) ∧ Ext w w' := by
  go_enter Tryz.func175, Tryz.ntmps175
  go_wp2_with (go_at_call 184; refine (contains_184 xs A n c _ hn).mono ?_; rintro e1 w1 ⟨rfl, hb1⟩)
  all_goals
    go_ret
    exact ⟨ret_int (by simp [spanned, *]), hb1⟩

def Span.err (x : Span) : Int := if x.valid = true then 0 else 10
set_option maxRecDepth 100000 in
theorem check_171 (x : Span) (b : Nat) (w : World) (hb : b < w.heap.size) (h0 : w.cell? ⟨b, 0, none⟩ = some (.int .i64 x.lo)) (h1 : w.cell? ⟨b, 1, none⟩ = some (.int .i64 x.hi)) :
    Calls Tryz.prog 171 #[.slice (some ⟨b, 0, none⟩) 1 1] w fun e w' => e = .returned (.int .i64 x.err) ∧ Ext w w' := by
  have hr : Rows 2 Span.enc w (some ⟨b, 0, none⟩) 1 [x] := ⟨rfl, by omega, fun _ => ⟨b, 0, rfl, hb, fun j hj i hi => by
    have hj0 : j = 0 := by simp at hj; exact hj
    subst hj0
    match i, hi with
    | 0, _ => exact h0
    | 1, _ => exact h1⟩⟩
  have hw : within 1 1 3 = true := rfl
  go_enter Tryz.func171, Tryz.ntmps171
  go_wp2_with (first | (go_at_call 182; refine (within_182 _ _ _ _).mono ?_; rintro e1 w1 ⟨rfl, rfl⟩) | (go_at_call 175; refine (spanned_175 [x] _ _ _ _ hr).mono ?_; rintro e1 w1 ⟨rfl, hb1⟩))
  go_ret
  exact ⟨ret_int (by cases h : x.valid <;> simp [spanned, Span.err, h]), hb1⟩

/-- weather.inside -/
def inside (x : Span) (most : Int) : Bool := decide (x.err = 0) && within x.lo 0 most && decide (x.hi ≤ most)
set_option maxRecDepth 100000 in
theorem inside_142 (x : Span) (most : Int) (w : World) : Calls Tryz.prog 142 #[x.val, .int .i64 most] w fun e w' => e = .returned (.bool (inside x most)) ∧ Ext w w' := by
  simp only [Span.val]
  go_enter Tryz.func142, Tryz.ntmps142
  go_wp2_with fail
  refine (check_171 x _ _ (by simp) (by go_simp) (by go_simp)).mono ?_
  rintro e1 w1 ⟨rfl, hb1⟩
  obtain ⟨hc1, hf1, hz1⟩ := hb1.cells
  go_wp2_with (go_at_call 105; refine (within_105 _ _ _ _).mono ?_; rintro e1 w1 ⟨rfl, rfl⟩)
  all_goals
    go_ret
    exact ⟨by simp [inside, *], (((Ext.refl w).alloc _).alloc _).trans hb1⟩
theorem inside_ok (x : Span) (most : Int) (h : most ≤ 1000000) : inside x most = x.ok most := by
  unfold inside Span.ok Span.err Span.valid
  rw [Bool.eq_iff_iff]
  simp only [Bool.and_eq_true, decide_eq_true_eq, within_true]
  constructor
  · rintro ⟨⟨h1, h2⟩, h3⟩
    split at h1
    · omega
    · omega
  · intro h1
    rw [if_pos (by omega)]
    omega

set_option maxRecDepth 100000 in
theorem sky_123 (x : Sky) (w : World) : Calls Tryz.prog 123 #[x.val] w fun e' w' => e' = .returned (.bool x.ok) ∧ Ext w w' := by
  simp only [Sky.val]
  go_enter Tryz.func123, Tryz.ntmps123
  go_wp2_with (go_at_call 142; refine (inside_142 _ _ _).mono ?_; rintro e1 w1 ⟨rfl, hb1⟩; obtain ⟨hc1, hf1, hz1⟩ := hb1.cells)
  all_goals
    go_ret
    exact ⟨by simp [Sky.ok, ← inside_ok, *], by (repeat first | assumption | refine Ext.trans ?_ (by assumption) | refine Ext.alloc ?_ _ | exact Ext.refl _)⟩
end Go.Proofs.YtmmimbcfgobnaaaGreat
namespace Go.Proofs.YtmmimbcfgobnaaaGreat
open Go.RowKit
set_option linter.unusedVariables false
set_option linter.unusedSimpArgs false
attribute [local go_sem] stored_match isSome_setCell

theorem spanned_two (a b : Span) : spanned [a, b] = if (a.valid && b.valid) = true then 0 else 10 := by
  unfold spanned
  cases ha : a.valid <;> cases hb : b.valid <;> simp [ha, hb]
theorem Rows.two {w : World} {b : Nat} {x y : Span} (hb : b < w.heap.size) (h0 : w.cell? ⟨b, 0, none⟩ = some (.int .i64 x.lo)) (h1 : w.cell? ⟨b, 1, none⟩ = some (.int .i64 x.hi)) (h2 : w.cell? ⟨b, 2, none⟩ = some (.int .i64 y.lo)) (h3 : w.cell? ⟨b, 3, none⟩ = some (.int .i64 y.hi)) :
    Rows 2 Span.enc w (some ⟨b, 0, none⟩) 2 [x, y] := ⟨rfl, by omega, fun _ => ⟨b, 0, rfl, hb, fun j hj i hi => by
    have hj0 : j = 0 ∨ j = 1 := by simp at hj; omega
    rcases hj0 with rfl | rfl
    · match i, hi with
      | 0, _ => exact h0
      | 1, _ => exact h1
    · match i, hi with
      | 0, _ => exact h2
      | 1, _ => exact h3⟩⟩

theorem meet_none {a b : Span} (hv : (a.valid && b.valid) = true) (h : mn a.hi b.hi < mx a.lo b.lo) : meet a b = (⟨0, 0⟩, 3) := by unfold meet; rw [if_pos hv, if_pos h]
theorem meet_some {a b : Span} (hv : (a.valid && b.valid) = true) (h : mx a.lo b.lo ≤ mn a.hi b.hi) : meet a b = (⟨mx a.lo b.lo, mn a.hi b.hi⟩, 0) := by unfold meet; rw [if_pos hv, if_neg (by omega)]
theorem meet_bad {a b : Span} (hv : ¬ (a.valid && b.valid) = true) : meet a b = (⟨0, 0⟩, 10) := by unfold meet; rw [if_neg hv]

set_option maxRecDepth 100000 in
set_option maxHeartbeats 2000000 in
theorem meet_154 (a b : Span) (w : World) : Calls Tryz.prog 154 #[a.val, b.val] w fun e w' => e = .returned (.tuple #[(meet a b).1.val, .int .i64 (meet a b).2]) ∧ Ext w w' := by
  simp only [Span.val]
  have hs := spanned_two a b
  by_cases hv : (a.valid && b.valid) = true
  · rw [if_pos hv] at hs
    have hv := Lib.hid hv
    by_cases h1 : a.lo < b.lo <;> by_cases h2 : b.hi < a.hi
    all_goals


      go_enter Tryz.func154, Tryz.ntmps154
      go_wp2_with fail
      refine (spanned_175 [a, b] _ _ _ _ (Rows.two (by simp) (by go_simp) (by go_simp) (by go_simp) (by go_simp))).mono ?_
      rintro e1 w1 ⟨rfl, hb1⟩
      obtain ⟨hc1, hf1, hz1⟩ := hb1.cells
      go_wp2_with fail
      go_quiet (fail)
      go_wp2
    all_goals
      refine bodyPost_ret (v := .tuple #[(meet a b).1.val, .int .i64 (meet a b).2]) ?_ rfl ⟨rfl, (by with_reducible (repeat first | assumption | exact Ext.refl _ | refine Ext.set ?_ (by omega) _ | refine Ext.alloc ?_ _ | refine Ext.drew ?_ | refine Ext.drewN ?_ _ | refine Ext.trans ?_ (by assumption)))⟩
      first | rw [meet_none hv.out (by simp only [mx, mn]; omega)] | rw [meet_some hv.out (by simp only [mx, mn]; omega)]
      first | (simp [results, go_sem, mx, mn, *]; done) | (simp [results, go_sem, mx, mn, *]; omega)
  · rw [if_neg hv] at hs
    have hv := Lib.hid hv
    go_enter Tryz.func154, Tryz.ntmps154
    go_wp2_with fail
    refine (spanned_175 [a, b] _ _ _ _ (Rows.two (by simp) (by go_simp) (by go_simp) (by go_simp) (by go_simp))).mono ?_
    rintro e1 w1 ⟨rfl, hb1⟩
    obtain ⟨hc1, hf1, hz1⟩ := hb1.cells
    go_wp2
    refine bodyPost_ret (v := .tuple #[(meet a b).1.val, .int .i64 (meet a b).2]) ?_ rfl ⟨rfl, (by with_reducible (repeat first | assumption | exact Ext.refl _ | refine Ext.set ?_ (by omega) _ | refine Ext.alloc ?_ _ | refine Ext.drew ?_ | refine Ext.drewN ?_ _ | refine Ext.trans ?_ (by assumption)))⟩
    rw [meet_bad hv.out]
    simp [results, go_sem, *]
end Go.Proofs.YtmmimbcfgobnaaaGreat
