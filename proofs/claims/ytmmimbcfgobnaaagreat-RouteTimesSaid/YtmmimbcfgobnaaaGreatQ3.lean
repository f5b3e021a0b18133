/- The reference: leg. -/
import Derived.Test.YtmmimbcfgobnaaaGreatQ1
namespace Go.Proofs.YtmmimbcfgobnaaaGreat
open Go.RowKit
set_option linter.unusedVariables false
set_option linter.unusedSimpArgs false
attribute [local go_sem] stored_match isSome_setCell

/-- The ticks of the shortest leg between two places, as the reference has them. -/
def legStep (a b best : Int) (x : Leg) : Int := if ((x.a = a ∧ x.b = b) ∨ (x.a = b ∧ x.b = a)) ∧ (best < 0 ∨ x.t < best) then x.t else best
def legOf (xs : List Leg) : Tab := fun a b => xs.foldl (legStep a b) (-1)
theorem Tab.short_at (f : Tab) (a b v x y : Int) : (f.short a b v) x y = if (x = a ∧ y = b) ∧ (f a b < 0 ∨ v < f a b) then v else f x y := by
  unfold Tab.short Tab.set
  by_cases h : f a b < 0 ∨ v < f a b
  · rw [if_pos h]
    by_cases h2 : x = a ∧ y = b
    · simp only [h2, and_self, if_true, h]
    · rw [if_neg (fun e : (x = a ∧ y = b) ∧ _ => h2 e.1)]
      simp only [h2, if_false]
  · rw [if_neg h, if_neg (fun e => h e.2)]
theorem Tab.leg_step (f : Tab) (x : Leg) (h : x.a ≠ x.b) (a b : Int) : (f.leg x) a b = legStep a b (f a b) x := by
  unfold Tab.leg
  by_cases h1 : a = x.a ∧ b = x.b
  · obtain ⟨rfl, rfl⟩ := h1
    have n : ¬ (x.a = x.b ∧ x.b = x.a) := by omega
    rw [Tab.short_at, if_neg (fun e => n e.1), Tab.short_at]
    unfold legStep
    by_cases c : f x.a x.b < 0 ∨ x.t < f x.a x.b
    · rw [if_pos ⟨⟨rfl, rfl⟩, c⟩, if_pos ⟨.inl ⟨rfl, rfl⟩, c⟩]
    · rw [if_neg (fun e => c e.2), if_neg (fun e => c e.2)]
  · by_cases h2 : a = x.b ∧ b = x.a
    · obtain ⟨rfl, rfl⟩ := h2
      have e : (f.short x.a x.b x.t) x.b x.a = f x.b x.a := by rw [Tab.short_at, if_neg (fun e => h1 e.1)]
      rw [Tab.short_at, e]
      unfold legStep
      by_cases c : f x.b x.a < 0 ∨ x.t < f x.b x.a
      · rw [if_pos ⟨⟨rfl, rfl⟩, c⟩, if_pos ⟨.inr ⟨rfl, rfl⟩, c⟩]
      · rw [if_neg (fun e => c e.2), if_neg (fun e => c e.2)]
    · rw [Tab.short_at, if_neg (fun e => h2 e.1), Tab.short_at, if_neg (fun e => h1 e.1)]
      unfold legStep
      rw [if_neg (by omega)]
theorem foldl_leg_eq : ∀ (xs : List Leg) (f : Tab) (a b : Int), (∀ x ∈ xs, x.a ≠ x.b) → (xs.foldl Tab.leg f) a b = xs.foldl (legStep a b) (f a b)
  | [], f, a, b, _ => rfl
  | x :: xs, f, a, b, h => by
    rw [List.foldl_cons, List.foldl_cons, foldl_leg_eq xs _ a b (fun y hy => h y (by simp [hy])), Tab.leg_step f x (h x (by simp))]
theorem legTab_eq {xs : List Leg} (h : ∀ x ∈ xs, x.a ≠ x.b) : legTab xs = legOf xs := by
  funext a b
  exact foldl_leg_eq xs tab0 a b h
set_option maxRecDepth 100000 in
set_option maxHeartbeats 2000000 in
theorem leg_103 (xs : List Leg) (A : Option Addr) (nx c : Nat) (a b : Int) (w : World) (hX : Rows 3 Leg.enc w A nx xs) :
    Calls Tryz.prog 103 #[.slice A nx c, .int .i64 a, .int .i64 b] w fun e w' => e = .returned (.int .i64 (legOf xs a b)) ∧ Ext w w' := by
  obtain rfl := hX.len
  have hsm := hX.small
  go_enter Tryz.func103, Tryz.ntmps103
  go_wp2
  go_loopw [7, 8] (fun v i wr => ∃ k : Nat, k ≤ xs.length ∧ i = .int .i64 k ∧ v = .int .i64 ((xs.take k).foldl (legStep a b) (-1)) ∧ Ext w wr) (fun _ i _ => xs.length - (intOf i).toNat)
  case atStart => exact ⟨0, Nat.zero_le _, rfl, rfl, Ext.refl _⟩
  case round =>
    obtain ⟨k, hk, rfl, rfl, he⟩ := hrel
    by_cases hlt : k < xs.length
    · obtain ⟨x, hx⟩ : ∃ x, xs[k]? = some x := ⟨_, List.getElem?_eq_getElem hlt⟩
      obtain ⟨b0, off, rfl, hb0, c0, c1, c2⟩ := (hX.ext he).leg hlt hx
      have hst := Lib.hid (foldl_take_succ (legStep a b) (-1) x xs k hx)
      generalize (xs.take k).foldl (legStep a b) (-1) = u at *
      clear hx
      rcases Bool.eq_false_or_eq_true (x.a == a) with p1 | p1
      · rcases Bool.eq_false_or_eq_true (x.b == b) with p2 | p2
        · by_cases u1 : u < 0
          · have hs := Lib.hid (show legStep a b u x = x.t by unfold legStep; rw [if_pos (by simp only [beq_iff_eq, beq_eq_false_iff_ne] at *; omega)])
            go_wp2
            go_roundw
            case rel => exact ⟨k + 1, by omega, by go_num, by rw [hst.out, hs.out], (by with_reducible (repeat first | assumption | exact Ext.refl _ | refine Ext.set ?_ (by omega) _ | refine Ext.alloc ?_ _ | refine Ext.drew ?_ | refine Ext.drewN ?_ _ | refine Ext.trans ?_ (by assumption)))⟩
            case measure => simp [intOf]; omega
          · by_cases u2 : x.t < u
            · have hs := Lib.hid (show legStep a b u x = x.t by unfold legStep; rw [if_pos (by simp only [beq_iff_eq, beq_eq_false_iff_ne] at *; omega)])
              go_wp2
              go_roundw
              case rel => exact ⟨k + 1, by omega, by go_num, by rw [hst.out, hs.out], (by with_reducible (repeat first | assumption | exact Ext.refl _ | refine Ext.set ?_ (by omega) _ | refine Ext.alloc ?_ _ | refine Ext.drew ?_ | refine Ext.drewN ?_ _ | refine Ext.trans ?_ (by assumption)))⟩
              case measure => simp [intOf]; omega
            · have hs := Lib.hid (show legStep a b u x = u by unfold legStep; rw [if_neg (by simp only [beq_iff_eq, beq_eq_false_iff_ne] at *; omega)])
              go_wp2
              go_roundw
              case rel => exact ⟨k + 1, by omega, by go_num, by rw [hst.out, hs.out], (by with_reducible (repeat first | assumption | exact Ext.refl _ | refine Ext.set ?_ (by omega) _ | refine Ext.alloc ?_ _ | refine Ext.drew ?_ | refine Ext.drewN ?_ _ | refine Ext.trans ?_ (by assumption)))⟩
              case measure => simp [intOf]; omega
        · rcases Bool.eq_false_or_eq_true (x.a == b) with p3 | p3
          · rcases Bool.eq_false_or_eq_true (x.b == a) with p4 | p4
            · by_cases u1 : u < 0
              · have hs := Lib.hid (show legStep a b u x = x.t by unfold legStep; rw [if_pos (by simp only [beq_iff_eq, beq_eq_false_iff_ne] at *; omega)])
                go_wp2
                go_roundw
                case rel => exact ⟨k + 1, by omega, by go_num, by rw [hst.out, hs.out], (by with_reducible (repeat first | assumption | exact Ext.refl _ | refine Ext.set ?_ (by omega) _ | refine Ext.alloc ?_ _ | refine Ext.drew ?_ | refine Ext.drewN ?_ _ | refine Ext.trans ?_ (by assumption)))⟩
                case measure => simp [intOf]; omega
              · by_cases u2 : x.t < u
                · have hs := Lib.hid (show legStep a b u x = x.t by unfold legStep; rw [if_pos (by simp only [beq_iff_eq, beq_eq_false_iff_ne] at *; omega)])
                  go_wp2
                  go_roundw
                  case rel => exact ⟨k + 1, by omega, by go_num, by rw [hst.out, hs.out], (by with_reducible (repeat first | assumption | exact Ext.refl _ | refine Ext.set ?_ (by omega) _ | refine Ext.alloc ?_ _ | refine Ext.drew ?_ | refine Ext.drewN ?_ _ | refine Ext.trans ?_ (by assumption)))⟩
                  case measure => simp [intOf]; omega
                · have hs := Lib.hid (show legStep a b u x = u by unfold legStep; rw [if_neg (by simp only [beq_iff_eq, beq_eq_false_iff_ne] at *; omega)])
                  go_wp2
                  go_roundw
                  case rel => exact ⟨k + 1, by omega, by go_num, by rw [hst.out, hs.out], (by with_reducible (repeat first | assumption | exact Ext.refl _ | refine Ext.set ?_ (by omega) _ | refine Ext.alloc ?_ _ | refine Ext.drew ?_ | refine Ext.drewN ?_ _ | refine Ext.trans ?_ (by assumption)))⟩
                  case measure => simp [intOf]; omega
            · have hs := Lib.hid (show legStep a b u x = u by unfold legStep; rw [if_neg (by simp only [beq_iff_eq, beq_eq_false_iff_ne] at *; omega)])
              go_wp2
              go_roundw
              case rel => exact ⟨k + 1, by omega, by go_num, by rw [hst.out, hs.out], (by with_reducible (repeat first | assumption | exact Ext.refl _ | refine Ext.set ?_ (by omega) _ | refine Ext.alloc ?_ _ | refine Ext.drew ?_ | refine Ext.drewN ?_ _ | refine Ext.trans ?_ (by assumption)))⟩
              case measure => simp [intOf]; omega
          · have hs := Lib.hid (show legStep a b u x = u by unfold legStep; rw [if_neg (by simp only [beq_iff_eq, beq_eq_false_iff_ne] at *; omega)])
            go_wp2
            go_roundw
            case rel => exact ⟨k + 1, by omega, by go_num, by rw [hst.out, hs.out], (by with_reducible (repeat first | assumption | exact Ext.refl _ | refine Ext.set ?_ (by omega) _ | refine Ext.alloc ?_ _ | refine Ext.drew ?_ | refine Ext.drewN ?_ _ | refine Ext.trans ?_ (by assumption)))⟩
            case measure => simp [intOf]; omega
      · rcases Bool.eq_false_or_eq_true (x.a == b) with p3 | p3
        · rcases Bool.eq_false_or_eq_true (x.b == a) with p4 | p4
          · by_cases u1 : u < 0
            · have hs := Lib.hid (show legStep a b u x = x.t by unfold legStep; rw [if_pos (by simp only [beq_iff_eq, beq_eq_false_iff_ne] at *; omega)])
              go_wp2
              go_roundw
              case rel => exact ⟨k + 1, by omega, by go_num, by rw [hst.out, hs.out], (by with_reducible (repeat first | assumption | exact Ext.refl _ | refine Ext.set ?_ (by omega) _ | refine Ext.alloc ?_ _ | refine Ext.drew ?_ | refine Ext.drewN ?_ _ | refine Ext.trans ?_ (by assumption)))⟩
              case measure => simp [intOf]; omega
            · by_cases u2 : x.t < u
              · have hs := Lib.hid (show legStep a b u x = x.t by unfold legStep; rw [if_pos (by simp only [beq_iff_eq, beq_eq_false_iff_ne] at *; omega)])
                go_wp2
                go_roundw
                case rel => exact ⟨k + 1, by omega, by go_num, by rw [hst.out, hs.out], (by with_reducible (repeat first | assumption | exact Ext.refl _ | refine Ext.set ?_ (by omega) _ | refine Ext.alloc ?_ _ | refine Ext.drew ?_ | refine Ext.drewN ?_ _ | refine Ext.trans ?_ (by assumption)))⟩
                case measure => simp [intOf]; omega
              · have hs := Lib.hid (show legStep a b u x = u by unfold legStep; rw [if_neg (by simp only [beq_iff_eq, beq_eq_false_iff_ne] at *; omega)])
                go_wp2
                go_roundw
                case rel => exact ⟨k + 1, by omega, by go_num, by rw [hst.out, hs.out], (by with_reducible (repeat first | assumption | exact Ext.refl _ | refine Ext.set ?_ (by omega) _ | refine Ext.alloc ?_ _ | refine Ext.drew ?_ | refine Ext.drewN ?_ _ | refine Ext.trans ?_ (by assumption)))⟩
                case measure => simp [intOf]; omega
          · have hs := Lib.hid (show legStep a b u x = u by unfold legStep; rw [if_neg (by simp only [beq_iff_eq, beq_eq_false_iff_ne] at *; omega)])
            go_wp2
            go_roundw
            case rel => exact ⟨k + 1, by omega, by go_num, by rw [hst.out, hs.out], (by with_reducible (repeat first | assumption | exact Ext.refl _ | refine Ext.set ?_ (by omega) _ | refine Ext.alloc ?_ _ | refine Ext.drew ?_ | refine Ext.drewN ?_ _ | refine Ext.trans ?_ (by assumption)))⟩
            case measure => simp [intOf]; omega
        · have hs := Lib.hid (show legStep a b u x = u by unfold legStep; rw [if_neg (by simp only [beq_iff_eq, beq_eq_false_iff_ne] at *; omega)])
          go_wp2
          go_roundw
          case rel => exact ⟨k + 1, by omega, by go_num, by rw [hst.out, hs.out], (by with_reducible (repeat first | assumption | exact Ext.refl _ | refine Ext.set ?_ (by omega) _ | refine Ext.alloc ?_ _ | refine Ext.drew ?_ | refine Ext.drewN ?_ _ | refine Ext.trans ?_ (by assumption)))⟩
          case measure => simp [intOf]; omega
    · obtain rfl : k = xs.length := by omega
      have hR := Lib.hid (show legOf xs a b = (xs.take xs.length).foldl (legStep a b) (-1) by rw [List.take_of_length_le (Nat.le_refl _)]; rfl)
      go_wp2
      go_ret
      exact ⟨by rw [hR.out]; rfl, he⟩
end Go.Proofs.YtmmimbcfgobnaaaGreat
