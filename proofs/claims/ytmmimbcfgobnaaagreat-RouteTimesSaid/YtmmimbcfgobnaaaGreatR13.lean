/- route: Least, Safe, Proof. -/
import Derived.Test.YtmmimbcfgobnaaaGreatR11
namespace Go.Proofs.YtmmimbcfgobnaaaGreat
open Go.RowKit
set_option linter.unusedVariables false
set_option linter.unusedSimpArgs false
attribute [local go_sem] stored_match isSome_setCell

/-- How many of the first n are so, up to the first one that is not. -/
def lead (p : Nat → Bool) : Nat → Nat
  | 0 => 0
  | n + 1 => if lead p n = n ∧ p n = true then n + 1 else lead p n
theorem lead_all {p : Nat → Bool} : ∀ n, (∀ j, j < n → p j = true) → lead p n = n
  | 0, _ => rfl
  | n + 1, h => by
    unfold lead
    rw [if_pos ⟨lead_all n (fun j hj => h j (by omega)), h n (by omega)⟩]
theorem lead_stop {p : Nat → Bool} {k : Nat} (h : ∀ j, j < k → p j = true) (hk : p k = false) : ∀ n, k < n → lead p n = k
  | n + 1, hn => by
    unfold lead
    by_cases e : k = n
    · subst e
      rw [if_neg (by simp [hk]), lead_all k h]
    · have := lead_stop h hk n (by omega)
      rw [if_neg (by omega), this]
theorem Plan.safeTo_at {P : Plan} {dry : Bool} {n : Nat} (h : P.safeTo dry n = true) : ∀ k, k < n → P.safeAt dry k = true := fun k hk => by
  unfold Plan.safeTo at h
  rw [List.all_eq_true] at h
  exact h k (List.mem_range.2 hk)
theorem Plan.safeTo_false {P : Plan} {dry : Bool} {n k : Nat} (hk : k < n) (h : P.safeAt dry k = false) : P.safeTo dry n = false := by
  rw [← Bool.not_eq_true]
  intro hs
  rw [Plan.safeTo_at hs k hk] at h
  exact absurd h (by decide)
def Plan.leastN (P : Plan) : Int × Bool := if P.safeTo true P.ticks = true then (P.mostTo P.ticks, decide (P.mostTo P.ticks ≤ 100000)) else (0, false)
theorem least_N (P : Plan) (p : Nat) (r : Refs) (w : World) (h : PlanAt w P p r) (hf12 : P.N.met.fcs.length ≤ 12) (hs12 : P.N.met.sights.length ≤ 12) :
    Calls Tryz.prog 69 #[.pointer (some ⟨p, 0, none⟩)] w fun e w' => e = .returned (.tuple #[.int .i64 P.leastN.1, .bool P.leastN.2]) ∧ Ext w w' := by
  refine (least_69 P p r w h hf12 hs12).mono ?_
  rintro e w' (⟨hs, rfl, hx⟩ | ⟨k, hk, hs, hn, rfl, hx⟩)
  · unfold Plan.leastN; rw [if_pos hs]; exact ⟨rfl, hx⟩
  · unfold Plan.leastN; rw [if_neg (by simp [Plan.safeTo_false hk hn])]; exact ⟨rfl, hx⟩
def Plan.firstBad (P : Plan) : Nat := lead (P.safeAt false) P.ticks
def Plan.safeN (P : Plan) : Int × Bool := if P.safeTo false P.ticks = true then (0, true) else (P.f.depart + P.firstBad, false)
def Plan.proofN (P : Plan) : List Haven := if P.safeTo false P.ticks = true then P.proofTo false P.ticks else []
def ProofNPost (P : Plan) (w : World) (e : Ending) (w' : World) : Prop :=
  (∃ A k, e = .returned (.tuple #[.slice A P.proofN.length k, .int .i64 P.safeN.1, .bool P.safeN.2]) ∧ Rows 3 Haven.enc w' A P.proofN.length P.proofN ∧ (P.proofN.length = 0 → A = none ∧ k = 0)) ∧ Ext w w'
theorem Plan.ticks_bd {P : Plan} (hng : P.N.good = true) (hfg : P.f.good P.N.met.places P.N.L = true) : 1 ≤ P.ticks ∧ P.ticks ≤ 2001 := by
  have := Plan.arrival_bd hng hfg
  unfold Plan.ticks; omega
theorem proof_N (P : Plan) (p : Nat) (r : Refs) (w : World) (h : PlanAt w P p r) (hf12 : P.N.met.fcs.length ≤ 12) (hs12 : P.N.met.sights.length ≤ 12) :
    Calls Tryz.prog 70 #[.pointer (some ⟨p, 0, none⟩)] w (ProofNPost P w) := by
  have ht := Plan.ticks_bd h.ngood h.fgood
  refine (proof_70 P p r w h hf12 hs12).mono ?_
  rintro e w' (⟨v, hs, rfl, ho, hx⟩ | ⟨k, hk, hs, hn, rfl, hx⟩)
  · have e1 : P.proofN = P.proofTo false P.ticks := by unfold Plan.proofN; rw [if_pos hs]
    have e2 : P.safeN = (0, true) := by unfold Plan.safeN; rw [if_pos hs]
    obtain ⟨A, c, rfl, hR⟩ := ho.rows (fun _ => rfl) (by rw [Plan.proofTo_length]; omega)
    unfold ProofNPost
    rw [e1, e2]
    exact ⟨⟨A, c, rfl, hR, fun h0 => by rw [Plan.proofTo_length] at h0; omega⟩, hx⟩
  · have hf := Plan.safeTo_false hk hn
    have e1 : P.proofN = [] := by unfold Plan.proofN; rw [if_neg (by simp [hf])]
    have e3 : P.firstBad = k := lead_stop (Plan.safeTo_at hs) hn _ hk
    have e2 : P.safeN = (P.f.depart + k, false) := by unfold Plan.safeN; rw [if_neg (by simp [hf]), e3]
    unfold ProofNPost
    rw [e1, e2]
    exact ⟨⟨none, 0, rfl, Rows.nil _ _ _ _, fun _ => ⟨rfl, rfl⟩⟩, hx⟩
def Inp.leastR (I : Inp) : Int × Int := if I.err = 0 then (if I.P.leastN.2 = true then (I.P.leastN.1, 0) else (0, 3)) else (0, I.err)
set_option maxRecDepth 100000 in
set_option maxHeartbeats 2000000 in
theorem Least_31 (I : Inp) (w : World) (h : I.In w) (h12 : I.Short) :
    Calls Tryz.prog 31 #[I.vm, I.l.val, I.vn, I.vf] w fun e w' => e = .returned (.tuple #[.int .i64 I.leastR.1, .int .i64 I.leastR.2]) ∧ Ext w w' := by
  simp only [Inp.vm, Inp.vn, Inp.vf, Met.val, Flight.val, Minima.val]
  by_cases hc : I.err = 0
  · rcases Bool.eq_false_or_eq_true I.P.leastN.2 with hb | hb
    all_goals
      first
      | have hR := Lib.hid (show I.leastR = (I.P.leastN.1, 0) by unfold Inp.leastR; rw [if_pos hc, if_pos hb])
      | have hR := Lib.hid (show I.leastR = (0, 3) by unfold Inp.leastR; rw [if_pos hc, if_neg (by simp [hb])])
      replace hc := Lib.hid hc
      replace hb := Lib.hid hb
      go_enter Tryz.func31, Tryz.ntmps31
      go_wp2_with (first | (go_at_call 64; refine (newFlight_ok I _ (h.ext (by with_reducible (repeat first | assumption | exact Ext.refl _ | refine Ext.set ?_ (by omega) _ | refine Ext.alloc ?_ _ | refine Ext.drew ?_ | refine Ext.drewN ?_ _ | refine Ext.trans ?_ (by assumption)))) h12 (w.heap.size + 1) ((MinAt.box (w.alloc _) I.l (by simp)).ext (by with_reducible (repeat first | assumption | exact Ext.refl _ | refine Ext.set ?_ (by omega) _ | refine Ext.alloc ?_ _ | refine Ext.drew ?_ | refine Ext.drewN ?_ _ | refine Ext.trans ?_ (by assumption)))) hc.out).mono ?_; rintro e1 w1 ⟨⟨p, r, rfl, hP⟩, hb1⟩; replace hP := Lib.hid hP) | (go_at_call 69; refine (least_N I.P p r _ (hP.out.ext (by with_reducible (repeat first | assumption | exact Ext.refl _ | refine Ext.set ?_ (by omega) _ | refine Ext.alloc ?_ _ | refine Ext.drew ?_ | refine Ext.drewN ?_ _ | refine Ext.trans ?_ (by assumption)))) h12.fcs h12.sights).mono ?_; rw [hb.out]; rintro e1 w2 ⟨rfl, hb2⟩))
      go_ret2
      rw [hR.out]
      exact ⟨rfl, (by with_reducible (repeat first | assumption | exact Ext.refl _ | refine Ext.set ?_ (by omega) _ | refine Ext.alloc ?_ _ | refine Ext.drew ?_ | refine Ext.drewN ?_ _ | refine Ext.trans ?_ (by assumption)))⟩
  · have hR := Lib.hid (show I.leastR = (0, I.err) by unfold Inp.leastR; rw [if_neg hc])
    have hbb : (I.err == (0 : Int)) = false := beq_eq_false_iff_ne.2 hc
    have hbn : (I.err != (0 : Int)) = true := by rw [bne_iff_ne]; exact hc
    replace hc := Lib.hid hc
    go_enter Tryz.func31, Tryz.ntmps31
    go_wp2_with (go_at_call 64; refine (newFlight_bad I _ (h.ext (by with_reducible (repeat first | assumption | exact Ext.refl _ | refine Ext.set ?_ (by omega) _ | refine Ext.alloc ?_ _ | refine Ext.drew ?_ | refine Ext.drewN ?_ _ | refine Ext.trans ?_ (by assumption)))) h12 (w.heap.size + 1) ((MinAt.box (w.alloc _) I.l (by simp)).ext (by with_reducible (repeat first | assumption | exact Ext.refl _ | refine Ext.set ?_ (by omega) _ | refine Ext.alloc ?_ _ | refine Ext.drew ?_ | refine Ext.drewN ?_ _ | refine Ext.trans ?_ (by assumption)))) hc.out).mono ?_; rintro e1 w1 ⟨rfl, hb1⟩)
    go_ret2
    rw [hR.out]
    exact ⟨rfl, (by with_reducible (repeat first | assumption | exact Ext.refl _ | refine Ext.set ?_ (by omega) _ | refine Ext.alloc ?_ _ | refine Ext.drew ?_ | refine Ext.drewN ?_ _ | refine Ext.trans ?_ (by assumption)))⟩
def Inp.safeR (I : Inp) : Int × Bool × Int := if I.err = 0 then (I.P.safeN.1, I.P.safeN.2, 0) else (0, false, I.err)
set_option maxRecDepth 100000 in
set_option maxHeartbeats 2000000 in
theorem Safe_32 (I : Inp) (w : World) (h : I.In w) (h12 : I.Short) :
    Calls Tryz.prog 32 #[I.vm, I.l.val, I.vn, I.vf] w fun e w' => e = .returned (.tuple #[.int .i64 I.safeR.1, .bool I.safeR.2.1, .int .i64 I.safeR.2.2]) ∧ Ext w w' := by
  simp only [Inp.vm, Inp.vn, Inp.vf, Met.val, Flight.val, Minima.val]
  by_cases hc : I.err = 0
  · have hR := Lib.hid (show I.safeR = (I.P.safeN.1, I.P.safeN.2, 0) by unfold Inp.safeR; rw [if_pos hc])
    replace hc := Lib.hid hc
    go_enter Tryz.func32, Tryz.ntmps32
    go_wp2_with (first | (go_at_call 64; refine (newFlight_ok I _ (h.ext (by with_reducible (repeat first | assumption | exact Ext.refl _ | refine Ext.set ?_ (by omega) _ | refine Ext.alloc ?_ _ | refine Ext.drew ?_ | refine Ext.drewN ?_ _ | refine Ext.trans ?_ (by assumption)))) h12 (w.heap.size + 1) ((MinAt.box (w.alloc _) I.l (by simp)).ext (by with_reducible (repeat first | assumption | exact Ext.refl _ | refine Ext.set ?_ (by omega) _ | refine Ext.alloc ?_ _ | refine Ext.drew ?_ | refine Ext.drewN ?_ _ | refine Ext.trans ?_ (by assumption)))) hc.out).mono ?_; rintro e1 w1 ⟨⟨p, r, rfl, hP⟩, hb1⟩; replace hP := Lib.hid hP) | (go_at_call 70; refine (proof_N I.P p r _ (hP.out.ext (by with_reducible (repeat first | assumption | exact Ext.refl _ | refine Ext.set ?_ (by omega) _ | refine Ext.alloc ?_ _ | refine Ext.drew ?_ | refine Ext.drewN ?_ _ | refine Ext.trans ?_ (by assumption)))) h12.fcs h12.sights).mono ?_; rintro e1 w2 ⟨⟨A, k, rfl, -, -⟩, hb2⟩))
    go_ret3
    rw [hR.out]
    exact ⟨rfl, (by with_reducible (repeat first | assumption | exact Ext.refl _ | refine Ext.set ?_ (by omega) _ | refine Ext.alloc ?_ _ | refine Ext.drew ?_ | refine Ext.drewN ?_ _ | refine Ext.trans ?_ (by assumption)))⟩
  · have hR := Lib.hid (show I.safeR = (0, false, I.err) by unfold Inp.safeR; rw [if_neg hc])
    have hbb : (I.err == (0 : Int)) = false := beq_eq_false_iff_ne.2 hc
    have hbn : (I.err != (0 : Int)) = true := by rw [bne_iff_ne]; exact hc
    replace hc := Lib.hid hc
    go_enter Tryz.func32, Tryz.ntmps32
    go_wp2_with (go_at_call 64; refine (newFlight_bad I _ (h.ext (by with_reducible (repeat first | assumption | exact Ext.refl _ | refine Ext.set ?_ (by omega) _ | refine Ext.alloc ?_ _ | refine Ext.drew ?_ | refine Ext.drewN ?_ _ | refine Ext.trans ?_ (by assumption)))) h12 (w.heap.size + 1) ((MinAt.box (w.alloc _) I.l (by simp)).ext (by with_reducible (repeat first | assumption | exact Ext.refl _ | refine Ext.set ?_ (by omega) _ | refine Ext.alloc ?_ _ | refine Ext.drew ?_ | refine Ext.drewN ?_ _ | refine Ext.trans ?_ (by assumption)))) hc.out).mono ?_; rintro e1 w1 ⟨rfl, hb1⟩)
    go_ret3
    rw [hR.out]
    exact ⟨rfl, (by with_reducible (repeat first | assumption | exact Ext.refl _ | refine Ext.set ?_ (by omega) _ | refine Ext.alloc ?_ _ | refine Ext.drew ?_ | refine Ext.drewN ?_ _ | refine Ext.trans ?_ (by assumption)))⟩
def Inp.proofC (I : Inp) : Int := if I.err = 0 then (if I.P.safeN.2 = true then 0 else 3) else I.err
def ProofPost42 (c : Int) (L : List Haven) (w : World) (e : Ending) (w' : World) : Prop :=
  (c = 0 → ∃ A k, e = .returned (.tuple #[.slice A L.length k, .int .i64 0]) ∧ Rows 3 Haven.enc w' A L.length L) ∧ (c ≠ 0 → e = .returned (.tuple #[.slice none 0 0, .int .i64 c])) ∧ Ext w w'
set_option maxRecDepth 100000 in
set_option maxHeartbeats 2000000 in
theorem Proof_42 (I : Inp) (w : World) (h : I.In w) (h12 : I.Short) :
    Calls Tryz.prog 42 #[I.vm, I.l.val, I.vn, I.vf] w (ProofPost42 I.proofC I.P.proofN w) := by
  simp only [Inp.vm, Inp.vn, Inp.vf, Met.val, Flight.val, Minima.val]
  by_cases hc : I.err = 0
  · rcases Bool.eq_false_or_eq_true I.P.safeN.2 with hb | hb
    · have hR := Lib.hid (show I.proofC = 0 by unfold Inp.proofC; rw [if_pos hc, if_pos hb])
      replace hc := Lib.hid hc
      replace hb := Lib.hid hb
      go_enter Tryz.func42, Tryz.ntmps42
      go_wp2_with (first | (go_at_call 64; refine (newFlight_ok I _ (h.ext (by with_reducible (repeat first | assumption | exact Ext.refl _ | refine Ext.set ?_ (by omega) _ | refine Ext.alloc ?_ _ | refine Ext.drew ?_ | refine Ext.drewN ?_ _ | refine Ext.trans ?_ (by assumption)))) h12 (w.heap.size + 1) ((MinAt.box (w.alloc _) I.l (by simp)).ext (by with_reducible (repeat first | assumption | exact Ext.refl _ | refine Ext.set ?_ (by omega) _ | refine Ext.alloc ?_ _ | refine Ext.drew ?_ | refine Ext.drewN ?_ _ | refine Ext.trans ?_ (by assumption)))) hc.out).mono ?_; rintro e1 w1 ⟨⟨p, r, rfl, hP⟩, hb1⟩; replace hP := Lib.hid hP) | (go_at_call 70; refine (proof_N I.P p r _ (hP.out.ext (by with_reducible (repeat first | assumption | exact Ext.refl _ | refine Ext.set ?_ (by omega) _ | refine Ext.alloc ?_ _ | refine Ext.drew ?_ | refine Ext.drewN ?_ _ | refine Ext.trans ?_ (by assumption)))) h12.fcs h12.sights).mono ?_; unfold ProofNPost; rw [hb.out]; rintro e1 w2 ⟨⟨A, k, rfl, hRr, -⟩, hb2⟩; replace hRr := Lib.hid hRr))
      go_ret2
      unfold ProofPost42
      rw [hR.out]
      exact ⟨fun _ => ⟨A, k, rfl, hRr.out⟩, fun h => absurd rfl h, (by with_reducible (repeat first | assumption | exact Ext.refl _ | refine Ext.set ?_ (by omega) _ | refine Ext.alloc ?_ _ | refine Ext.drew ?_ | refine Ext.drewN ?_ _ | refine Ext.trans ?_ (by assumption)))⟩
    · have hR := Lib.hid (show I.proofC = 3 by unfold Inp.proofC; rw [if_pos hc, if_neg (by simp [hb])])
      replace hc := Lib.hid hc
      replace hb := Lib.hid hb
      go_enter Tryz.func42, Tryz.ntmps42
      go_wp2_with (first | (go_at_call 64; refine (newFlight_ok I _ (h.ext (by with_reducible (repeat first | assumption | exact Ext.refl _ | refine Ext.set ?_ (by omega) _ | refine Ext.alloc ?_ _ | refine Ext.drew ?_ | refine Ext.drewN ?_ _ | refine Ext.trans ?_ (by assumption)))) h12 (w.heap.size + 1) ((MinAt.box (w.alloc _) I.l (by simp)).ext (by with_reducible (repeat first | assumption | exact Ext.refl _ | refine Ext.set ?_ (by omega) _ | refine Ext.alloc ?_ _ | refine Ext.drew ?_ | refine Ext.drewN ?_ _ | refine Ext.trans ?_ (by assumption)))) hc.out).mono ?_; rintro e1 w1 ⟨⟨p, r, rfl, hP⟩, hb1⟩; replace hP := Lib.hid hP) | (go_at_call 70; refine (proof_N I.P p r _ (hP.out.ext (by with_reducible (repeat first | assumption | exact Ext.refl _ | refine Ext.set ?_ (by omega) _ | refine Ext.alloc ?_ _ | refine Ext.drew ?_ | refine Ext.drewN ?_ _ | refine Ext.trans ?_ (by assumption)))) h12.fcs h12.sights).mono ?_; unfold ProofNPost; rw [hb.out]; rintro e1 w2 ⟨⟨A, k, rfl, hRr, -⟩, hb2⟩; replace hRr := Lib.hid hRr))
      go_ret2
      unfold ProofPost42
      rw [hR.out]
      exact ⟨fun h => absurd h (by decide), fun _ => rfl, (by with_reducible (repeat first | assumption | exact Ext.refl _ | refine Ext.set ?_ (by omega) _ | refine Ext.alloc ?_ _ | refine Ext.drew ?_ | refine Ext.drewN ?_ _ | refine Ext.trans ?_ (by assumption)))⟩
  · have hR := Lib.hid (show I.proofC = I.err by unfold Inp.proofC; rw [if_neg hc])
    have hbb : (I.err == (0 : Int)) = false := beq_eq_false_iff_ne.2 hc
    have hbn : (I.err != (0 : Int)) = true := by rw [bne_iff_ne]; exact hc
    replace hc := Lib.hid hc
    go_enter Tryz.func42, Tryz.ntmps42
    go_wp2_with (go_at_call 64; refine (newFlight_bad I _ (h.ext (by with_reducible (repeat first | assumption | exact Ext.refl _ | refine Ext.set ?_ (by omega) _ | refine Ext.alloc ?_ _ | refine Ext.drew ?_ | refine Ext.drewN ?_ _ | refine Ext.trans ?_ (by assumption)))) h12 (w.heap.size + 1) ((MinAt.box (w.alloc _) I.l (by simp)).ext (by with_reducible (repeat first | assumption | exact Ext.refl _ | refine Ext.set ?_ (by omega) _ | refine Ext.alloc ?_ _ | refine Ext.drew ?_ | refine Ext.drewN ?_ _ | refine Ext.trans ?_ (by assumption)))) hc.out).mono ?_; rintro e1 w1 ⟨rfl, hb1⟩)
    go_ret2
    unfold ProofPost42
    rw [hR.out]
    exact ⟨fun h0 => absurd h0 hc.out, fun _ => rfl, (by with_reducible (repeat first | assumption | exact Ext.refl _ | refine Ext.set ?_ (by omega) _ | refine Ext.alloc ?_ _ | refine Ext.drew ?_ | refine Ext.drewN ?_ _ | refine Ext.trans ?_ (by assumption)))⟩
end Go.Proofs.YtmmimbcfgobnaaaGreat
