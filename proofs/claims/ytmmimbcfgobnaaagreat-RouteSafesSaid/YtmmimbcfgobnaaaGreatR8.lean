/- route: havens, best. -/
import Derived.Test.YtmmimbcfgobnaaaGreatR7
set_option linter.unusedVariables false
set_option linter.unusedSimpArgs false
namespace Go.Proofs.YtmmimbcfgobnaaaGreat
open Go.RowKit
set_option linter.unusedVariables false
set_option linter.unusedSimpArgs false
attribute [local go_sem] stored_match isSome_setCell

theorem backTo_facts {a : Nat → Int} {tick : Int} (h0 : a 0 ≤ tick) : ∀ n, backTo a tick n ≤ n ∧ a (backTo a tick n) ≤ tick ∧ (backTo a tick n < n → tick < a (backTo a tick n + 1))
  | 0 => ⟨Nat.le_refl _, h0, fun h => absurd h (by unfold backTo; omega)⟩
  | n + 1 => by
    obtain ⟨h1, h2, h3⟩ := backTo_facts h0 n
    unfold backTo
    by_cases h : tick < a (n + 1)
    · rw [if_pos h]
      refine ⟨by omega, h2, fun _ => ?_⟩
      by_cases e : backTo a tick n < n
      · exact h3 e
      · have : backTo a tick n = n := by omega
        rw [this]; exact h
    · rw [if_neg h]
      exact ⟨Nat.le_refl _, by omega, fun h => by omega⟩
theorem reachP_place {T : Tab} {a : Nat → Int} {r : List Int} {n : Nat} {tick place : Int} : (reachP T a r n tick place).1.place = place := by
  unfold reachP
  dsimp only
  split
  · rfl
  · split <;> rfl
theorem Plan.reach_place {P : Plan} {tick place : Int} : (P.reach tick place).1.place = place := reachP_place
theorem Plan.reach_bd {P : Plan} (hng : P.N.good = true) (hfg : P.f.good P.N.met.places P.N.L = true) {tick place : Int} (t0 : P.f.depart ≤ tick) (t1 : tick ≤ P.f.arrival P.N.L) :
    -1 ≤ (P.reach tick place).1.at_ ∧ (P.reach tick place).1.at_ ≤ 60000 := by
  obtain ⟨-, -, -, hLu, hTu⟩ := Net.good_parts hng
  have hst := Flight.at_step hLu hfg
  obtain ⟨hpl, -, -, har⟩ := Flight.good_parts hfg
  obtain ⟨⟨l1, l2⟩, ⟨d1, d2⟩, -⟩ := Flight.plain_parts hpl
  obtain ⟨b1, b2, b3⟩ := backTo_facts (a := P.f.at P.N.L) (tick := tick) t0 P.f.last
  have hlast : P.f.last + 1 = P.f.route.length := by unfold Flight.last; omega
  unfold Plan.reach reachP
  dsimp only
  have harr : P.f.arrival P.N.L = P.f.at P.N.L P.f.last := rfl
  generalize hk : backTo (P.f.at P.N.L) tick P.f.last = k at *
  have h1 := hst k (by omega)
  have h2 := hTu (P.f.route.getD k 0) place
  split
  · dsimp only; omega
  · have hkl : k < P.f.last := by
      by_cases e : k = P.f.last
      · subst e; omega
      · omega
    have h3 := b3 hkl
    have h4 := hst (k + 1) (by omega)
    have h5 := hTu (P.f.route.getD (k + 1) 0) place
    split
    · dsimp only at *; omega
    · dsimp only at *; omega
theorem haven_one : ∀ x : Haven, ∀ u ∈ x.enc, u.oneCell' = true := by
  intro x u hu
  simp only [Haven.enc, List.mem_cons, List.not_mem_nil, or_false] at hu
  rcases hu with rfl | rfl | rfl <;> rfl
theorem Plan.havens_succ (P : Plan) (tick : Int) (dry : Bool) (k : Nat) : P.havens tick dry (k + 1) = P.havens tick dry k ++ if P.keeps tick dry k = true then [(P.reach tick k).1] else [] := by
  unfold Plan.havens
  rw [List.range_succ, List.filter_append, List.map_append]
  congr 1
  simp only [List.filter_cons, List.filter_nil]
  split <;> rfl
theorem Plan.havens_length (P : Plan) (tick : Int) (dry : Bool) (k : Nat) : (P.havens tick dry k).length ≤ k := by
  unfold Plan.havens
  rw [List.length_map]
  exact Nat.le_trans (List.length_filter_le _ _) (by simp)
def HvPost (L : List Haven) (w : World) (e : Ending) (w' : World) : Prop := ∃ v, e = .returned v ∧ Owns 46 3 Haven.enc w' w.heap.size v L ∧ Ext w w'
set_option maxRecDepth 100000 in
set_option maxHeartbeats 2000000 in
theorem havens_58 (P : Plan) (p : Nat) (r : Refs) (tick : Int) (dry : Bool) (w : World) (h : PlanAt w P p r) (t0 : P.f.depart ≤ tick) (t1 : tick ≤ P.f.arrival P.N.L) (hf12 : P.N.met.fc12) (hs12 : P.N.met.si12) :
    Calls Tryz.prog 58 #[.pointer (some ⟨p, 0, none⟩), .int .i64 tick, .bool dry] w (HvPost (P.all tick dry) w) := by
  obtain ⟨-, -, ⟨n1, n2, n3, n4⟩, -, -⟩ := Net.good_parts h.ngood
  have hbd := Lib.hid (fun place => P.reach_bd (place := place) h.ngood h.fgood t0 t1)
  have hP := Lib.hid h
  obtain ⟨WN, hN⟩ := h.net
  have f0 := h.fl.c0
  have fl := h.fl.lt
  have q0 := hN.met.c0
  have ql := hN.met.lt
  clear hN h
  go_enter Tryz.func58, Tryz.ntmps58
  go_wp2_with fail
  go_loopw [6, 18] (fun v i wr => ∃ k : Nat, k ≤ P.N.n ∧ i = .int .i64 k ∧ Owns 46 3 Haven.enc wr w.heap.size v (P.havens tick dry k) ∧ Ext w wr) (fun _ i _ => P.N.n - (intOf i).toNat)
  case atStart => exact ⟨0, Nat.zero_le _, rfl, Owns.nil _ _ _ _ _, Ext.refl _⟩
  case round =>
    obtain ⟨k, hk, rfl, hown, he⟩ := hrel
    by_cases hlt : (k : Int) < P.N.met.places
    · obtain ⟨⟨hv, is⟩, hx⟩ : ∃ x, P.reach tick k = x := ⟨_, rfl⟩
      have hb := hbd.out (k : Int)
      rw [hx] at hb
      obtain ⟨b1, b2⟩ := hb
      have hkp := Lib.hid (show P.keeps tick dry k = (is && P.opens hv && (dry || P.f.lasts hv.at_)) by unfold Plan.keeps; rw [hx])
      have hsucc := Lib.hid (P.havens_succ tick dry k)
      have hx := Lib.hid hx
      have hes := he.size
      have hle := P.havens_length tick dry k
      have hown := Lib.hid hown
      obtain ⟨hcr, hfr, hzr⟩ := he.cells
      cases is
      · go_wp2_with (go_at_call 81; refine (reach_81 P p r tick k _ (hP.out.ext (by with_reducible (repeat first | assumption | exact Ext.refl _ | refine Ext.set ?_ (by omega) _ | refine Ext.alloc ?_ _ | refine Ext.drew ?_ | refine Ext.drewN ?_ _ | refine Ext.trans ?_ (by assumption)))) t0 t1 (by omega) hlt).mono ?_; rw [hx.out]; rintro e1 w1 ⟨rfl, hb1⟩)
        go_roundw
        case rel => exact ⟨k + 1, by omega, by go_num, by rw [hsucc.out, hkp.out]; simpa using hown.out.ext ((by with_reducible (repeat first | assumption | exact Ext.refl _ | refine Ext.set ?_ (by omega) _ | refine Ext.alloc ?_ _ | refine Ext.drew ?_ | refine Ext.drewN ?_ _ | refine Ext.trans ?_ (by assumption))) : Ext wr _), (by with_reducible (repeat first | assumption | exact Ext.refl _ | refine Ext.set ?_ (by omega) _ | refine Ext.alloc ?_ _ | refine Ext.drew ?_ | refine Ext.drewN ?_ _ | refine Ext.trans ?_ (by assumption)))⟩
        case measure => simp [intOf]; omega
      · cases dry
        all_goals
          go_wp2_with (first | (go_at_call 81; refine (reach_81 P p r tick k _ (hP.out.ext (by with_reducible (repeat first | assumption | exact Ext.refl _ | refine Ext.set ?_ (by omega) _ | refine Ext.alloc ?_ _ | refine Ext.drew ?_ | refine Ext.drewN ?_ _ | refine Ext.trans ?_ (by assumption)))) t0 t1 (by omega) hlt).mono ?_; rw [hx.out]; rintro e1 w1 ⟨rfl, hb1⟩; have hs1 := hb1.size) | (go_at_call 90; refine (open_90 P p r hv _ (hP.out.ext (by with_reducible (repeat first | assumption | exact Ext.refl _ | refine Ext.set ?_ (by omega) _ | refine Ext.alloc ?_ _ | refine Ext.drew ?_ | refine Ext.drewN ?_ _ | refine Ext.trans ?_ (by assumption)))) hf12 hs12).mono ?_; rintro e1 w2 ⟨rfl, hb2⟩; obtain ⟨hc2, hf2, hz2⟩ := hb2.cells; have hs2 := hb2.size; (try simp at hs2)) | (go_at_call 82; refine (lasts_82 P p r hv.at_ (by omega) (by omega) _ (hP.out.ext (by with_reducible (repeat first | assumption | exact Ext.refl _ | refine Ext.set ?_ (by omega) _ | refine Ext.alloc ?_ _ | refine Ext.drew ?_ | refine Ext.drewN ?_ _ | refine Ext.trans ?_ (by assumption))))).mono ?_; rintro e1 w3 ⟨rfl, hb3⟩; obtain ⟨hc3, hf3, hz3⟩ := hb3.cells; have hs3 := hb3.size; (try simp at hs3)) | (at_builtin; go_loud (refine append_one e_haven Haven.enc (fun _ => rfl) haven_one rfl _ _ rfl w.heap.size u6 (P.havens tick _ k) rfl hv #[.int .i64 hv.place, .int .i64 hv.at_, .bool hv.back] rfl _ rfl (by first | rfl | simp) (hown.out.ext (by with_reducible (repeat first | assumption | exact Ext.refl _ | refine Ext.set ?_ (by omega) _ | refine Ext.alloc ?_ _ | refine Ext.drew ?_ | refine Ext.drewN ?_ _ | refine Ext.trans ?_ (by assumption)))) (by omega) (by omega) ?_); intro v' w4 hown2 hgrow))
          all_goals
            first
            | (go_roundw
               case rel => exact ⟨k + 1, by omega, by go_num, by rw [hsucc.out, if_pos (by rw [hkp.out]; simp [*]), hx.out]; exact hown2, grown_ext w (by with_reducible (repeat first | assumption | exact Ext.refl _ | refine Ext.set ?_ (by omega) _ | refine Ext.alloc ?_ _ | refine Ext.drew ?_ | refine Ext.drewN ?_ _ | refine Ext.trans ?_ (by assumption))) (Nat.le_refl _) (fun g hg => (hown.out.lt hg).1) hgrow⟩
               case measure => simp [intOf]; omega)
            | (go_roundw
               case rel => exact ⟨k + 1, by omega, by go_num, by rw [hsucc.out, if_neg (by rw [hkp.out]; simp [*]), List.append_nil]; exact hown.out.ext (by with_reducible (repeat first | assumption | exact Ext.refl _ | refine Ext.set ?_ (by omega) _ | refine Ext.alloc ?_ _ | refine Ext.drew ?_ | refine Ext.drewN ?_ _ | refine Ext.trans ?_ (by assumption))), (by with_reducible (repeat first | assumption | exact Ext.refl _ | refine Ext.set ?_ (by omega) _ | refine Ext.alloc ?_ _ | refine Ext.drew ?_ | refine Ext.drewN ?_ _ | refine Ext.trans ?_ (by assumption)))⟩
               case measure => simp [intOf]; omega)
    · obtain rfl : k = P.N.n := by omega
      have hown := Lib.hid hown
      go_wp2_with fail
      go_ret
      exact ⟨_, rfl, hown.out, he⟩
end Go.Proofs.YtmmimbcfgobnaaaGreat
