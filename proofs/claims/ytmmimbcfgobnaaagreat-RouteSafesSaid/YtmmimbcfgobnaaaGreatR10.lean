/- route: proof, least. -/
import Derived.Test.YtmmimbcfgobnaaaGreatR8
import Derived.Test.YtmmimbcfgobnaaaGreatR9
set_option linter.unusedVariables false
set_option linter.unusedSimpArgs false
namespace Go.Proofs.YtmmimbcfgobnaaaGreat
open Go.RowKit
set_option linter.unusedVariables false
set_option linter.unusedSimpArgs false
attribute [local go_sem] stored_match isSome_setCell

theorem Plan.safeTo_succ (P : Plan) (dry : Bool) (k : Nat) : P.safeTo dry (k + 1) = (P.safeTo dry k && P.safeAt dry k) := by
  simp [Plan.safeTo, List.range_succ]
theorem Plan.proofTo_succ (P : Plan) (dry : Bool) (k : Nat) : P.proofTo dry (k + 1) = P.proofTo dry k ++ [P.bestAt dry k] := by
  simp [Plan.proofTo, List.range_succ]
theorem Plan.proofTo_length (P : Plan) (dry : Bool) (k : Nat) : (P.proofTo dry k).length = k := by simp [Plan.proofTo]
theorem Plan.arrival_bd {P : Plan} (hng : P.N.good = true) (hfg : P.f.good P.N.met.places P.N.L = true) : 0 ≤ P.f.depart ∧ P.f.depart ≤ P.f.arrival P.N.L ∧ P.f.arrival P.N.L ≤ 2000 := by
  obtain ⟨-, -, -, hLu, -⟩ := Net.good_parts hng
  have hst := Flight.at_step hLu hfg
  obtain ⟨hpl, -, -, har⟩ := Flight.good_parts hfg
  obtain ⟨⟨l1, l2⟩, ⟨d1, d2⟩, -⟩ := Flight.plain_parts hpl
  have := (hst P.f.last (by unfold Flight.last; omega)).1
  exact ⟨d1, this, har⟩
theorem Plan.all_length (P : Plan) (tick : Int) (dry : Bool) : (P.all tick dry).length ≤ P.N.n := P.havens_length tick dry _
inductive ProofPost (P : Plan) (w : World) (e : Ending) (w' : World) : Prop where
  | yes (v : Value) (hs : P.safeTo false P.ticks = true) (he : e = .returned (.tuple #[v, .int .i64 0, .bool true])) (ho : Owns 46 3 Haven.enc w' w.heap.size v (P.proofTo false P.ticks)) (hx : Ext w w')
  | no (k : Nat) (hk : k < P.ticks) (hs : P.safeTo false k = true) (hn : P.safeAt false k = false) (he : e = .returned (.tuple #[.slice none 0 0, .int .i64 (P.f.depart + k), .bool false])) (hx : Ext w w')
set_option maxRecDepth 100000 in
set_option maxHeartbeats 2000000 in
theorem proof_70 (P : Plan) (p : Nat) (r : Refs) (w : World) (h : PlanAt w P p r) (hf12 : P.N.met.fc12) (hs12 : P.N.met.si12) :
    Calls Tryz.prog 70 #[.pointer (some ⟨p, 0, none⟩)] w (ProofPost P w) := by
  obtain ⟨-, -, ⟨n1, n2, n3, n4⟩, -, -⟩ := Net.good_parts h.ngood
  obtain ⟨d0, d1, d2⟩ := Plan.arrival_bd h.ngood h.fgood
  have hP := Lib.hid h
  have f2 := h.fl.c2
  have fl := h.fl.lt
  have ht0 : P.f.depart + (P.ticks : Int) ≤ P.f.arrival P.N.L + 1 := by unfold Plan.ticks; omega
  have ht1 : P.f.arrival P.N.L + 1 ≤ P.f.depart + (P.ticks : Int) := by unfold Plan.ticks; omega
  clear h
  go_enter Tryz.func70, Tryz.ntmps70
  go_wp2_with fail
  go_loopw [2, 5] (fun v t wr => ∃ k : Nat, k ≤ P.ticks ∧ t = .int .i64 (P.f.depart + k) ∧ P.safeTo false k = true ∧ Owns 46 3 Haven.enc wr w.heap.size v (P.proofTo false k) ∧ Ext w wr) (fun _ t _ => (P.f.arrival P.N.L + 1 - intOf t).toNat)
  case atStart => exact ⟨0, Nat.zero_le _, by simp, rfl, Owns.nil _ _ _ _ _, Ext.refl _⟩
  case round =>
    obtain ⟨k, hk, rfl, hsafe, hown, he⟩ := hrel
    have hes := he.size
    by_cases hlt : k < P.ticks
    · have e1 : P.f.depart ≤ P.f.depart + (k : Int) := by omega
      have e2 : P.f.depart + (k : Int) ≤ P.f.arrival P.N.L := by omega
      have hle := P.all_length (P.f.depart + k) false
      have hsu := Lib.hid (P.safeTo_succ false k)
      have hpu := Lib.hid (P.proofTo_succ false k)
      have hpl := P.proofTo_length false k
      have hsA := show P.safeAt false k = hasBest (P.all (P.f.depart + k) false) from rfl
      have hbA := Lib.hid (show P.bestAt false k = bestOf (P.all (P.f.depart + k) false) from rfl)
      have hown := Lib.hid hown
      have hsafe := Lib.hid hsafe
      rcases Bool.eq_false_or_eq_true (hasBest (P.all (P.f.depart + k) false)) with hh | hh
      · have hsA := Lib.hid (hsA.trans hh)
        go_wp2_with (first | (go_at_call 77; refine (arrival_77 P p r _ (hP.out.ext (by with_reducible (repeat first | assumption | exact Ext.refl _ | refine Ext.set ?_ (by omega) _ | refine Ext.alloc ?_ _ | refine Ext.drew ?_ | refine Ext.drewN ?_ _ | refine Ext.trans ?_ (by assumption))))).mono ?_; rintro e1 w1 ⟨rfl, hb1⟩; have hs1 := hb1.size) | (go_at_call 58; refine (havens_58 P p r (P.f.depart + k) false _ (hP.out.ext (by with_reducible (repeat first | assumption | exact Ext.refl _ | refine Ext.set ?_ (by omega) _ | refine Ext.alloc ?_ _ | refine Ext.drew ?_ | refine Ext.drewN ?_ _ | refine Ext.trans ?_ (by assumption)))) e1 e2 hf12 hs12).mono ?_; rintro e1 w2 ⟨v, rfl, hO, hb2⟩; obtain ⟨A, c, rfl, hRr⟩ := hO.rows (fun _ => rfl) (by omega); have hs2 := hb2.size; replace hO := Lib.hid hO) | (go_at_call 61; refine (best_61 _ A _ c _ (hRr.ext (by with_reducible (repeat first | assumption | exact Ext.refl _ | refine Ext.set ?_ (by omega) _ | refine Ext.alloc ?_ _ | refine Ext.drew ?_ | refine Ext.drewN ?_ _ | refine Ext.trans ?_ (by assumption)))) (by omega)).mono ?_; rintro e1 w3 ⟨rfl, hb3⟩; have hs3 := hb3.size) | (at_builtin; refine append_one e_haven Haven.enc (fun _ => rfl) haven_one rfl _ _ rfl w.heap.size u2 (P.proofTo false k) rfl (bestOf (P.all (P.f.depart + k) false)) #[.int .i64 (bestOf (P.all (P.f.depart + k) false)).place, .int .i64 (bestOf (P.all (P.f.depart + k) false)).at_, .bool (bestOf (P.all (P.f.depart + k) false)).back] rfl _ rfl (by first | rfl | simp) (hown.out.ext (by with_reducible (repeat first | assumption | exact Ext.refl _ | refine Ext.set ?_ (by omega) _ | refine Ext.alloc ?_ _ | refine Ext.drew ?_ | refine Ext.drewN ?_ _ | refine Ext.trans ?_ (by assumption)))) (by first | omega | (simp; omega)) (by omega) ?_; intro v' w4 hown2 hgrow))
        go_roundw
        case rel => exact ⟨k + 1, by omega, by rw [show P.f.depart + (k : Int) + 1 = P.f.depart + ((k + 1 : Nat) : Int) by omega], by rw [hsu.out, hsafe.out, hsA.out]; rfl, by rw [hpu.out, hbA.out]; exact hown2, grown_ext w (by with_reducible (repeat first | assumption | exact Ext.refl _ | refine Ext.set ?_ (by omega) _ | refine Ext.alloc ?_ _ | refine Ext.drew ?_ | refine Ext.drewN ?_ _ | refine Ext.trans ?_ (by assumption))) (Nat.le_refl _) (fun g hg => (hown.out.lt hg).1) hgrow⟩
        case measure => simp [intOf]; omega
      · have hsA := Lib.hid (hsA.trans hh)
        go_wp2_with (first | (go_at_call 77; refine (arrival_77 P p r _ (hP.out.ext (by with_reducible (repeat first | assumption | exact Ext.refl _ | refine Ext.set ?_ (by omega) _ | refine Ext.alloc ?_ _ | refine Ext.drew ?_ | refine Ext.drewN ?_ _ | refine Ext.trans ?_ (by assumption))))).mono ?_; rintro e1 w1 ⟨rfl, hb1⟩; have hs1 := hb1.size) | (go_at_call 58; refine (havens_58 P p r (P.f.depart + k) false _ (hP.out.ext (by with_reducible (repeat first | assumption | exact Ext.refl _ | refine Ext.set ?_ (by omega) _ | refine Ext.alloc ?_ _ | refine Ext.drew ?_ | refine Ext.drewN ?_ _ | refine Ext.trans ?_ (by assumption)))) e1 e2 hf12 hs12).mono ?_; rintro e1 w2 ⟨v, rfl, hO, hb2⟩; obtain ⟨A, c, rfl, hRr⟩ := hO.rows (fun _ => rfl) (by omega); have hs2 := hb2.size; replace hO := Lib.hid hO) | (go_at_call 61; refine (best_61 _ A _ c _ (hRr.ext (by with_reducible (repeat first | assumption | exact Ext.refl _ | refine Ext.set ?_ (by omega) _ | refine Ext.alloc ?_ _ | refine Ext.drew ?_ | refine Ext.drewN ?_ _ | refine Ext.trans ?_ (by assumption)))) (by omega)).mono ?_; rintro e1 w3 ⟨rfl, hb3⟩; have hs3 := hb3.size))
        go_ret3
        exact .no k hlt hsafe.out hsA.out rfl (by with_reducible (repeat first | assumption | exact Ext.refl _ | refine Ext.set ?_ (by omega) _ | refine Ext.alloc ?_ _ | refine Ext.drew ?_ | refine Ext.drewN ?_ _ | refine Ext.trans ?_ (by assumption)))
    · obtain rfl : k = P.ticks := by omega
      have hown := Lib.hid hown
      have hsafe := Lib.hid hsafe
      have e2 : ¬ P.f.depart + (P.ticks : Int) ≤ P.f.arrival P.N.L := by omega
      go_wp2_with (go_at_call 77; refine (arrival_77 P p r _ (hP.out.ext (by with_reducible (repeat first | assumption | exact Ext.refl _ | refine Ext.set ?_ (by omega) _ | refine Ext.alloc ?_ _ | refine Ext.drew ?_ | refine Ext.drewN ?_ _ | refine Ext.trans ?_ (by assumption))))).mono ?_; rintro e1 w1 ⟨rfl, hb1⟩; have hs1 := hb1.size)
      go_ret3
      exact .yes _ hsafe.out rfl (hown.out.ext (by with_reducible (repeat first | assumption | exact Ext.refl _ | refine Ext.set ?_ (by omega) _ | refine Ext.alloc ?_ _ | refine Ext.drew ?_ | refine Ext.drewN ?_ _ | refine Ext.trans ?_ (by assumption)))) (by with_reducible (repeat first | assumption | exact Ext.refl _ | refine Ext.set ?_ (by omega) _ | refine Ext.alloc ?_ _ | refine Ext.drew ?_ | refine Ext.drewN ?_ _ | refine Ext.trans ?_ (by assumption)))
theorem mx_of (a b : Int) : mx a b = if a < b then b else a := rfl
/-- The least fuel, and whether it is enough. -/
inductive LeastPost (P : Plan) (w : World) (e : Ending) (w' : World) : Prop where
  | yes (hs : P.safeTo true P.ticks = true) (he : e = .returned (.tuple #[.int .i64 (P.mostTo P.ticks), .bool (decide (P.mostTo P.ticks ≤ 100000))])) (hx : Ext w w')
  | no (k : Nat) (hk : k < P.ticks) (hs : P.safeTo true k = true) (hn : P.safeAt true k = false) (he : e = .returned (.tuple #[.int .i64 0, .bool false])) (hx : Ext w w')
theorem bestOf_mem : ∀ {L : List Haven}, hasBest L = true → bestOf L ∈ L
  | [], h => by simp [hasBest] at h
  | x :: t, _ => by
    have : ∀ (t : List Haven) (m : Haven), t.foldl sooner m = m ∨ t.foldl sooner m ∈ t := by
      intro t
      induction t with
      | nil => intro m; exact .inl rfl
      | cons y t ih =>
        intro m
        rw [List.foldl_cons]
        rcases ih (sooner m y) with h | h
        · rw [h]
          unfold sooner
          split
          · exact .inr (by simp)
          · exact .inl rfl
        · exact .inr (by simp [h])
    rcases this t x with h | h
    · rw [bestOf, h]; simp
    · rw [bestOf]; simp [h]
theorem Plan.mem_all {P : Plan} {tick : Int} {dry : Bool} {x : Haven} (h : x ∈ P.all tick dry) : ∃ k : Nat, k < P.N.n ∧ x = (P.reach tick k).1 ∧ P.keeps tick dry k = true := by
  unfold Plan.all Plan.havens at h
  rw [List.mem_map] at h
  obtain ⟨k, hk, rfl⟩ := h
  rw [List.mem_filter, List.mem_range] at hk
  exact ⟨k, hk.1, rfl, hk.2⟩
theorem Plan.best_bd {P : Plan} (hng : P.N.good = true) (hfg : P.f.good P.N.met.places P.N.L = true) {tick : Int} {dry : Bool} (t0 : P.f.depart ≤ tick) (t1 : tick ≤ P.f.arrival P.N.L) (h : hasBest (P.all tick dry) = true) :
    -1 ≤ (bestOf (P.all tick dry)).at_ ∧ (bestOf (P.all tick dry)).at_ ≤ 60000 := by
  obtain ⟨k, _, e, _⟩ := Plan.mem_all (bestOf_mem h)
  rw [e]
  exact P.reach_bd hng hfg t0 t1
set_option maxRecDepth 100000 in
set_option maxHeartbeats 2000000 in
theorem least_69 (P : Plan) (p : Nat) (r : Refs) (w : World) (h : PlanAt w P p r) (hf12 : P.N.met.fc12) (hs12 : P.N.met.si12) :
    Calls Tryz.prog 69 #[.pointer (some ⟨p, 0, none⟩)] w (LeastPost P w) := by
  obtain ⟨-, -, ⟨n1, n2, n3, n4⟩, -, -⟩ := Net.good_parts h.ngood
  obtain ⟨d0, d1, d2⟩ := Plan.arrival_bd h.ngood h.fgood
  obtain ⟨_, _, _, ⟨z1, z2⟩, ⟨z3, z4⟩⟩ := Flight.plain_parts (Flight.good_parts h.fgood).1
  have hbb := Lib.hid (fun tick (t0 : P.f.depart ≤ tick) t1 hh => P.best_bd (tick := tick) (dry := true) h.ngood h.fgood t0 t1 hh)
  have hP := Lib.hid h
  have f2 := h.fl.c2
  have f4 := h.fl.c4
  have f5 := h.fl.c5
  have fl := h.fl.lt
  have ht0 : P.f.depart + (P.ticks : Int) ≤ P.f.arrival P.N.L + 1 := by unfold Plan.ticks; omega
  have ht1 : P.f.arrival P.N.L + 1 ≤ P.f.depart + (P.ticks : Int) := by unfold Plan.ticks; omega
  clear h
  go_enter Tryz.func69, Tryz.ntmps69
  go_wp2_with fail
  go_loopw [4, 5] (fun v t wr => ∃ k : Nat, k ≤ P.ticks ∧ t = .int .i64 (P.f.depart + k) ∧ P.safeTo true k = true ∧ v = .int .i64 (P.mostTo k) ∧ 0 ≤ P.mostTo k ∧ Ext w wr) (fun _ t _ => (P.f.arrival P.N.L + 1 - intOf t).toNat)
  case atStart => exact ⟨0, Nat.zero_le _, by simp, rfl, rfl, Int.le_refl _, Ext.refl _⟩
  case round =>
    obtain ⟨k, hk, rfl, hsafe, rfl, hm0, he⟩ := hrel
    have hes := he.size
    by_cases hlt : k < P.ticks
    · have e1 : P.f.depart ≤ P.f.depart + (k : Int) := by omega
      have e2 : P.f.depart + (k : Int) ≤ P.f.arrival P.N.L := by omega
      have hle := P.all_length (P.f.depart + k) true
      have hsu := Lib.hid (P.safeTo_succ true k)
      have hsA := show P.safeAt true k = hasBest (P.all (P.f.depart + k) true) from rfl
      have hms := Lib.hid (show P.mostTo (k + 1) = mx (P.mostTo k) (P.f.reserve + P.f.burn * ((bestOf (P.all (P.f.depart + k) true)).at_ - P.f.depart)) from rfl)
      have hsafe := Lib.hid hsafe
      rcases Bool.eq_false_or_eq_true (hasBest (P.all (P.f.depart + k) true)) with hh | hh
      · have hsA := Lib.hid (hsA.trans hh)
        obtain ⟨c1, c2⟩ := hbb.out _ e1 e2 hh
        generalize P.mostTo k = mo at *
        have hmul := mul_bd (a := P.f.burn) (b := (bestOf (P.all (P.f.depart + k) true)).at_ - P.f.depart) (A := 100000) (B := 70000) (by omega) z4 (by omega) (by omega) (by omega)
        go_wp2_with (first | (go_at_call 77; refine (arrival_77 P p r _ (hP.out.ext (by with_reducible (repeat first | assumption | exact Ext.refl _ | refine Ext.set ?_ (by omega) _ | refine Ext.alloc ?_ _ | refine Ext.drew ?_ | refine Ext.drewN ?_ _ | refine Ext.trans ?_ (by assumption))))).mono ?_; rintro e1 w1 ⟨rfl, hb1⟩; have hs1 := hb1.size) | (go_at_call 58; refine (havens_58 P p r (P.f.depart + k) true _ (hP.out.ext (by with_reducible (repeat first | assumption | exact Ext.refl _ | refine Ext.set ?_ (by omega) _ | refine Ext.alloc ?_ _ | refine Ext.drew ?_ | refine Ext.drewN ?_ _ | refine Ext.trans ?_ (by assumption)))) e1 e2 hf12 hs12).mono ?_; rintro e1 w2 ⟨v, rfl, hO, hb2⟩; obtain ⟨A, c, rfl, hRr⟩ := hO.rows (fun _ => rfl) (by omega); have hs2 := hb2.size; replace hO := Lib.hid hO) | (go_at_call 61; refine (best_61 _ A _ c _ (hRr.ext (by with_reducible (repeat first | assumption | exact Ext.refl _ | refine Ext.set ?_ (by omega) _ | refine Ext.alloc ?_ _ | refine Ext.drew ?_ | refine Ext.drewN ?_ _ | refine Ext.trans ?_ (by assumption)))) (by omega)).mono ?_; rintro e1 w3 ⟨rfl, hb3⟩; have hs3 := hb3.size))
        have hx3 : Ext w w3 := (by with_reducible (repeat first | assumption | exact Ext.refl _ | refine Ext.set ?_ (by omega) _ | refine Ext.alloc ?_ _ | refine Ext.drew ?_ | refine Ext.drewN ?_ _ | refine Ext.trans ?_ (by assumption)))
        have g2 := (hx3.cells.1 _ _ fl).trans f2
        have g4 := (hx3.cells.1 _ _ fl).trans f4
        have g5 := (hx3.cells.1 _ _ fl).trans f5
        have gl := hx3.cells.2.2 _ fl
        refine name_world (R := fun W => Code.wp _ _ _ _ W) fun W0 hx0 hc0 hf0 hz0 => ?_
        have q1 : W0.cell? ⟨w3.heap.size, 1, none⟩ = some (.int .i64 (bestOf (P.all (P.f.depart + k) true)).at_) := by rw [hc0]; simp
        have hx4 : Ext w3 W0 := (by with_reducible (repeat first | assumption | exact Ext.refl _ | refine Ext.set ?_ (by omega) _ | refine Ext.alloc ?_ _ | refine Ext.drew ?_ | refine Ext.drewN ?_ _ | refine Ext.trans ?_ (by assumption)))
        have g2 := (hx4.cells.1 _ _ gl).trans g2
        have g4 := (hx4.cells.1 _ _ gl).trans g4
        have g5 := (hx4.cells.1 _ _ gl).trans g5
        have gl := hx4.cells.2.2 _ gl
        have gq : w3.heap.size < W0.heap.size := by simp at hz0; omega
        clear hc0 hf0 hz0 hx0 f2 f4 f5
        generalize hgx : bestOf (P.all (P.f.depart + k) true) = x at *
        replace hgx := Lib.hid hgx
        have w1_ : IntKind.i64.wrap (x.at_ - P.f.depart) = x.at_ - P.f.depart := IntWalk.i64_in _ (by omega)
        have w2_ : IntKind.i64.wrap (P.f.burn * (x.at_ - P.f.depart)) = P.f.burn * (x.at_ - P.f.depart) := IntWalk.i64_in _ (by omega)
        have w3_ : IntKind.i64.wrap (P.f.reserve + P.f.burn * (x.at_ - P.f.depart)) = P.f.reserve + P.f.burn * (x.at_ - P.f.depart) := IntWalk.i64_in _ (by omega)
        by_cases hmx : mo < P.f.reserve + P.f.burn * (x.at_ - P.f.depart)
        · have hmq := Lib.hid (show mx mo (P.f.reserve + P.f.burn * (x.at_ - P.f.depart)) = P.f.reserve + P.f.burn * (x.at_ - P.f.depart) by rw [mx_of, if_pos hmx])
          clear hmul
          go_region
          all_goals
            clear w1_ w2_ w3_
            go_wp2_with fail
            go_roundw
            case rel => exact ⟨k + 1, by omega, by rw [show P.f.depart + (k : Int) + 1 = P.f.depart + ((k + 1 : Nat) : Int) by omega], by rw [hsu.out, hsafe.out, hsA.out]; rfl, by rw [hms.out, hmq.out], by rw [hms.out, hmq.out]; omega, (by with_reducible (repeat first | assumption | exact Ext.refl _ | refine Ext.set ?_ (by omega) _ | refine Ext.alloc ?_ _ | refine Ext.drew ?_ | refine Ext.drewN ?_ _ | refine Ext.trans ?_ (by assumption)))⟩
            case measure => simp [intOf]; omega
        · have hmq := Lib.hid (show mx mo (P.f.reserve + P.f.burn * (x.at_ - P.f.depart)) = mo by rw [mx_of, if_neg hmx])
          clear hmul
          go_region
          all_goals
            clear w1_ w2_ w3_
            go_wp2_with fail
            go_roundw
            case rel => exact ⟨k + 1, by omega, by rw [show P.f.depart + (k : Int) + 1 = P.f.depart + ((k + 1 : Nat) : Int) by omega], by rw [hsu.out, hsafe.out, hsA.out]; rfl, by rw [hms.out, hmq.out], by rw [hms.out, hmq.out]; omega, (by with_reducible (repeat first | assumption | exact Ext.refl _ | refine Ext.set ?_ (by omega) _ | refine Ext.alloc ?_ _ | refine Ext.drew ?_ | refine Ext.drewN ?_ _ | refine Ext.trans ?_ (by assumption)))⟩
            case measure => simp [intOf]; omega
      · have hsA := Lib.hid (hsA.trans hh)
        go_wp2_with (first | (go_at_call 77; refine (arrival_77 P p r _ (hP.out.ext (by with_reducible (repeat first | assumption | exact Ext.refl _ | refine Ext.set ?_ (by omega) _ | refine Ext.alloc ?_ _ | refine Ext.drew ?_ | refine Ext.drewN ?_ _ | refine Ext.trans ?_ (by assumption))))).mono ?_; rintro e1 w1 ⟨rfl, hb1⟩; have hs1 := hb1.size) | (go_at_call 58; refine (havens_58 P p r (P.f.depart + k) true _ (hP.out.ext (by with_reducible (repeat first | assumption | exact Ext.refl _ | refine Ext.set ?_ (by omega) _ | refine Ext.alloc ?_ _ | refine Ext.drew ?_ | refine Ext.drewN ?_ _ | refine Ext.trans ?_ (by assumption)))) e1 e2 hf12 hs12).mono ?_; rintro e1 w2 ⟨v, rfl, hO, hb2⟩; obtain ⟨A, c, rfl, hRr⟩ := hO.rows (fun _ => rfl) (by omega); have hs2 := hb2.size; replace hO := Lib.hid hO) | (go_at_call 61; refine (best_61 _ A _ c _ (hRr.ext (by with_reducible (repeat first | assumption | exact Ext.refl _ | refine Ext.set ?_ (by omega) _ | refine Ext.alloc ?_ _ | refine Ext.drew ?_ | refine Ext.drewN ?_ _ | refine Ext.trans ?_ (by assumption)))) (by omega)).mono ?_; rintro e1 w3 ⟨rfl, hb3⟩; have hs3 := hb3.size))
        go_ret2
        exact .no k hlt hsafe.out hsA.out rfl (by with_reducible (repeat first | assumption | exact Ext.refl _ | refine Ext.set ?_ (by omega) _ | refine Ext.alloc ?_ _ | refine Ext.drew ?_ | refine Ext.drewN ?_ _ | refine Ext.trans ?_ (by assumption)))
    · obtain rfl : k = P.ticks := by omega
      have hsafe := Lib.hid hsafe
      have e2 : ¬ P.f.depart + (P.ticks : Int) ≤ P.f.arrival P.N.L := by omega
      go_wp2_with (go_at_call 77; refine (arrival_77 P p r _ (hP.out.ext (by with_reducible (repeat first | assumption | exact Ext.refl _ | refine Ext.set ?_ (by omega) _ | refine Ext.alloc ?_ _ | refine Ext.drew ?_ | refine Ext.drewN ?_ _ | refine Ext.trans ?_ (by assumption))))).mono ?_; rintro e1 w1 ⟨rfl, hb1⟩; have hs1 := hb1.size)
      go_ret2
      exact .yes hsafe.out rfl (by with_reducible (repeat first | assumption | exact Ext.refl _ | refine Ext.set ?_ (by omega) _ | refine Ext.alloc ?_ _ | refine Ext.drew ?_ | refine Ext.drewN ?_ _ | refine Ext.trans ?_ (by assumption)))
end Go.Proofs.YtmmimbcfgobnaaaGreat
