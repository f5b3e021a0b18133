/- The reference: times. -/
import Derived.Test.YtmmimbcfgobnaaaGreatQ7
namespace Go.Proofs.YtmmimbcfgobnaaaGreat
open Go.RowKit
set_option linter.unusedVariables false
set_option linter.unusedSimpArgs false
attribute [local go_sem] stored_match isSome_setCell

def TabPost (n : Nat) (f : Tab) (w : World) (e : Ending) (w' : World) : Prop :=
  ∃ lo hi g c r cp, e = .returned (.slice (some ⟨g, 0, none⟩) n c) ∧ TabC w' lo hi g n r cp f ∧ Ext w w'
structure FwSt (W1 : World) (hi g n : Nat) (r cp : Nat → Nat) (f : Tab) (wr : World) : Prop where
  tab : TabC wr W1.heap.size hi g n r cp f
  ext : Ext W1 wr
theorem FwSt.set {W1 : World} {hi g n : Nat} {r cp : Nat → Nat} {f : Tab} {wr : World} (h : FwSt W1 hi g n r cp f wr) {w' : World} (e : Ext wr w') {a b : Nat} (ha : a < n) (hb : b < n) (v : Int) : FwSt W1 hi g n r cp (f.set a b v) (w'.setCell ⟨r a, b, none⟩ (.int .i64 v)) :=
  ⟨(h.tab.ext e).set ha hb v, (h.ext.trans e).set (h.tab.r1 a ha) _⟩
theorem FwSt.grow {W1 : World} {hi g n : Nat} {r cp : Nat → Nat} {f : Tab} {wr w' : World} (h : FwSt W1 hi g n r cp f wr) (e : Ext wr w') : FwSt W1 hi g n r cp f w' := ⟨h.tab.ext e, h.ext.trans e⟩
theorem diag_at {f : Tab} {n a b : Nat} (ha : a < n) (hb : b < n) : (f.diag n) a b = if a = b then 0 else f a b := by
  unfold Tab.diag
  by_cases h : a = b
  · rw [if_pos h, if_pos (by omega)]
  · rw [if_neg h, if_neg (by omega)]
set_option maxRecDepth 100000 in
set_option maxHeartbeats 2000000 in
theorem times_66 (N : Net) (AF AS : Option Addr) (nF cF nS cS : Nat) (A : Option Addr) (nx c : Nat) (w : World) (hX : Rows 3 Leg.enc w A nx N.net) (hg : N.good = true) :
    Calls Tryz.prog 66 #[N.met.val (.slice AF nF cF) (.slice AS nS cS), .slice A nx c] w (TabPost N.n N.T w) := by
  obtain ⟨-, hp, ⟨n1, n2, n3, n8⟩, hLu, hTu⟩ := Net.good_parts hg
  have hLe : legTab N.net = legOf N.net := legTab_eq (fun x hx => by
    unfold Net.good at hg
    simp only [Bool.and_eq_true, decide_eq_true_eq, List.all_eq_true] at hg
    exact (Leg.ok_parts (hg.2 x hx)).2.2.1)
  have hTe : N.T = Tab.fw N.n ((legOf N.net).diag N.n) N.n := by rw [← hLe]; rfl
  have hup : ((legOf N.net).diag N.n).upto 200 ∧ ∀ a : Int, 0 ≤ a → a < N.n → ((legOf N.net).diag N.n) a a = 0 := by
    rw [← hLe]
    exact ⟨hLu.diag (by omega) _, fun a h0 h1 => by unfold Tab.diag; rw [if_pos ⟨rfl, h0, h1⟩]⟩
  rw [hTe]
  generalize hn : N.n = n at *
  have hD : ∀ a b : Nat, a < n → b < n → ((legOf N.net).diag n) a b = if a = b then 0 else legOf N.net a b := fun a b ha hb => diag_at ha hb
  generalize (legOf N.net).diag n = D at *
  have hD := Lib.hid hD
  have hup := Lib.hid hup
  have hX := Lib.hid hX
  clear hLu hTu hLe hTe hg hn
  simp only [Met.val]
  go_enter Tryz.func66, Tryz.ntmps66
  go_wp2_with fail
  refine name_world (R := fun W => Code.wp _ _ _ _ W) fun W1 hx1 hc1 hf1 hz1 => ?_
  have hxw : Ext w W1 := (by with_reducible (repeat first | assumption | exact Ext.refl _ | refine Ext.set ?_ (by omega) _ | refine Ext.alloc ?_ _ | refine Ext.drew ?_ | refine Ext.drewN ?_ _ | refine Ext.trans ?_ (by assumption)))
  have b0 : W1.cell? ⟨w.heap.size, 0, none⟩ = some (.int .i64 N.met.places) := by go_simp
  have e0 : w.heap.size < W1.heap.size := by have := hx1.size; simp at this; omega
  have hxw := Lib.hid hxw
  clear hx1 hc1 hf1 hz1
  go_loopw [5, 6] (fun v i wr => ∃ k : Nat, k ≤ n ∧ i = .int .i64 k ∧ ∃ gs, Grid n D W1 k v gs wr) (fun _ i _ => n - (intOf i).toNat)
  case atStart => exact ⟨0, Nat.zero_le _, rfl, [], rfl, Owns.nil _ _ _ _ _, fun i h => absurd h (by simp), by simp, Ext.refl _⟩
  case round =>
    obtain ⟨k, hk, rfl, gs, hS⟩ := hrel
    have b1 := (hS.ext.cells.1 _ _ e0).trans b0
    have e1 := Nat.lt_of_lt_of_le e0 hS.ext.size
    by_cases hlt : (k : Int) < N.met.places
    · have hl := hS.len
      have hes := hS.ext.size
      have hown := Lib.hid hS.own
      have hXr := Lib.hid (hX.out.ext (hxw.out.trans hS.ext))
      have hS := Lib.hid hS
      have hk2 : k < n := by omega
      go_wp2_with fail
      obtain ⟨wo, rfl⟩ : ∃ wo : World, wo = wr := ⟨_, rfl⟩
      go_loopw [7, 8] (fun v i wr => ∃ b : Nat, b ≤ n ∧ i = .int .i64 b ∧ Owns 3 1 encInt wr wo.heap.size v (rowOf D k b) ∧ Ext wo wr) (fun _ i _ => n - (intOf i).toNat)
      case atStart => exact ⟨0, Nat.zero_le _, rfl, Owns.nil _ _ _ _ _, Ext.refl _⟩
      case round =>
        obtain ⟨b, hb, rfl, hown2, he⟩ := hrel
        have q1 := (he.cells.1 _ _ e1).trans b1
        have q2 := Nat.lt_of_lt_of_le e1 he.size
        have q3 := he.size
        by_cases hlt2 : (b : Int) < N.met.places
        · have hb2 : b < n := by omega
          have hv := hD.out k b hk2 hb2
          have hown2 := Lib.hid hown2
          by_cases hkb : k = b
          · rw [if_pos hkb] at hv
            have hv := Lib.hid hv
            subst hkb
            go_wp2_with (first | (go_at_call 103; refine (leg_103 N.net A nx c _ _ _ (hXr.out.ext (by with_reducible (repeat first | assumption | exact Ext.refl _ | refine Ext.set ?_ (by omega) _ | refine Ext.alloc ?_ _ | refine Ext.drew ?_ | refine Ext.drewN ?_ _ | refine Ext.trans ?_ (by assumption))))).mono ?_; rintro ee w1 ⟨rfl, hb1⟩; obtain ⟨hc1, hf1, hz1⟩ := hb1.cells; have hs1 := hb1.size) | (at_builtin; refine append_one e_int encInt (fun _ => rfl) encInt_one rfl _ _ rfl wo.heap.size _ (rowOf D k k) rfl 0 #[.int .i64 0] rfl _ rfl (by first | rfl | simp) (hown2.out.ext (by with_reducible (repeat first | assumption | exact Ext.refl _ | refine Ext.set ?_ (by omega) _ | refine Ext.alloc ?_ _ | refine Ext.drew ?_ | refine Ext.drewN ?_ _ | refine Ext.trans ?_ (by assumption)))) (by first | omega | (simp; omega)) (by rw [rowOf_length]; omega) ?_; intro v' w2 hown3 hgrow))
            go_roundw
            case rel => exact ⟨k + 1, by omega, by go_num, by rw [rowOf_succ, hv.out]; exact hown3, grown_ext wo (he.trans ((by with_reducible (repeat first | assumption | exact Ext.refl _ | refine Ext.set ?_ (by omega) _ | refine Ext.alloc ?_ _ | refine Ext.drew ?_ | refine Ext.drewN ?_ _ | refine Ext.trans ?_ (by assumption))) : Ext wr _)) (Nat.le_refl _) (fun g' hg' => (hown2.out.lt hg').1) hgrow⟩
            case measure => simp [intOf]; omega
          · rw [if_neg hkb] at hv
            have hv := Lib.hid hv
            have hkb' : ((k : Int) == (b : Int)) = false := by simp; omega
            go_wp2_with (first | (go_at_call 103; refine (leg_103 N.net A nx c _ _ _ (hXr.out.ext (by with_reducible (repeat first | assumption | exact Ext.refl _ | refine Ext.set ?_ (by omega) _ | refine Ext.alloc ?_ _ | refine Ext.drew ?_ | refine Ext.drewN ?_ _ | refine Ext.trans ?_ (by assumption))))).mono ?_; rintro ee w1 ⟨rfl, hb1⟩; obtain ⟨hc1, hf1, hz1⟩ := hb1.cells; have hs1 := hb1.size) | (at_builtin; refine append_one e_int encInt (fun _ => rfl) encInt_one rfl _ _ rfl wo.heap.size _ (rowOf D k b) rfl (legOf N.net k b) #[.int .i64 (legOf N.net k b)] rfl _ rfl (by first | rfl | simp) (hown2.out.ext (by with_reducible (repeat first | assumption | exact Ext.refl _ | refine Ext.set ?_ (by omega) _ | refine Ext.alloc ?_ _ | refine Ext.drew ?_ | refine Ext.drewN ?_ _ | refine Ext.trans ?_ (by assumption)))) (by first | omega | (simp; omega)) (by rw [rowOf_length]; omega) ?_; intro v' w2 hown3 hgrow))
            go_roundw
            case rel => exact ⟨b + 1, by omega, by go_num, by rw [rowOf_succ, hv.out]; exact hown3, grown_ext wo (he.trans ((by with_reducible (repeat first | assumption | exact Ext.refl _ | refine Ext.set ?_ (by omega) _ | refine Ext.alloc ?_ _ | refine Ext.drew ?_ | refine Ext.drewN ?_ _ | refine Ext.trans ?_ (by assumption))) : Ext wr _)) (Nat.le_refl _) (fun g' hg' => (hown2.out.lt hg').1) hgrow⟩
            case measure => simp [intOf]; omega
        · obtain rfl : b = n := by omega
          rcases hown2.form with ⟨e, _⟩ | ⟨g, cap, rfl, hg1, hg2⟩
          · have := rowOf_length D k b
            rw [e] at this
            simp at this
            omega
          · rw [rowOf_length] at hown2
            rw [rowOf_length]
            have hown2 := Lib.hid hown2
            go_wp2_with (at_builtin; refine append_one e_rows (encRowC b) (fun _ => rfl) (encRowC_one b) rfl _ _ rfl W1.heap.size _ gs rfl (g, cap) #[.slice (some ⟨g, 0, none⟩) b cap] rfl _ rfl (by first | rfl | simp) (hown.out.ext (by with_reducible (repeat first | assumption | exact Ext.refl _ | refine Ext.set ?_ (by omega) _ | refine Ext.alloc ?_ _ | refine Ext.drew ?_ | refine Ext.drewN ?_ _ | refine Ext.trans ?_ (by assumption)))) (by first | omega | (simp; omega)) (by omega) ?_; intro v' w2 hown3 hgrow)
            go_roundw
            case rel => exact ⟨k + 1, by omega, by go_num, gs ++ [(g, cap)], hS.out.step he hg1 hown2.out hown3 hgrow⟩
            case measure => simp [intOf]; omega
    · obtain rfl : k = n := by omega
      obtain ⟨g, cp0, r, cp, rfl, hEx, hTb⟩ := hS.done n3
      obtain ⟨hi, hhi⟩ : ∃ hi, hi = wr.heap.size := ⟨_, rfl⟩
      rw [← hhi] at hTb
      have hN : FwSt W1 hi g k r cp (Tab.fw k D 0) wr := ⟨hTb, hEx⟩
      clear hS hTb hEx hhi hD hX hlt
      go_wp2_with fail
      go_loopw [10] (fun i wr => ∃ c : Nat, c ≤ k ∧ i = .int .i64 c ∧ FwSt W1 hi g k r cp (Tab.fw k D c) wr) (fun i _ => k - (intOf i).toNat)
      case atStart => exact ⟨0, Nat.zero_le _, rfl, hN⟩
      case round =>
        clear hN b1 e1
        obtain ⟨c0, hc, rfl, hN⟩ := hrel
        have b1 := (hN.ext.cells.1 _ _ e0).trans b0
        have e1 := Nat.lt_of_lt_of_le e0 hN.ext.size
        by_cases hlt : (c0 : Int) < N.met.places
        · obtain ⟨hq1, hq2⟩ := Tab.fw_phase hup.out.1 hup.out.2 c0 hc
          have hst := Lib.hid (Tab.fw_succ k D c0)
          obtain ⟨B, hB0, hB1, hph⟩ : ∃ B : Int, 0 ≤ B ∧ B ≤ 51200 ∧ (Tab.fw k D c0).phase k c0 B := ⟨200 * 2 ^ c0, (pow_bd (by omega)).2, (pow_bd (by omega)).1, Tab.phase.start hq1 (pow_bd (by omega)).2 hq2 _⟩
          clear hq1 hq2
          generalize Tab.fw k D c0 = F at *
          have hph := Lib.hid hph
          have hc2 : c0 < k := by omega
          go_wp2_with fail
          obtain ⟨wo, rfl⟩ : ∃ wo : World, wo = wr := ⟨_, rfl⟩
          go_loopw [11] (fun i wr => ∃ a : Nat, a ≤ k ∧ i = .int .i64 a ∧ FwSt W1 hi g k r cp (Tab.viaA k F c0 a) wr) (fun i _ => k - (intOf i).toNat)
          case atStart => exact ⟨0, Nat.zero_le _, rfl, hN⟩
          case round =>
            clear hN b1 e1
            obtain ⟨a, ha, rfl, hN⟩ := hrel
            have b1 := (hN.ext.cells.1 _ _ e0).trans b0
            have e1 := Nat.lt_of_lt_of_le e0 hN.ext.size
            by_cases hlt : (a : Int) < N.met.places
            · have hphA := hph.out.viaA (by omega) a ha
              have hst2 := Lib.hid (Tab.viaA_succ k F c0 a)
              generalize Tab.viaA k F c0 a = G at *
              have hphA := Lib.hid hphA
              have ha2 : a < k := by omega
              go_wp2_with fail
              obtain ⟨wo2, rfl⟩ : ∃ wo2 : World, wo2 = wr := ⟨_, rfl⟩
              go_loopw [12] (fun i wr => ∃ b : Nat, b ≤ k ∧ i = .int .i64 b ∧ FwSt W1 hi g k r cp (G.viaB c0 a b) wr) (fun i _ => k - (intOf i).toNat)
              case atStart => exact ⟨0, Nat.zero_le _, rfl, hN⟩
              case round =>
                clear hN b1 e1
                obtain ⟨b, hb, rfl, hN⟩ := hrel
                have b1 := (hN.ext.cells.1 _ _ e0).trans b0
                have e1 := Nat.lt_of_lt_of_le e0 hN.ext.size
                by_cases hlt : (b : Int) < N.met.places
                ·
                  --<3
                  have hphB := hphA.out.viaB (by omega) a (by omega) b hb
                  have hst3 := Lib.hid (Tab.viaB_succ G c0 a b)
                  generalize G.viaB c0 a b = f at *
                  obtain ⟨v1, v2⟩ := hphB.all a c0
                  obtain ⟨v3, v4⟩ := hphB.all c0 b
                  have hb2 : b < k := by omega
                  have r1 := hN.tab.row a ha2
                  have r2 := hN.tab.row c0 hc2
                  have r3 := hN.tab.cell a c0 ha2 hc2
                  have r4 := hN.tab.cell c0 b hc2 hb2
                  have r5 := hN.tab.cell a b ha2 hb2
                  have r6 := hN.tab.free a b ha2
                  have l1 := Nat.lt_of_lt_of_le hN.tab.g2 hN.tab.hi_
                  have l2 := Nat.lt_of_lt_of_le (hN.tab.r2 a ha2) hN.tab.hi_
                  have l3 := Nat.lt_of_lt_of_le (hN.tab.r2 c0 hc2) hN.tab.hi_
                  have hN := Lib.hid hN
                  clear hphB b0
                  by_cases y1 : 0 ≤ f a c0
                  · by_cases y2 : 0 ≤ f c0 b
                    · have y3 : ¬ f a c0 < 0 := by omega
                      have y4 : ¬ f c0 b < 0 := by omega
                      have hvia := Lib.hid (show f.via c0 a b = f.short a b (f a c0 + f c0 b) by unfold Tab.via; rw [if_pos ⟨y1, y2⟩])
                      by_cases z1 : f a b < 0
                      · have hs := Lib.hid (show f.short a b (f a c0 + f c0 b) = f.set a b (f a c0 + f c0 b) by unfold Tab.short; rw [if_pos (Or.inl z1)])
                        go_wp2_with fail
                        go_quiet (fail)
                        go_wp2_with fail
                        go_roundw
                        case rel => exact ⟨b + 1, by omega, by go_num, by rw [hst3.out, hvia.out, hs.out]; exact hN.out.set (by with_reducible (repeat first | assumption | exact Ext.refl _ | refine Ext.set ?_ (by omega) _ | refine Ext.alloc ?_ _ | refine Ext.drew ?_ | refine Ext.drewN ?_ _ | refine Ext.trans ?_ (by assumption))) ha2 hb2 _⟩
                        case measure => simp [intOf]; omega
                      · by_cases z2 : f a c0 + f c0 b < f a b
                        · have hs := Lib.hid (show f.short a b (f a c0 + f c0 b) = f.set a b (f a c0 + f c0 b) by unfold Tab.short; rw [if_pos (Or.inr z2)])
                          go_wp2_with fail
                          go_quiet (fail)
                          go_wp2_with fail
                          go_roundw
                          case rel => exact ⟨b + 1, by omega, by go_num, by rw [hst3.out, hvia.out, hs.out]; exact hN.out.set (by with_reducible (repeat first | assumption | exact Ext.refl _ | refine Ext.set ?_ (by omega) _ | refine Ext.alloc ?_ _ | refine Ext.drew ?_ | refine Ext.drewN ?_ _ | refine Ext.trans ?_ (by assumption))) ha2 hb2 _⟩
                          case measure => simp [intOf]; omega
                        · have hs := Lib.hid (show f.short a b (f a c0 + f c0 b) = f by unfold Tab.short; rw [if_neg (by omega)])
                          go_wp2_with fail
                          go_quiet (fail)
                          have z3 : ¬ (f a c0 + f c0 b < f a b) := by omega
                          have z4 : ¬ (f a b < 0) := by omega
                          go_wp2_with fail
                          go_roundw
                          case rel => exact ⟨b + 1, by omega, by go_num, by rw [hst3.out, hvia.out, hs.out]; exact hN.out.grow ((by with_reducible (repeat first | assumption | exact Ext.refl _ | refine Ext.set ?_ (by omega) _ | refine Ext.alloc ?_ _ | refine Ext.drew ?_ | refine Ext.drewN ?_ _ | refine Ext.trans ?_ (by assumption))) : Ext wr _)⟩
                          case measure => simp [intOf]; omega
                    · have y3 : ¬ f a c0 < 0 := by omega
                      have y4 : f c0 b < 0 := by omega
                      have hvia := Lib.hid (show f.via c0 a b = f by unfold Tab.via; rw [if_neg (by omega)])
                      go_wp2_with fail
                      go_roundw
                      case rel => exact ⟨b + 1, by omega, by go_num, by rw [hst3.out, hvia.out]; exact hN.out.grow ((by with_reducible (repeat first | assumption | exact Ext.refl _ | refine Ext.set ?_ (by omega) _ | refine Ext.alloc ?_ _ | refine Ext.drew ?_ | refine Ext.drewN ?_ _ | refine Ext.trans ?_ (by assumption))) : Ext wr _)⟩
                      case measure => simp [intOf]; omega
                  · have y3 : f a c0 < 0 := by omega
                    have hvia := Lib.hid (show f.via c0 a b = f by unfold Tab.via; rw [if_neg (by omega)])
                    go_wp2_with fail
                    go_roundw
                    case rel => exact ⟨b + 1, by omega, by go_num, by rw [hst3.out, hvia.out]; exact hN.out.grow ((by with_reducible (repeat first | assumption | exact Ext.refl _ | refine Ext.set ?_ (by omega) _ | refine Ext.alloc ?_ _ | refine Ext.drew ?_ | refine Ext.drewN ?_ _ | refine Ext.trans ?_ (by assumption))) : Ext wr _)⟩
                    case measure => simp [intOf]; omega
                  -->3
                · obtain rfl : b = k := by omega
                  have hN := Lib.hid hN
                  go_wp2_with fail
                  go_roundw
                  case rel => exact ⟨a + 1, by omega, by go_num, by rw [hst2.out]; exact hN.out⟩
                  case measure => simp [intOf]; omega
            · obtain rfl : a = k := by omega
              have hN := Lib.hid hN
              go_wp2_with fail
              go_roundw
              case rel => exact ⟨c0 + 1, by omega, by go_num, by rw [hst.out]; exact hN.out⟩
              case measure => simp [intOf]; omega
        · obtain rfl : c0 = k := by omega
          have hN := Lib.hid hN
          go_wp2_with fail
          go_ret
          exact ⟨_, _, _, _, _, _, rfl, hN.out.tab, hxw.out.trans hN.out.ext⟩
end Go.Proofs.YtmmimbcfgobnaaaGreat
