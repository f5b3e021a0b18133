/- The reference: right, Check. -/
import Derived.Test.YtmmimbcfgobnaaaGreatQ4
namespace Go.Proofs.YtmmimbcfgobnaaaGreat
open Go.RowKit
set_option linter.unusedVariables false
set_option linter.unusedSimpArgs false
attribute [local go_sem] stored_match isSome_setCell

theorem Net.legOf_eq {N : Net} (h : N.good = true) : legOf N.net = N.L := by
  unfold Net.good at h
  simp only [Bool.and_eq_true, decide_eq_true_eq, List.all_eq_true] at h
  exact (legTab_eq fun x hx => (Leg.ok_parts (h.2 x hx)).2.2.1).symm
theorem Flight.good_places {f : Flight} {places : Int} {L : Tab} (hp : f.plain = true) (ha : f.route.all (fun p => within p 0 (places - 1)) = true) : f.good places L = (joined L f.route f.last && decide (f.arrival L ≤ 2000)) := by
  unfold Flight.good
  rw [hp, ha, Bool.true_and, Bool.true_and]
set_option maxRecDepth 100000 in
set_option maxHeartbeats 2000000 in
theorem right_65 (m : Met) (xs : List Leg) (f : Flight) (AF AS : Option Addr) (nF cF nS cS : Nat) (A : Option Addr) (nx c : Nat) (AR : Option Addr) (nR cR : Nat) (w : World) (hX : Rows 3 Leg.enc w A nx xs) (hR : Rows 1 encInt w AR nR f.route) (hg : (Net.mk m xs).good = true) :
    Calls Tryz.prog 65 #[m.val (.slice AF nF cF) (.slice AS nS cS), .slice A nx c, f.val (.slice AR nR cR)] w fun e w' => e = .returned (.bool (f.good m.places (Net.mk m xs).L)) ∧ Ext w w' := by
  obtain rfl := hR.len
  have hsm := hR.small
  obtain ⟨-, ⟨p1, p8⟩, -, hLu, -⟩ := Net.good_parts hg
  rw [← Net.legOf_eq hg] at hLu ⊢
  dsimp only at p1 p8 hLu ⊢
  clear hg
  simp only [Met.val, Flight.val]
  rcases Bool.eq_false_or_eq_true f.plain with hp | hp
  · obtain ⟨⟨d1, d2⟩, ⟨d3, d4⟩, ⟨d5, d6⟩, ⟨d7, d8⟩, ⟨d9, d10⟩⟩ := Flight.plain_parts hp
    have w1 : within (f.route.length : Int) 1 8 = true := within_true.2 (by omega)
    have w2 : within f.depart 0 2000 = true := within_true.2 (by omega)
    have w3 : within f.fuel 0 100000 = true := within_true.2 (by omega)
    have w4 : within f.reserve 0 100000 = true := within_true.2 (by omega)
    have w5 : within f.burn 1 100000 = true := within_true.2 (by omega)
    have hp := Lib.hid hp
    have hR' := Lib.hid hR
    have hX' := Lib.hid hX
    have hLu := Lib.hid hLu
    clear hR hX
    go_enter Tryz.func65, Tryz.ntmps65
    go_wp2_with (go_at_call 62; refine (within_62 _ _ _ _).mono ?_; rintro e1 w1 ⟨rfl, rfl⟩)
    refine name_world (R := fun W => Code.wp _ _ _ _ W) fun W1 hx1 hc1 hf1 hz1 => ?_
    have hxw : Ext w W1 := (by with_reducible (repeat first | assumption | exact Ext.refl _ | refine Ext.set ?_ (by omega) _ | refine Ext.alloc ?_ _ | refine Ext.drew ?_ | refine Ext.drewN ?_ _ | refine Ext.trans ?_ (by assumption)))
    simp at hz1
    have q0 : W1.cell? ⟨w.heap.size, 0, none⟩ = some (.int .i64 m.places) := by go_simp
    have f0 : W1.cell? ⟨w.heap.size + 1, 0, none⟩ = some (.slice AR f.route.length cR) := by go_simp
    have f1 : W1.cell? ⟨w.heap.size + 1, 1, none⟩ = some (.int .i64 f.depart) := by go_simp
    have f2 : W1.cell? ⟨w.heap.size + 1, 2, none⟩ = some (.int .i64 f.fuel) := by go_simp
    have f3 : W1.cell? ⟨w.heap.size + 1, 3, none⟩ = some (.int .i64 f.burn) := by go_simp
    have f4 : W1.cell? ⟨w.heap.size + 1, 4, none⟩ = some (.int .i64 f.reserve) := by go_simp
    have hW1 : w.heap.size + 1 < W1.heap.size := by omega
    clear hc1 hf1 hz1 hx1
    go_loopw [7] (fun i wr => ∃ k : Nat, k ≤ f.route.length ∧ i = .int .i64 k ∧ (f.route.take k).all (fun p => within p 0 (m.places - 1)) = true ∧ Ext W1 wr) (fun i _ => f.route.length - (intOf i).toNat)
    case atStart => exact ⟨0, Nat.zero_le _, rfl, rfl, Ext.refl _⟩
    case round =>
      obtain ⟨k, hk, rfl, ha, he⟩ := hrel
      have g0 := (he.cells.1 _ _ (show w.heap.size < W1.heap.size by omega)).trans q0
      have e0 := (he.cells.1 _ _ hW1).trans f0
      have e1 := (he.cells.1 _ _ hW1).trans f1
      have e2 := (he.cells.1 _ _ hW1).trans f2
      have e3 := (he.cells.1 _ _ hW1).trans f3
      have e4 := (he.cells.1 _ _ hW1).trans f4
      have gl := he.cells.2.2 _ hW1
      have hew : Ext w wr := hxw.trans he
      clear q0 f0 f1 f2 f3 f4
      by_cases hlt : k < f.route.length
      · obtain ⟨x, hx⟩ : ∃ x, f.route[k]? = some x := ⟨_, List.getElem?_eq_getElem hlt⟩
        obtain ⟨b0, off, rfl, hb0, c0⟩ := (hR'.out.ext hew).intx hlt hx
        have hst := Lib.hid (all_take_succ (fun p => within p 0 (m.places - 1)) x f.route k hx)
        replace ha := Lib.hid ha
        have hv1 : IntKind.i64.wrap (m.places - 1) = m.places - 1 := IntWalk.i64_in _ (by omega)
        have hv2 : (0 : Int) ≤ (k : Int) := by omega
        have hv3 : (k : Int) < (f.route.length : Int) := by omega
        have gl0 : w.heap.size < wr.heap.size := by omega
        rcases Bool.eq_false_or_eq_true (within x 0 (m.places - 1)) with hw | hw
        · have hok' := Lib.hid hw
          clear hx
          go_wp2_with fail
          refine name_world (R := fun W => Code.wp _ _ _ _ W) fun W0 hx0 hc0 hf0 hz0 => ?_
          clear hc0 hf0 hz0
          have r0 := (hx0.cells.1 _ _ gl0).trans g0
          have r1 := (hx0.cells.1 _ _ gl).trans e0
          have r2 := (hx0.cells.1 _ _ hb0).trans c0
          have z0 := hx0.cells.2.2 _ gl0
          have z1 := hx0.cells.2.2 _ gl
          have z2 := hx0.cells.2.2 _ hb0
          clear g0 e0 e1 e2 e3 e4 c0
          go_region_held3 (fun w' => HoldsAll W0 w') ((with_reducible ((repeat refine HoldsAll.drew ?_); first | (first | assumption | exact HoldsAll.refl _ | exact HoldsAll.of_drew (by assumption)) | (refine HoldsAll.ext ?_ (by assumption); first | assumption | exact HoldsAll.refl _ | exact HoldsAll.of_drew (by assumption)) | (refine HoldsAll.alloc ?_ _; first | assumption | exact HoldsAll.refl _ | exact HoldsAll.of_drew (by assumption)) | exact HoldsAll.realloc (by first | assumption | exact HoldsAll.refl _ | exact HoldsAll.of_drew (by assumption)) (by omega) | ((repeat first | refine HoldsAll.fresh ?_ (by omega) _); first | assumption | exact HoldsAll.refl _ | exact HoldsAll.of_drew (by assumption))))) (first | (go_at_call 62; refine (within_62 _ _ _ _).mono ?_; rintro e1 w1 ⟨rfl, rfl⟩))
          go_wp2_with fail
          go_roundw
          case rel => exact ⟨k + 1, by omega, by go_num, by rw [hst.out, ha.out, hok'.out]; rfl, (by with_reducible (repeat first | assumption | exact Ext.refl _ | refine Ext.set ?_ (by omega) _ | refine Ext.alloc ?_ _ | refine Ext.drew ?_ | refine Ext.drewN ?_ _ | refine Ext.trans ?_ (by assumption)))⟩
          case measure => simp [intOf]; omega
        · have hR := Lib.hid (bad_place (L := legOf xs) hx hw)
          clear hx
          go_wp2_with fail
          refine name_world (R := fun W => Code.wp _ _ _ _ W) fun W0 hx0 hc0 hf0 hz0 => ?_
          clear hc0 hf0 hz0
          have r0 := (hx0.cells.1 _ _ gl0).trans g0
          have r1 := (hx0.cells.1 _ _ gl).trans e0
          have r2 := (hx0.cells.1 _ _ hb0).trans c0
          have z0 := hx0.cells.2.2 _ gl0
          have z1 := hx0.cells.2.2 _ gl
          have z2 := hx0.cells.2.2 _ hb0
          clear g0 e0 e1 e2 e3 e4 c0
          go_region_held3 (fun w' => HoldsAll W0 w') ((with_reducible ((repeat refine HoldsAll.drew ?_); first | (first | assumption | exact HoldsAll.refl _ | exact HoldsAll.of_drew (by assumption)) | (refine HoldsAll.ext ?_ (by assumption); first | assumption | exact HoldsAll.refl _ | exact HoldsAll.of_drew (by assumption)) | (refine HoldsAll.alloc ?_ _; first | assumption | exact HoldsAll.refl _ | exact HoldsAll.of_drew (by assumption)) | exact HoldsAll.realloc (by first | assumption | exact HoldsAll.refl _ | exact HoldsAll.of_drew (by assumption)) (by omega) | ((repeat first | refine HoldsAll.fresh ?_ (by omega) _); first | assumption | exact HoldsAll.refl _ | exact HoldsAll.of_drew (by assumption))))) (first | (go_at_call 62; refine (within_62 _ _ _ _).mono ?_; rintro e1 w1 ⟨rfl, rfl⟩))
          go_wp2_with fail
          go_ret
          exact ⟨by rw [hR.out]; rfl, (by with_reducible (repeat first | assumption | exact Ext.refl _ | refine Ext.set ?_ (by omega) _ | refine Ext.alloc ?_ _ | refine Ext.drew ?_ | refine Ext.drewN ?_ _ | refine Ext.trans ?_ (by assumption)))⟩
      · obtain rfl : k = f.route.length := by omega
        rw [List.take_of_length_le (Nat.le_refl _)] at ha
        have hgd := Lib.hid (Flight.good_places (L := legOf xs) hp.out ha)
        have hpp := Lib.hid (fun p hp' => within_true.1 (List.all_eq_true.1 ha p hp'))
        clear ha
        have hlast : f.last + 1 = f.route.length := by unfold Flight.last; omega
        rcases Bool.eq_false_or_eq_true (joined (legOf xs) f.route f.last) with hj | hj
        · have hj' := Lib.hid hj
          go_wp2_with fail
          refine (flown_67 xs f m.places A nx c AR f.route.length cR _ (hX'.out.ext (by with_reducible (repeat first | assumption | exact Ext.refl _ | refine Ext.set ?_ (by omega) _ | refine Ext.alloc ?_ _ | refine Ext.drew ?_ | refine Ext.drewN ?_ _ | refine Ext.trans ?_ (by assumption)))) (hR'.out.ext (by with_reducible (repeat first | assumption | exact Ext.refl _ | refine Ext.set ?_ (by omega) _ | refine Ext.alloc ?_ _ | refine Ext.drew ?_ | refine Ext.drewN ?_ _ | refine Ext.trans ?_ (by assumption)))) hLu.out d1 (by omega) ⟨d3, d4⟩ hpp.out).mono ?_
          rintro e9 w9 ⟨hyes, -, hb9⟩
          obtain ⟨A9, c9, rfl, hR9⟩ := hyes hj'.out
          clear hyes
          obtain ⟨b9, off9, rfl, hb9', k9⟩ := hR9.intx (j := f.last) (by omega) (Flight.atList_at _ _ (by omega))
          have hv4 : (f.route.length : Int) - 1 = (f.last : Int) := by omega
          have har := Lib.hid (show f.arrival (legOf xs) = f.at (legOf xs) f.last from rfl)
          by_cases hle : f.at (legOf xs) f.last ≤ 2000
          all_goals
            go_wp2_with fail
            go_ret
            exact ⟨by rw [hgd.out, hj'.out, har.out]; simp [hle], (by with_reducible (repeat first | assumption | exact Ext.refl _ | refine Ext.set ?_ (by omega) _ | refine Ext.alloc ?_ _ | refine Ext.drew ?_ | refine Ext.drewN ?_ _ | refine Ext.trans ?_ (by assumption)))⟩
        · have hj' := Lib.hid hj
          go_wp2_with fail
          refine (flown_67 xs f m.places A nx c AR f.route.length cR _ (hX'.out.ext (by with_reducible (repeat first | assumption | exact Ext.refl _ | refine Ext.set ?_ (by omega) _ | refine Ext.alloc ?_ _ | refine Ext.drew ?_ | refine Ext.drewN ?_ _ | refine Ext.trans ?_ (by assumption)))) (hR'.out.ext (by with_reducible (repeat first | assumption | exact Ext.refl _ | refine Ext.set ?_ (by omega) _ | refine Ext.alloc ?_ _ | refine Ext.drew ?_ | refine Ext.drewN ?_ _ | refine Ext.trans ?_ (by assumption)))) hLu.out d1 (by omega) ⟨d3, d4⟩ hpp.out).mono ?_
          rintro e9 w9 ⟨-, hno, hb9⟩
          obtain rfl := hno hj'.out
          clear hno
          go_wp2_with fail
          go_ret
          exact ⟨by rw [hgd.out, hj'.out]; rfl, (by with_reducible (repeat first | assumption | exact Ext.refl _ | refine Ext.set ?_ (by omega) _ | refine Ext.alloc ?_ _ | refine Ext.drew ?_ | refine Ext.drewN ?_ _ | refine Ext.trans ?_ (by assumption)))⟩
  · have hbad := Lib.hid (bad_plain (places := m.places) (L := legOf xs) hp)
    unfold Flight.plain at hp
    have e8 : within (f.route.length : Int) 1 8 = decide (1 ≤ f.route.length ∧ f.route.length ≤ 8) := by
      rw [Bool.eq_iff_iff, within_true, decide_eq_true_eq]; omega
    rw [← e8] at hp
    clear e8
    go_enter Tryz.func65, Tryz.ntmps65
    go_wp2_with (go_at_call 62; refine (within_62 _ _ _ _).mono ?_; rintro e1 w1 ⟨rfl, rfl⟩)
    all_goals
      first
      | (go_ret; exact ⟨by rw [hbad.out]; rfl, (by with_reducible (repeat first | assumption | exact Ext.refl _ | refine Ext.set ?_ (by omega) _ | refine Ext.alloc ?_ _ | refine Ext.drew ?_ | refine Ext.drewN ?_ _ | refine Ext.trans ?_ (by assumption)))⟩)
      | (exfalso; simp_all; done)
end Go.Proofs.YtmmimbcfgobnaaaGreat
