/- The references: spans, weather.Check, net and leg. The reference of weather.Check; of the net's check; leg. The reference: leg. -/
import Derived.Test.YtmmimbcfgobnaaaGreatR2
import Derived.Test.YtmmimbcfgobnaaaGreatW4
set_option linter.unusedVariables false
set_option linter.unusedSimpArgs false
namespace Go.Proofs.YtmmimbcfgobnaaaGreat
open Go.RowKit
set_option linter.unusedVariables false
set_option linter.unusedSimpArgs false
attribute [local go_sem] stored_match isSome_setCell

set_option maxRecDepth 100000 in
set_option maxHeartbeats 2000000 in
theorem from_151 (n lo hi : Int) (w : World) : Calls Tryz.prog 151 #[.int .i64 n, .int .i64 lo, .int .i64 hi] w fun e w' => e = .returned (.bool (within n lo hi)) ∧ w = w' := by
  unfold within
  go_enter Tryz.func151, Tryz.ntmps151
  go_wp2
  all_goals
    go_ret
    exact ⟨by first | rfl | (simp [*]; done) | (simp; omega), rfl⟩
set_option maxRecDepth 100000 in
set_option maxHeartbeats 2000000 in
theorem from_71 (n lo hi : Int) (w : World) : Calls Tryz.prog 71 #[.int .i64 n, .int .i64 lo, .int .i64 hi] w fun e w' => e = .returned (.bool (within n lo hi)) ∧ w = w' := by
  unfold within
  go_enter Tryz.func71, Tryz.ntmps71
  go_wp2
  all_goals
    go_ret
    exact ⟨by first | rfl | (simp [*]; done) | (simp; omega), rfl⟩
set_option maxRecDepth 100000 in
set_option maxHeartbeats 2000000 in
theorem within_62 (n lo hi : Int) (w : World) : Calls Tryz.prog 62 #[.int .i64 n, .int .i64 lo, .int .i64 hi] w fun e w' => e = .returned (.bool (within n lo hi)) ∧ w = w' := by
  unfold within
  go_enter Tryz.func62, Tryz.ntmps62
  go_wp2
  all_goals
    go_ret
    exact ⟨by first | rfl | (simp [*]; done) | (simp; omega), rfl⟩
theorem Span.valid_ref (x : Span) : x.valid = (within x.lo (-1000000) 1000000 && within x.hi x.lo 1000000) := by
  unfold Span.valid
  rw [Bool.eq_iff_iff]
  simp only [Bool.and_eq_true, within_true, decide_eq_true_eq]
  omega
set_option maxRecDepth 100000 in
set_option maxHeartbeats 2000000 in
theorem valid_134 (x : Span) (w : World) : Calls Tryz.prog 134 #[x.val] w fun e w' => e = .returned (.bool x.valid) ∧ Ext w w' := by
  have hv := Lib.hid x.valid_ref
  simp only [Span.val]
  go_enter Tryz.func134, Tryz.ntmps134
  go_wp2_with (go_at_call 151; refine (from_151 _ _ _ _).mono ?_; rintro e1 w1 ⟨rfl, rfl⟩)
  all_goals
    go_ret
    exact ⟨by rw [hv.out]; simp [*], (by with_reducible (repeat first | assumption | exact Ext.refl _ | refine Ext.set ?_ (by omega) _ | refine Ext.alloc ?_ _ | refine Ext.drew ?_ | refine Ext.drewN ?_ _ | refine Ext.trans ?_ (by assumption)))⟩
theorem Span.ok_ref (x : Span) {most : Int} (hm : most ≤ 1000000) : x.ok most = (x.valid && decide (0 ≤ x.lo) && decide (x.hi ≤ most)) := by
  rw [Span.valid_ref]
  unfold Span.ok
  rw [Bool.eq_iff_iff]
  simp only [Bool.and_eq_true, within_true, decide_eq_true_eq]
  omega
set_option maxRecDepth 100000 in
set_option maxHeartbeats 2000000 in
theorem ranged_104 (x : Span) (most : Int) (hm : most ≤ 1000000) (w : World) : Calls Tryz.prog 104 #[x.val, .int .i64 most] w fun e w' => e = .returned (.bool (x.ok most)) ∧ Ext w w' := by
  have hv := Lib.hid (x.ok_ref hm)
  simp only [Span.val]
  go_enter Tryz.func104, Tryz.ntmps104
  go_wp2_with (go_at_call 134; refine (valid_134 x _).mono ?_; rintro e1 w1 ⟨rfl, hb1⟩; obtain ⟨hc1, hf1, hz1⟩ := hb1.cells; have hs1 := hb1.size; (try simp at hs1))
  all_goals
    go_ret
    exact ⟨by rw [hv.out]; first | (simp [*]; done) | (simp [*]; omega), (by with_reducible (repeat first | assumption | exact Ext.refl _ | refine Ext.set ?_ (by omega) _ | refine Ext.alloc ?_ _ | refine Ext.drew ?_ | refine Ext.drewN ?_ _ | refine Ext.trans ?_ (by assumption)))⟩
set_option maxRecDepth 100000 in
set_option maxHeartbeats 2000000 in
theorem validSky_72 (s : Sky) (w : World) : Calls Tryz.prog 72 #[s.val] w fun e w' => e = .returned (.bool s.ok) ∧ Ext w w' := by
  simp only [Sky.val]
  go_enter Tryz.func72, Tryz.ntmps72
  go_wp2_with (first | (go_at_call_of 104 (Value.int .i64 300); refine (ranged_104 s.w 300 (by decide) _).mono ?_; rintro e1 w1 ⟨rfl, hb1⟩; obtain ⟨hc1, hf1, hz1⟩ := hb1.cells; have hs1 := hb1.size; (try simp at hs1)) | (go_at_call 104; refine (ranged_104 ⟨_, _⟩ 20000 (by decide) _).mono ?_; rintro e1 w1 ⟨rfl, hb1⟩; obtain ⟨hc1, hf1, hz1⟩ := hb1.cells; have hs1 := hb1.size; (try simp at hs1)))
  all_goals
    go_ret
    exact ⟨by simp [Sky.ok, *], (by with_reducible (repeat first | assumption | exact Ext.refl _ | refine Ext.set ?_ (by omega) _ | refine Ext.alloc ?_ _ | refine Ext.drew ?_ | refine Ext.drewN ?_ _ | refine Ext.trans ?_ (by assumption)))⟩
end Go.Proofs.YtmmimbcfgobnaaaGreat
namespace Go.Proofs.YtmmimbcfgobnaaaGreat
open Go.RowKit
set_option linter.unusedVariables false
set_option linter.unusedSimpArgs false
attribute [local go_sem] stored_match isSome_setCell

set_option maxRecDepth 100000 in
set_option maxHeartbeats 2000000 in
theorem validWx_73 (x : Wx) (w : World) : Calls Tryz.prog 73 #[x.val] w fun e w' => e = .returned (.bool x.ok) ∧ Ext w w' := by
  simp only [Wx.val]
  go_enter Tryz.func73, Tryz.ntmps73
  go_wp2_with (go_at_call 71; refine (from_71 _ _ _ _).mono ?_; rintro e1 w1 ⟨rfl, rfl⟩)
  all_goals
    go_ret
    exact ⟨by simp [Wx.ok, *], (by with_reducible (repeat first | assumption | exact Ext.refl _ | refine Ext.set ?_ (by omega) _ | refine Ext.alloc ?_ _ | refine Ext.drew ?_ | refine Ext.drewN ?_ _ | refine Ext.trans ?_ (by assumption)))⟩
def Met.head (m : Met) : Bool := within m.places 1 8 && m.any.ok && within m.wind 0 20000 && within m.see 0 20000 && within m.ceil 0 20000
theorem Met.check_head {m : Met} (h : m.head = false) : m.check = 40 := by
  unfold Met.check Met.good
  unfold Met.head at h
  rw [if_neg]
  simp only [h, Bool.false_and]
  decide
theorem Met.check_len {m : Met} (h : ¬ (m.fcs.length ≤ 40 ∧ m.sights.length ≤ 20)) : m.check = 40 := by
  unfold Met.check Met.good
  rw [if_neg]
  simp only [Bool.and_eq_true, decide_eq_true_eq]
  omega
theorem Met.check_fc {m : Met} {k : Nat} {x : Fc} (h : m.fcs[k]? = some x) (hx : Fc.ok m.places x = false) : m.check = 40 := by
  unfold Met.check Met.good
  rw [if_neg]
  simp only [Bool.and_eq_true, decide_eq_true_eq, List.all_eq_true]
  rintro ⟨⟨⟨_, h7⟩, _⟩, _⟩
  rw [h7 x (List.mem_of_getElem? h)] at hx
  exact absurd hx (by decide)
theorem Met.check_si {m : Met} {k : Nat} {x : Sight} (h : m.sights[k]? = some x) (hx : Sight.ok m.places x = false) : m.check = 40 := by
  unfold Met.check Met.good
  rw [if_neg]
  simp only [Bool.and_eq_true, decide_eq_true_eq, List.all_eq_true]
  rintro ⟨_, h7⟩
  rw [h7 x (List.mem_of_getElem? h)] at hx
  exact absurd hx (by decide)
theorem Met.check_all {m : Met} (h : m.head = true) (hl : m.fcs.length ≤ 40 ∧ m.sights.length ≤ 20) (h1 : m.fcs.all (Fc.ok m.places) = true) (h2 : m.sights.all (Sight.ok m.places) = true) : m.check = 0 := by
  unfold Met.check Met.good
  unfold Met.head at h
  rw [if_pos]
  simp only [h, h1, h2, Bool.true_and, Bool.and_true]
  simp [hl]
theorem all_take_succ {α : Type} (p : α → Bool) (x : α) (xs : List α) (k : Nat) (h : xs[k]? = some x) : (xs.take (k + 1)).all p = ((xs.take k).all p && p x) := by
  obtain ⟨hk, rfl⟩ := List.getElem?_eq_some_iff.1 h
  rw [List.take_succ_eq_append_getElem hk, List.all_append]
  simp
theorem Fc.ok_ref (p : Int) (f : Fc) : Fc.ok p f = (within f.place 0 (p - 1) && !decide (f.fr < 0) && !decide (f.to ≤ f.fr) && !decide (2000 < f.to) && within f.issued 0 2000 && f.sky.ok) := by
  unfold Fc.ok
  rw [Bool.eq_iff_iff]
  simp only [Bool.and_eq_true, within_true, decide_eq_true_eq, Bool.not_eq_true', decide_eq_false_iff_not]
  constructor
  · rintro ⟨⟨⟨a, b⟩, c⟩, d⟩; exact ⟨⟨⟨⟨⟨a, by omega⟩, by omega⟩, by omega⟩, c⟩, d⟩
  · rintro ⟨⟨⟨⟨⟨a, b⟩, b2⟩, b3⟩, c⟩, d⟩; exact ⟨⟨⟨a, by omega⟩, c⟩, d⟩
theorem Sight.ok_ref (p : Int) (s : Sight) : Sight.ok p s = (within s.place 0 (p - 1) && within s.at_ 0 2000 && s.now.ok) := rfl
set_option maxRecDepth 100000 in
set_option maxHeartbeats 2000000 in
theorem check_33 (m : Met) (AF AS : Option Addr) (nF cF nS cS : Nat) (w : World) (hm : MetIn w m AF nF AS nS) :
    Calls Tryz.prog 33 #[m.val (.slice AF nF cF) (.slice AS nS cS)] w fun e w' => e = .returned (.int .i64 m.check) ∧ Ext w w' := by
  obtain ⟨hF, hS⟩ := hm
  obtain rfl := hF.len
  obtain rfl := hS.len
  simp only [Met.val]
  rcases Bool.eq_false_or_eq_true m.head with hh | hh
  · by_cases hl : m.fcs.length ≤ 40 ∧ m.sights.length ≤ 20
    · have hfin := Lib.hid (fun h1 h2 => Met.check_all (m := m) hh hl h1 h2)
      obtain ⟨hl1, hl2⟩ := hl
      unfold Met.head at hh
      simp only [Bool.and_eq_true] at hh
      obtain ⟨⟨⟨⟨a1, a2⟩, a3⟩, a4⟩, a5⟩ := hh
      obtain ⟨p1, p8⟩ := within_true.1 a1
      have hF' := Lib.hid hF
      have hS' := Lib.hid hS
      clear hF hS
      go_enter Tryz.func33, Tryz.ntmps33
      go_wp2_with (first | (go_at_call 71; refine (from_71 _ _ _ _).mono ?_; rintro e1 w1 ⟨rfl, rfl⟩) | (go_at_call 72; refine (validSky_72 m.any _).mono ?_; rintro e1 w1 ⟨rfl, hb1⟩; obtain ⟨hc1, hf1, hz1⟩ := hb1.cells; have hs1 := hb1.size; (try simp at hs1)))
      refine name_world (R := fun W => Code.wp _ _ _ _ W) fun W1 hx1 hc1 hf1 hz1 => ?_
      have hxw : Ext w W1 := (by with_reducible (repeat first | assumption | exact Ext.refl _ | refine Ext.set ?_ (by omega) _ | refine Ext.alloc ?_ _ | refine Ext.drew ?_ | refine Ext.drewN ?_ _ | refine Ext.trans ?_ (by assumption)))
      have q0 : W1.cell? ⟨w.heap.size, 0, none⟩ = some (.int .i64 m.places) := by go_simp
      have q12 : W1.cell? ⟨w.heap.size, 12, none⟩ = some (.slice AF m.fcs.length cF) := by go_simp
      have q13 : W1.cell? ⟨w.heap.size, 13, none⟩ = some (.slice AS m.sights.length cS) := by go_simp
      have hW1 : w.heap.size < W1.heap.size := by have := hx1.size; omega
      clear hc1 hf1 hz1 hx1
      go_loopw [3] (fun i wr => ∃ k : Nat, k ≤ m.fcs.length ∧ i = .int .i64 k ∧ (m.fcs.take k).all (Fc.ok m.places) = true ∧ Ext W1 wr) (fun i _ => m.fcs.length - (intOf i).toNat)
      case atStart => exact ⟨0, Nat.zero_le _, rfl, rfl, Ext.refl _⟩
      case round =>
        obtain ⟨k, hk, rfl, ha, he⟩ := hrel
        have g0 := (he.cells.1 _ _ hW1).trans q0
        have g12 := (he.cells.1 _ _ hW1).trans q12
        have g13 := (he.cells.1 _ _ hW1).trans q13
        have gl := he.cells.2.2 _ hW1
        have hew : Ext w wr := hxw.trans he
        by_cases hlt : k < m.fcs.length
        · obtain ⟨x, hx⟩ : ∃ x, m.fcs[k]? = some x := ⟨_, List.getElem?_eq_getElem hlt⟩
          obtain ⟨b0, off, rfl, hb0, c0, c1, c2, c3, c4, c5, c6, c7, c8, c9, c10, c11⟩ := (hF'.out.ext hew).fc hlt hx
          have hst := Lib.hid (all_take_succ (Fc.ok m.places) x m.fcs k hx)
          replace ha := Lib.hid ha
          have hor := Fc.ok_ref m.places x
          rcases Bool.eq_false_or_eq_true (Fc.ok m.places x) with hok | hok
          · have hok' := Lib.hid hok
            replace hor := hor.symm.trans hok
            simp only [Bool.and_eq_true, Bool.not_eq_true', decide_eq_false_iff_not] at hor
            obtain ⟨⟨⟨⟨⟨o1, o2⟩, o3⟩, o4⟩, o5⟩, o6⟩ := hor
            clear hok hx q0 q12 q13
            go_wp2_with (first | (go_at_call 71; refine (from_71 _ _ _ _).mono ?_; rintro e1 w1 ⟨rfl, rfl⟩) | (go_at_call 72; refine (validSky_72 x.sky _).mono ?_; rintro e1 w1 ⟨rfl, hb1⟩; obtain ⟨hc1, hf1, hz1⟩ := hb1.cells; have hs1 := hb1.size; (try simp at hs1)))
            go_roundw
            case rel => exact ⟨k + 1, by omega, by go_num, by rw [hst.out, ha.out, hok'.out]; rfl, (by with_reducible (repeat first | assumption | exact Ext.refl _ | refine Ext.set ?_ (by omega) _ | refine Ext.alloc ?_ _ | refine Ext.drew ?_ | refine Ext.drewN ?_ _ | refine Ext.trans ?_ (by assumption)))⟩
            case measure => simp [intOf]; omega
          · have hR := Lib.hid (Met.check_fc hx hok)
            replace hor := hor.symm.trans hok
            clear hok hx q0 q12 q13
            go_wp2_with (first | (go_at_call 71; refine (from_71 _ _ _ _).mono ?_; rintro e1 w1 ⟨rfl, rfl⟩) | (go_at_call 72; refine (validSky_72 x.sky _).mono ?_; rintro e1 w1 ⟨rfl, hb1⟩; obtain ⟨hc1, hf1, hz1⟩ := hb1.cells; have hs1 := hb1.size; (try simp at hs1)))
            all_goals
              first
              | (go_ret; exact ⟨by rw [hR.out]; rfl, (by with_reducible (repeat first | assumption | exact Ext.refl _ | refine Ext.set ?_ (by omega) _ | refine Ext.alloc ?_ _ | refine Ext.drew ?_ | refine Ext.drewN ?_ _ | refine Ext.trans ?_ (by assumption)))⟩)
              | (exfalso; simp_all; done)
        · obtain rfl : k = m.fcs.length := by omega
          rw [List.take_of_length_le (Nat.le_refl _)] at ha
          replace ha := Lib.hid ha
          clear q0 q12 q13
          go_wp2_with fail
          obtain ⟨W1', hW1'⟩ : ∃ W1', W1' = wr := ⟨_, rfl⟩
          subst hW1'
          go_loopw [5] (fun i wr => ∃ k : Nat, k ≤ m.sights.length ∧ i = .int .i64 k ∧ (m.sights.take k).all (Sight.ok m.places) = true ∧ Ext W1' wr) (fun i _ => m.sights.length - (intOf i).toNat)
          case atStart => exact ⟨0, Nat.zero_le _, rfl, rfl, Ext.refl _⟩
          case round =>
            obtain ⟨k, hk, rfl, ha2, he2⟩ := hrel
            have g0 := (he2.cells.1 _ _ gl).trans g0
            have g13 := (he2.cells.1 _ _ gl).trans g13
            have gl2 := he2.cells.2.2 _ gl
            have hew2 : Ext w wr := hew.trans he2
            by_cases hlt : k < m.sights.length
            · obtain ⟨x, hx⟩ : ∃ x, m.sights[k]? = some x := ⟨_, List.getElem?_eq_getElem hlt⟩
              obtain ⟨b0, off, rfl, hb0, c0, c1, c2, c3, c4, c5, c6⟩ := (hS'.out.ext hew2).sight hlt hx
              have hst := Lib.hid (all_take_succ (Sight.ok m.places) x m.sights k hx)
              replace ha2 := Lib.hid ha2
              have hor := Sight.ok_ref m.places x
              rcases Bool.eq_false_or_eq_true (Sight.ok m.places x) with hok | hok
              · have hok' := Lib.hid hok
                replace hor := hor.symm.trans hok
                simp only [Bool.and_eq_true] at hor
                obtain ⟨⟨o1, o2⟩, o3⟩ := hor
                clear hok hx
                go_wp2_with (first | (go_at_call 71; refine (from_71 _ _ _ _).mono ?_; rintro e1 w1 ⟨rfl, rfl⟩) | (go_at_call 73; refine (validWx_73 x.now _).mono ?_; rintro e1 w1 ⟨rfl, hb1⟩; obtain ⟨hc1, hf1, hz1⟩ := hb1.cells; have hs1 := hb1.size; (try simp at hs1)))
                go_roundw
                case rel => exact ⟨k + 1, by omega, by go_num, by rw [hst.out, ha2.out, hok'.out]; rfl, (by with_reducible (repeat first | assumption | exact Ext.refl _ | refine Ext.set ?_ (by omega) _ | refine Ext.alloc ?_ _ | refine Ext.drew ?_ | refine Ext.drewN ?_ _ | refine Ext.trans ?_ (by assumption)))⟩
                case measure => simp [intOf]; omega
              · have hR := Lib.hid (Met.check_si hx hok)
                replace hor := hor.symm.trans hok
                clear hok hx
                go_wp2_with (first | (go_at_call 71; refine (from_71 _ _ _ _).mono ?_; rintro e1 w1 ⟨rfl, rfl⟩) | (go_at_call 73; refine (validWx_73 x.now _).mono ?_; rintro e1 w1 ⟨rfl, hb1⟩; obtain ⟨hc1, hf1, hz1⟩ := hb1.cells; have hs1 := hb1.size; (try simp at hs1)))
                all_goals
                  first
                  | (go_ret; exact ⟨by rw [hR.out]; rfl, (by with_reducible (repeat first | assumption | exact Ext.refl _ | refine Ext.set ?_ (by omega) _ | refine Ext.alloc ?_ _ | refine Ext.drew ?_ | refine Ext.drewN ?_ _ | refine Ext.trans ?_ (by assumption)))⟩)
                  | (exfalso; simp_all; done)
            · obtain rfl : k = m.sights.length := by omega
              rw [List.take_of_length_le (Nat.le_refl _)] at ha2
              have hR := Lib.hid (hfin.out ha.out ha2)
              clear ha2
              go_wp2_with fail
              go_ret
              exact ⟨by rw [hR.out]; rfl, (by with_reducible (repeat first | assumption | exact Ext.refl _ | refine Ext.set ?_ (by omega) _ | refine Ext.alloc ?_ _ | refine Ext.drew ?_ | refine Ext.drewN ?_ _ | refine Ext.trans ?_ (by assumption)))⟩
    · have hR := Lib.hid (Met.check_len hl)
      unfold Met.head at hh
      simp only [Bool.and_eq_true] at hh
      obtain ⟨⟨⟨⟨a1, a2⟩, a3⟩, a4⟩, a5⟩ := hh
      by_cases h40 : m.fcs.length ≤ 40
      · have h20 : (20 : Int) < (m.sights.length : Int) := by omega
        have h41 : (m.fcs.length : Int) ≤ 40 := by omega
        clear hl h40
        go_enter Tryz.func33, Tryz.ntmps33
        go_wp2_with (first | (go_at_call 71; refine (from_71 _ _ _ _).mono ?_; rintro e1 w1 ⟨rfl, rfl⟩) | (go_at_call 72; refine (validSky_72 m.any _).mono ?_; rintro e1 w1 ⟨rfl, hb1⟩; obtain ⟨hc1, hf1, hz1⟩ := hb1.cells; have hs1 := hb1.size; (try simp at hs1)))
        go_ret
        exact ⟨by rw [hR.out]; rfl, (by with_reducible (repeat first | assumption | exact Ext.refl _ | refine Ext.set ?_ (by omega) _ | refine Ext.alloc ?_ _ | refine Ext.drew ?_ | refine Ext.drewN ?_ _ | refine Ext.trans ?_ (by assumption)))⟩
      · have h41 : (40 : Int) < (m.fcs.length : Int) := by omega
        clear hl h40
        go_enter Tryz.func33, Tryz.ntmps33
        go_wp2_with (first | (go_at_call 71; refine (from_71 _ _ _ _).mono ?_; rintro e1 w1 ⟨rfl, rfl⟩) | (go_at_call 72; refine (validSky_72 m.any _).mono ?_; rintro e1 w1 ⟨rfl, hb1⟩; obtain ⟨hc1, hf1, hz1⟩ := hb1.cells; have hs1 := hb1.size; (try simp at hs1)))
        go_ret
        exact ⟨by rw [hR.out]; rfl, (by with_reducible (repeat first | assumption | exact Ext.refl _ | refine Ext.set ?_ (by omega) _ | refine Ext.alloc ?_ _ | refine Ext.drew ?_ | refine Ext.drewN ?_ _ | refine Ext.trans ?_ (by assumption)))⟩
  · have hR := Lib.hid (Met.check_head hh)
    unfold Met.head at hh
    go_enter Tryz.func33, Tryz.ntmps33
    go_wp2_with (first | (go_at_call 71; refine (from_71 _ _ _ _).mono ?_; rintro e1 w1 ⟨rfl, rfl⟩) | (go_at_call 72; refine (validSky_72 m.any _).mono ?_; rintro e1 w1 ⟨rfl, hb1⟩; obtain ⟨hc1, hf1, hz1⟩ := hb1.cells; have hs1 := hb1.size; (try simp at hs1)))
    all_goals
      first
      | (go_ret; exact ⟨by rw [hR.out]; rfl, (by with_reducible (repeat first | assumption | exact Ext.refl _ | refine Ext.set ?_ (by omega) _ | refine Ext.alloc ?_ _ | refine Ext.drew ?_ | refine Ext.drewN ?_ _ | refine Ext.trans ?_ (by assumption)))⟩)
      | (exfalso; simp_all; done)
theorem Leg.ok_ref (p : Int) (x : Leg) : Leg.ok p x = (within x.a 0 (p - 1) && within x.b 0 (p - 1) && !(x.a == x.b) && within x.t 1 200) := by
  unfold Leg.ok
  congr 2
  rw [Bool.eq_iff_iff]; simp
theorem Net.check_bad {m : Met} {xs : List Leg} {k : Nat} {x : Leg} (h : m.good = true) (hk : xs[k]? = some x) (hx : Leg.ok m.places x = false) : (Net.mk m xs).check = 50 := by
  unfold Net.check
  rw [if_pos h, if_neg]
  simp only [Bool.and_eq_true, decide_eq_true_eq, List.all_eq_true]
  rintro ⟨_, h3⟩
  rw [h3 x (List.mem_of_getElem? hk)] at hx
  exact absurd hx (by decide)
theorem Net.check_fine {m : Met} {xs : List Leg} (h : m.good = true) (h1 : xs.length ≤ 20) (h2 : xs.all (Leg.ok m.places) = true) : (Net.mk m xs).check = 0 := by
  unfold Net.check
  rw [if_pos h, if_pos]
  simp only [Bool.and_eq_true, decide_eq_true_eq]
  exact ⟨h1, h2⟩
theorem Net.check_much {m : Met} {xs : List Leg} (h : m.good = true) (h1 : 20 < xs.length) : (Net.mk m xs).check = 50 := by
  unfold Net.check
  rw [if_pos h, if_neg]
  simp only [Bool.and_eq_true, decide_eq_true_eq]
  omega
theorem Net.check_40 {m : Met} {xs : List Leg} (h : m.good = false) : (Net.mk m xs).check = 40 := by
  unfold Net.check; rw [if_neg (by simp [h])]
set_option maxRecDepth 100000 in
set_option maxHeartbeats 2000000 in
theorem checkNet_22 (m : Met) (xs : List Leg) (AF AS : Option Addr) (nF cF nS cS : Nat) (A : Option Addr) (nx c : Nat) (w : World) (hm : MetIn w m AF nF AS nS) (hX : Rows 3 Leg.enc w A nx xs) :
    Calls Tryz.prog 22 #[m.val (.slice AF nF cF) (.slice AS nS cS), .slice A nx c] w fun e w' => e = .returned (.int .i64 (Net.mk m xs).check) ∧ Ext w w' := by
  obtain rfl := hX.len
  simp only [Met.val]
  rcases Bool.eq_false_or_eq_true m.good with hg | hg
  · have hck : m.check = 0 := check_good.2 hg
    obtain ⟨⟨p1, p8⟩, -⟩ := Met.good_parts hg
    by_cases hl : xs.length ≤ 20
    · have hl2 : (xs.length : Int) ≤ 20 := by omega
      have hg := Lib.hid hg
      go_enter Tryz.func22, Tryz.ntmps22
      go_wp2_with (go_at_call 33; refine (check_33 m AF AS nF cF nS cS _ (hm.ext (by with_reducible (repeat first | assumption | exact Ext.refl _ | refine Ext.set ?_ (by omega) _ | refine Ext.alloc ?_ _ | refine Ext.drew ?_ | refine Ext.drewN ?_ _ | refine Ext.trans ?_ (by assumption))))).mono ?_; rintro e1 w1 ⟨rfl, hb1⟩; obtain ⟨hc1, hf1, hz1⟩ := hb1.cells; have hs1 := hb1.size; (try simp at hs1))
      refine name_world (R := fun W => Code.wp _ _ _ _ W) fun W1 hx1 hcc1 hff1 hzz1 => ?_
      have hxw : Ext w W1 := (by with_reducible (repeat first | assumption | exact Ext.refl _ | refine Ext.set ?_ (by omega) _ | refine Ext.alloc ?_ _ | refine Ext.drew ?_ | refine Ext.drewN ?_ _ | refine Ext.trans ?_ (by assumption)))
      have q0 : W1.cell? ⟨w.heap.size, 0, none⟩ = some (.int .i64 m.places) := by go_simp
      have hW1 : w.heap.size < W1.heap.size := by have := hx1.size; omega
      clear hc1 hf1 hz1 hx1 hcc1 hff1 hzz1
      go_loopw [6] (fun i wr => ∃ k : Nat, k ≤ xs.length ∧ i = .int .i64 k ∧ (xs.take k).all (Leg.ok m.places) = true ∧ Ext W1 wr) (fun i _ => xs.length - (intOf i).toNat)
      case atStart => exact ⟨0, Nat.zero_le _, rfl, rfl, Ext.refl _⟩
      case round =>
        obtain ⟨k, hk, rfl, ha, he⟩ := hrel
        have g0 := (he.cells.1 _ _ hW1).trans q0
        have gl := he.cells.2.2 _ hW1
        have hew : Ext w wr := hxw.trans he
        by_cases hlt : k < xs.length
        · obtain ⟨x, hx⟩ : ∃ x, xs[k]? = some x := ⟨_, List.getElem?_eq_getElem hlt⟩
          obtain ⟨b0, off, rfl, hb0, c0, c1, c2⟩ := (hX.ext hew).leg hlt hx
          have hst := Lib.hid (all_take_succ (Leg.ok m.places) x xs k hx)
          replace ha := Lib.hid ha
          have hor := Leg.ok_ref m.places x
          rcases Bool.eq_false_or_eq_true (Leg.ok m.places x) with hok | hok
          · have hok' := Lib.hid hok
            replace hor := hor.symm.trans hok
            simp only [Bool.and_eq_true, Bool.not_eq_true'] at hor
            obtain ⟨⟨⟨o1, o2⟩, o3⟩, o4⟩ := hor
            clear hok hx q0
            go_wp2_with (go_at_call 62; refine (within_62 _ _ _ _).mono ?_; rintro e1 w1 ⟨rfl, rfl⟩)
            go_roundw
            case rel => exact ⟨k + 1, by omega, by go_num, by rw [hst.out, ha.out, hok'.out]; rfl, (by with_reducible (repeat first | assumption | exact Ext.refl _ | refine Ext.set ?_ (by omega) _ | refine Ext.alloc ?_ _ | refine Ext.drew ?_ | refine Ext.drewN ?_ _ | refine Ext.trans ?_ (by assumption)))⟩
            case measure => simp [intOf]; omega
          · have hR := Lib.hid (Net.check_bad hg.out hx hok)
            replace hor := hor.symm.trans hok
            clear hok hx q0
            go_wp2_with (go_at_call 62; refine (within_62 _ _ _ _).mono ?_; rintro e1 w1 ⟨rfl, rfl⟩)
            all_goals
              first
              | (go_ret; exact ⟨by rw [hR.out]; rfl, (by with_reducible (repeat first | assumption | exact Ext.refl _ | refine Ext.set ?_ (by omega) _ | refine Ext.alloc ?_ _ | refine Ext.drew ?_ | refine Ext.drewN ?_ _ | refine Ext.trans ?_ (by assumption)))⟩)
              | (exfalso; simp_all; done)
        · obtain rfl : k = xs.length := by omega
          rw [List.take_of_length_le (Nat.le_refl _)] at ha
          have hR := Lib.hid (Net.check_fine hg.out hl ha)
          clear ha q0
          go_wp2_with fail
          go_ret
          exact ⟨by rw [hR.out]; rfl, (by with_reducible (repeat first | assumption | exact Ext.refl _ | refine Ext.set ?_ (by omega) _ | refine Ext.alloc ?_ _ | refine Ext.drew ?_ | refine Ext.drewN ?_ _ | refine Ext.trans ?_ (by assumption)))⟩
    · have h20 : (20 : Int) < (xs.length : Int) := by omega
      have hR := Lib.hid (Net.check_much (xs := xs) hg (by omega))
      clear hl
      go_enter Tryz.func22, Tryz.ntmps22
      go_wp2_with (go_at_call 33; refine (check_33 m AF AS nF cF nS cS _ (hm.ext (by with_reducible (repeat first | assumption | exact Ext.refl _ | refine Ext.set ?_ (by omega) _ | refine Ext.alloc ?_ _ | refine Ext.drew ?_ | refine Ext.drewN ?_ _ | refine Ext.trans ?_ (by assumption))))).mono ?_; rintro e1 w1 ⟨rfl, hb1⟩; obtain ⟨hc1, hf1, hz1⟩ := hb1.cells; have hs1 := hb1.size; (try simp at hs1))
      go_ret
      exact ⟨by rw [hR.out]; rfl, (by with_reducible (repeat first | assumption | exact Ext.refl _ | refine Ext.set ?_ (by omega) _ | refine Ext.alloc ?_ _ | refine Ext.drew ?_ | refine Ext.drewN ?_ _ | refine Ext.trans ?_ (by assumption)))⟩
  · have hck : m.check = 40 := by unfold Met.check; simp [hg]
    have hR := Lib.hid (Net.check_40 (xs := xs) hg)
    go_enter Tryz.func22, Tryz.ntmps22
    go_wp2_with (go_at_call 33; refine (check_33 m AF AS nF cF nS cS _ (hm.ext (by with_reducible (repeat first | assumption | exact Ext.refl _ | refine Ext.set ?_ (by omega) _ | refine Ext.alloc ?_ _ | refine Ext.drew ?_ | refine Ext.drewN ?_ _ | refine Ext.trans ?_ (by assumption))))).mono ?_; rintro e1 w1 ⟨rfl, hb1⟩; obtain ⟨hc1, hf1, hz1⟩ := hb1.cells; have hs1 := hb1.size; (try simp at hs1))
    go_ret
    exact ⟨by rw [hR.out]; rfl, (by with_reducible (repeat first | assumption | exact Ext.refl _ | refine Ext.set ?_ (by omega) _ | refine Ext.alloc ?_ _ | refine Ext.drew ?_ | refine Ext.drewN ?_ _ | refine Ext.trans ?_ (by assumption)))⟩
end Go.Proofs.YtmmimbcfgobnaaaGreat
namespace Go.Proofs.YtmmimbcfgobnaaaGreat
open Go.RowKit
set_option linter.unusedVariables false
set_option linter.unusedSimpArgs false
attribute [local go_sem] stored_match isSome_setCell

/-- The ticks of the shortest leg between two places, as the reference has them. -/
def legStep (a b best : Int) (x : Leg) : Int := if ((x.a = a ∧ x.b = b) ∨ (x.a = b ∧ x.b = a)) ∧ (best < 0 ∨ x.t < best) then x.t else best
def legOf (xs : List Leg) : Tab := fun a b => xs.foldl (legStep a b) (-1)
theorem Tab.short_at (f : Tab) (a b v x y : Int) : (f.short a b v) x y = if (x = a ∧ y = b) ∧ (f a b < 0 ∨ v < f a b) then v else f x y := by
  unfold Tab.short Tab.set
  by_cases h : f a b < 0 ∨ v < f a b
  · rw [if_pos h]
    by_cases h2 : x = a ∧ y = b
    · simp only [h2, and_self, if_true, h]
    · rw [if_neg (fun e : (x = a ∧ y = b) ∧ _ => h2 e.1)]
      simp only [h2, if_false]
  · rw [if_neg h, if_neg (fun e => h e.2)]
theorem Tab.leg_step (f : Tab) (x : Leg) (h : x.a ≠ x.b) (a b : Int) : (f.leg x) a b = legStep a b (f a b) x := by
  unfold Tab.leg
  by_cases h1 : a = x.a ∧ b = x.b
  · obtain ⟨rfl, rfl⟩ := h1
    have n : ¬ (x.a = x.b ∧ x.b = x.a) := by omega
    rw [Tab.short_at, if_neg (fun e => n e.1), Tab.short_at]
    unfold legStep
    by_cases c : f x.a x.b < 0 ∨ x.t < f x.a x.b
    · rw [if_pos ⟨⟨rfl, rfl⟩, c⟩, if_pos ⟨.inl ⟨rfl, rfl⟩, c⟩]
    · rw [if_neg (fun e => c e.2), if_neg (fun e => c e.2)]
  · by_cases h2 : a = x.b ∧ b = x.a
    · obtain ⟨rfl, rfl⟩ := h2
      have e : (f.short x.a x.b x.t) x.b x.a = f x.b x.a := by rw [Tab.short_at, if_neg (fun e => h1 e.1)]
      rw [Tab.short_at, e]
      unfold legStep
      by_cases c : f x.b x.a < 0 ∨ x.t < f x.b x.a
      · rw [if_pos ⟨⟨rfl, rfl⟩, c⟩, if_pos ⟨.inr ⟨rfl, rfl⟩, c⟩]
      · rw [if_neg (fun e => c e.2), if_neg (fun e => c e.2)]
    · rw [Tab.short_at, if_neg (fun e => h2 e.1), Tab.short_at, if_neg (fun e => h1 e.1)]
      unfold legStep
      rw [if_neg (by omega)]
theorem foldl_leg_eq : ∀ (xs : List Leg) (f : Tab) (a b : Int), (∀ x ∈ xs, x.a ≠ x.b) → (xs.foldl Tab.leg f) a b = xs.foldl (legStep a b) (f a b)
  | [], f, a, b, _ => rfl
  | x :: xs, f, a, b, h => by
    rw [List.foldl_cons, List.foldl_cons, foldl_leg_eq xs _ a b (fun y hy => h y (by simp [hy])), Tab.leg_step f x (h x (by simp))]
theorem legTab_eq {xs : List Leg} (h : ∀ x ∈ xs, x.a ≠ x.b) : legTab xs = legOf xs := by
  funext a b
  exact foldl_leg_eq xs tab0 a b h
set_option maxRecDepth 100000 in
set_option maxHeartbeats 2000000 in
theorem leg_103 (xs : List Leg) (A : Option Addr) (nx c : Nat) (a b : Int) (w : World) (hX : Rows 3 Leg.enc w A nx xs) :
    Calls Tryz.prog 103 #[.slice A nx c, .int .i64 a, .int .i64 b] w fun e w' => e = .returned (.int .i64 (legOf xs a b)) ∧ Ext w w' := by
  obtain rfl := hX.len
  have hsm := hX.small
  go_enter Tryz.func103, Tryz.ntmps103
  go_wp2
  go_loopw [7, 8] (fun v i wr => ∃ k : Nat, k ≤ xs.length ∧ i = .int .i64 k ∧ v = .int .i64 ((xs.take k).foldl (legStep a b) (-1)) ∧ Ext w wr) (fun _ i _ => xs.length - (intOf i).toNat)
  case atStart => exact ⟨0, Nat.zero_le _, rfl, rfl, Ext.refl _⟩
  case round =>
    obtain ⟨k, hk, rfl, rfl, he⟩ := hrel
    by_cases hlt : k < xs.length
    · obtain ⟨x, hx⟩ : ∃ x, xs[k]? = some x := ⟨_, List.getElem?_eq_getElem hlt⟩
      obtain ⟨b0, off, rfl, hb0, c0, c1, c2⟩ := (hX.ext he).leg hlt hx
      have hst := Lib.hid (foldl_take_succ (legStep a b) (-1) x xs k hx)
      generalize (xs.take k).foldl (legStep a b) (-1) = u at *
      clear hx
      rcases Bool.eq_false_or_eq_true (x.a == a) with p1 | p1
      · rcases Bool.eq_false_or_eq_true (x.b == b) with p2 | p2
        · by_cases u1 : u < 0
          · have hs := Lib.hid (show legStep a b u x = x.t by unfold legStep; rw [if_pos (by simp only [beq_iff_eq, beq_eq_false_iff_ne] at *; omega)])
            go_wp2
            go_roundw
            case rel => exact ⟨k + 1, by omega, by go_num, by rw [hst.out, hs.out], (by with_reducible (repeat first | assumption | exact Ext.refl _ | refine Ext.set ?_ (by omega) _ | refine Ext.alloc ?_ _ | refine Ext.drew ?_ | refine Ext.drewN ?_ _ | refine Ext.trans ?_ (by assumption)))⟩
            case measure => simp [intOf]; omega
          · by_cases u2 : x.t < u
            · have hs := Lib.hid (show legStep a b u x = x.t by unfold legStep; rw [if_pos (by simp only [beq_iff_eq, beq_eq_false_iff_ne] at *; omega)])
              go_wp2
              go_roundw
              case rel => exact ⟨k + 1, by omega, by go_num, by rw [hst.out, hs.out], (by with_reducible (repeat first | assumption | exact Ext.refl _ | refine Ext.set ?_ (by omega) _ | refine Ext.alloc ?_ _ | refine Ext.drew ?_ | refine Ext.drewN ?_ _ | refine Ext.trans ?_ (by assumption)))⟩
              case measure => simp [intOf]; omega
            · have hs := Lib.hid (show legStep a b u x = u by unfold legStep; rw [if_neg (by simp only [beq_iff_eq, beq_eq_false_iff_ne] at *; omega)])
              go_wp2
              go_roundw
              case rel => exact ⟨k + 1, by omega, by go_num, by rw [hst.out, hs.out], (by with_reducible (repeat first | assumption | exact Ext.refl _ | refine Ext.set ?_ (by omega) _ | refine Ext.alloc ?_ _ | refine Ext.drew ?_ | refine Ext.drewN ?_ _ | refine Ext.trans ?_ (by assumption)))⟩
              case measure => simp [intOf]; omega
        · rcases Bool.eq_false_or_eq_true (x.a == b) with p3 | p3
          · rcases Bool.eq_false_or_eq_true (x.b == a) with p4 | p4
            · by_cases u1 : u < 0
              · have hs := Lib.hid (show legStep a b u x = x.t by unfold legStep; rw [if_pos (by simp only [beq_iff_eq, beq_eq_false_iff_ne] at *; omega)])
                go_wp2
                go_roundw
                case rel => exact ⟨k + 1, by omega, by go_num, by rw [hst.out, hs.out], (by with_reducible (repeat first | assumption | exact Ext.refl _ | refine Ext.set ?_ (by omega) _ | refine Ext.alloc ?_ _ | refine Ext.drew ?_ | refine Ext.drewN ?_ _ | refine Ext.trans ?_ (by assumption)))⟩
                case measure => simp [intOf]; omega
              · by_cases u2 : x.t < u
                · have hs := Lib.hid (show legStep a b u x = x.t by unfold legStep; rw [if_pos (by simp only [beq_iff_eq, beq_eq_false_iff_ne] at *; omega)])
                  go_wp2
                  go_roundw
                  case rel => exact ⟨k + 1, by omega, by go_num, by rw [hst.out, hs.out], (by with_reducible (repeat first | assumption | exact Ext.refl _ | refine Ext.set ?_ (by omega) _ | refine Ext.alloc ?_ _ | refine Ext.drew ?_ | refine Ext.drewN ?_ _ | refine Ext.trans ?_ (by assumption)))⟩
                  case measure => simp [intOf]; omega
                · have hs := Lib.hid (show legStep a b u x = u by unfold legStep; rw [if_neg (by simp only [beq_iff_eq, beq_eq_false_iff_ne] at *; omega)])
                  go_wp2
                  go_roundw
                  case rel => exact ⟨k + 1, by omega, by go_num, by rw [hst.out, hs.out], (by with_reducible (repeat first | assumption | exact Ext.refl _ | refine Ext.set ?_ (by omega) _ | refine Ext.alloc ?_ _ | refine Ext.drew ?_ | refine Ext.drewN ?_ _ | refine Ext.trans ?_ (by assumption)))⟩
                  case measure => simp [intOf]; omega
            · have hs := Lib.hid (show legStep a b u x = u by unfold legStep; rw [if_neg (by simp only [beq_iff_eq, beq_eq_false_iff_ne] at *; omega)])
              go_wp2
              go_roundw
              case rel => exact ⟨k + 1, by omega, by go_num, by rw [hst.out, hs.out], (by with_reducible (repeat first | assumption | exact Ext.refl _ | refine Ext.set ?_ (by omega) _ | refine Ext.alloc ?_ _ | refine Ext.drew ?_ | refine Ext.drewN ?_ _ | refine Ext.trans ?_ (by assumption)))⟩
              case measure => simp [intOf]; omega
          · have hs := Lib.hid (show legStep a b u x = u by unfold legStep; rw [if_neg (by simp only [beq_iff_eq, beq_eq_false_iff_ne] at *; omega)])
            go_wp2
            go_roundw
            case rel => exact ⟨k + 1, by omega, by go_num, by rw [hst.out, hs.out], (by with_reducible (repeat first | assumption | exact Ext.refl _ | refine Ext.set ?_ (by omega) _ | refine Ext.alloc ?_ _ | refine Ext.drew ?_ | refine Ext.drewN ?_ _ | refine Ext.trans ?_ (by assumption)))⟩
            case measure => simp [intOf]; omega
      · rcases Bool.eq_false_or_eq_true (x.a == b) with p3 | p3
        · rcases Bool.eq_false_or_eq_true (x.b == a) with p4 | p4
          · by_cases u1 : u < 0
            · have hs := Lib.hid (show legStep a b u x = x.t by unfold legStep; rw [if_pos (by simp only [beq_iff_eq, beq_eq_false_iff_ne] at *; omega)])
              go_wp2
              go_roundw
              case rel => exact ⟨k + 1, by omega, by go_num, by rw [hst.out, hs.out], (by with_reducible (repeat first | assumption | exact Ext.refl _ | refine Ext.set ?_ (by omega) _ | refine Ext.alloc ?_ _ | refine Ext.drew ?_ | refine Ext.drewN ?_ _ | refine Ext.trans ?_ (by assumption)))⟩
              case measure => simp [intOf]; omega
            · by_cases u2 : x.t < u
              · have hs := Lib.hid (show legStep a b u x = x.t by unfold legStep; rw [if_pos (by simp only [beq_iff_eq, beq_eq_false_iff_ne] at *; omega)])
                go_wp2
                go_roundw
                case rel => exact ⟨k + 1, by omega, by go_num, by rw [hst.out, hs.out], (by with_reducible (repeat first | assumption | exact Ext.refl _ | refine Ext.set ?_ (by omega) _ | refine Ext.alloc ?_ _ | refine Ext.drew ?_ | refine Ext.drewN ?_ _ | refine Ext.trans ?_ (by assumption)))⟩
                case measure => simp [intOf]; omega
              · have hs := Lib.hid (show legStep a b u x = u by unfold legStep; rw [if_neg (by simp only [beq_iff_eq, beq_eq_false_iff_ne] at *; omega)])
                go_wp2
                go_roundw
                case rel => exact ⟨k + 1, by omega, by go_num, by rw [hst.out, hs.out], (by with_reducible (repeat first | assumption | exact Ext.refl _ | refine Ext.set ?_ (by omega) _ | refine Ext.alloc ?_ _ | refine Ext.drew ?_ | refine Ext.drewN ?_ _ | refine Ext.trans ?_ (by assumption)))⟩
                case measure => simp [intOf]; omega
          · have hs := Lib.hid (show legStep a b u x = u by unfold legStep; rw [if_neg (by simp only [beq_iff_eq, beq_eq_false_iff_ne] at *; omega)])
            go_wp2
            go_roundw
            case rel => exact ⟨k + 1, by omega, by go_num, by rw [hst.out, hs.out], (by with_reducible (repeat first | assumption | exact Ext.refl _ | refine Ext.set ?_ (by omega) _ | refine Ext.alloc ?_ _ | refine Ext.drew ?_ | refine Ext.drewN ?_ _ | refine Ext.trans ?_ (by assumption)))⟩
            case measure => simp [intOf]; omega
        · have hs := Lib.hid (show legStep a b u x = u by unfold legStep; rw [if_neg (by simp only [beq_iff_eq, beq_eq_false_iff_ne] at *; omega)])
          go_wp2
          go_roundw
          case rel => exact ⟨k + 1, by omega, by go_num, by rw [hst.out, hs.out], (by with_reducible (repeat first | assumption | exact Ext.refl _ | refine Ext.set ?_ (by omega) _ | refine Ext.alloc ?_ _ | refine Ext.drew ?_ | refine Ext.drewN ?_ _ | refine Ext.trans ?_ (by assumption)))⟩
          case measure => simp [intOf]; omega
    · obtain rfl : k = xs.length := by omega
      have hR := Lib.hid (show legOf xs a b = (xs.take xs.length).foldl (legStep a b) (-1) by rw [List.take_of_length_le (Nat.le_refl _)]; rfl)
      go_wp2
      go_ret
      exact ⟨by rw [hR.out]; rfl, he⟩
end Go.Proofs.YtmmimbcfgobnaaaGreat
