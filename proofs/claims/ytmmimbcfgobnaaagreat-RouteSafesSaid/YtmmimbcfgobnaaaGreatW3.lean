/- weather.Check: its closures, and slices.IndexFunc, slices.ContainsFunc at them. -/
import Derived.Test.YtmmimbcfgobnaaaGreatW1
set_option linter.unusedVariables false
set_option linter.unusedSimpArgs false
namespace Go.Proofs.YtmmimbcfgobnaaaGreat
open Go.RowKit
set_option linter.unusedVariables false
set_option linter.unusedSimpArgs false
attribute [local go_sem] stored_match isSome_setCell

set_option maxRecDepth 100000 in
set_option maxHeartbeats 2000000 in
theorem one_143 (n : Int) (w : World) : Calls Tryz.prog 143 #[.int .i64 n] w fun e w' => e = .returned (Span.val ⟨n, n⟩) ∧ Ext w w' := by
  go_enter Tryz.func143, Tryz.ntmps143
  go_wp2
  exact bodyPost_ret (v := .agg #[.int .i64 n, .int .i64 n]) (by simp [results, go_sem]) rfl ⟨rfl, (by with_reducible (repeat first | assumption | exact Ext.refl _ | refine Ext.set ?_ (by omega) _ | refine Ext.alloc ?_ _ | refine Ext.drew ?_ | refine Ext.drewN ?_ _ | refine Ext.trans ?_ (by assumption)))⟩
def Wx.only (x : Wx) : Sky := ⟨⟨x.wind, x.wind⟩, ⟨x.see, x.see⟩, ⟨x.ceil, x.ceil⟩, x.ice, x.storm⟩
theorem only_ok (x : Wx) : x.only.ok = x.ok := by
  unfold Wx.only Sky.ok Wx.ok Span.ok within
  simp only [Int.le_refl, true_and]
  simp [Bool.and_comm, Bool.and_left_comm, Bool.and_assoc]
set_option maxRecDepth 100000 in
set_option maxHeartbeats 2000000 in
theorem only_125 (x : Wx) (w : World) : Calls Tryz.prog 125 #[x.val] w fun e w' => e = .returned x.only.val ∧ Ext w w' := by
  simp only [Wx.val]
  go_enter Tryz.func125, Tryz.ntmps125
  go_wp2_with fail
  refine name_world (R := fun W => Code.wp _ _ _ _ W) fun W0 hx0 hc0 hf0 hz0 => ?_
  try simp at hz0
  go_region_held3 (fun w' => Holds W0 (w.heap.size + 1) w') (with_reducible ((repeat refine Holds.drew ?_); first | (first | assumption | exact Holds.refl _ _ | exact Holds.of_drew (by assumption)) | (refine Holds.ext ?_ (by assumption); first | assumption | exact Holds.refl _ _ | exact Holds.of_drew (by assumption)) | (refine Holds.alloc ?_ _; first | assumption | exact Holds.refl _ _ | exact Holds.of_drew (by assumption)) | exact Holds.realloc (by first | assumption | exact Holds.refl _ _ | exact Holds.of_drew (by assumption)) (by omega) | ((repeat first | refine Holds.set ?_ _ | refine Holds.fresh ?_ (by omega) _); first | assumption | exact Holds.refl _ _ | exact Holds.of_drew (by assumption)))) (first | (go_at_call 143; refine (one_143 _ _).mono ?_; rintro e1 w1 ⟨rfl, hb1⟩; obtain ⟨hc1, hf1, hz1⟩ := hb1.cells))
  go_wp2
  refine bodyPost_ret (v := x.only.val) ?_ rfl ⟨rfl, (by with_reducible (repeat first | assumption | exact Ext.refl _ | refine Ext.set ?_ (by omega) _ | refine Ext.alloc ?_ _ | refine Ext.drew ?_ | refine Ext.drewN ?_ _ | refine Ext.trans ?_ (by assumption)))⟩
  have hx : Ext W0 w1 := (by with_reducible (repeat first | assumption | exact Ext.refl _ | refine Ext.set ?_ (by omega) _ | refine Ext.alloc ?_ _ | refine Ext.drew ?_ | refine Ext.drewN ?_ _ | refine Ext.trans ?_ (by assumption)))
  have k0 : ∀ o, w1.cell? ⟨w.heap.size + 1, o, none⟩ = W0.cell? ⟨w.heap.size + 1, o, none⟩ := fun o => hx.cells.1 _ o (by omega)
  simp [results, go_sem, Wx.only, k0, hc0]

set_option maxRecDepth 100000 in
set_option maxHeartbeats 2000000 in
theorem place_120 (places : Int) (n : Int) (bm : Nat) (w : World) (hm : w.cell? ⟨bm, 0, none⟩ = some (.int .i64 places)) (h1 : 1 ≤ places) (h8 : places ≤ 8) :
    Calls Tryz.prog 120 #[.int .i64 n, .pointer (some ⟨bm, 0, none⟩)] w fun e w' => e = .returned (.bool (within n 0 (places - 1))) ∧ w = w' := by
  go_enter Tryz.func120, Tryz.ntmps120
  go_wp2_with (go_at_call 105; refine (within_105 _ _ _ _).mono ?_; rintro e1 w1 ⟨rfl, rfl⟩)
  go_ret
  exact ⟨rfl, rfl⟩
set_option maxRecDepth 100000 in
set_option maxHeartbeats 2000000 in
theorem time_121 (n : Int) (w : World) : Calls Tryz.prog 121 #[.int .i64 n] w fun e w' => e = .returned (.bool (within n 0 2000)) ∧ w = w' := by
  go_enter Tryz.func121, Tryz.ntmps121
  go_wp2_with (go_at_call 105; refine (within_105 _ _ _ _).mono ?_; rintro e1 w1 ⟨rfl, rfl⟩)
  go_ret
  exact ⟨rfl, rfl⟩
set_option maxRecDepth 100000 in
set_option maxHeartbeats 2000000 in
theorem beyond_126 (n : Int) (w : World) : Calls Tryz.prog 126 #[.int .i64 n] w fun e w' => e = .returned (.bool (!within n 0 20000)) ∧ Ext w w' := by
  go_enter Tryz.func126, Tryz.ntmps126
  go_wp2_with (go_at_call 105; refine (within_105 _ _ _ _).mono ?_; rintro e1 w1 ⟨rfl, rfl⟩)
  go_ret
  exact ⟨rfl, Ext.refl _⟩
def fcBad (places : Int) (f : Fc) : Bool := !within f.place 0 (places - 1) || !within f.fr 0 2000 || !within f.to 0 2000 || decide (f.to ≤ f.fr) || !within f.issued 0 2000 || !f.sky.ok
def siBad (places : Int) (s : Sight) : Bool := !within s.place 0 (places - 1) || !within s.at_ 0 2000 || !s.now.only.ok
theorem fcBad_ok (places : Int) (f : Fc) : fcBad places f = !Fc.ok places f := by
  unfold fcBad Fc.ok
  rw [Bool.eq_iff_iff]
  simp only [Bool.or_eq_true, Bool.not_eq_true', Bool.and_eq_false_iff, decide_eq_true_eq, decide_eq_false_iff_not, within_false]
  constructor
  · rintro (((((h | h) | h) | h) | h) | h)
    all_goals first | exact .inl (.inl (.inl h)) | exact .inl (.inr h) | exact .inr h | exact .inl (.inl (.inr (by omega)))
  · rintro (((h | h) | h) | h)
    · exact .inl (.inl (.inl (.inl (.inl h))))
    · by_cases g1 : f.fr < 0 ∨ 2000 < f.fr
      · exact .inl (.inl (.inl (.inl (.inr g1))))
      · by_cases g2 : f.to < 0 ∨ 2000 < f.to
        · exact .inl (.inl (.inl (.inr g2)))
        · exact .inl (.inl (.inr (by omega)))
    · exact .inl (.inr h)
    · exact .inr h
theorem siBad_ok (places : Int) (s : Sight) : siBad places s = !Sight.ok places s := by
  unfold siBad Sight.ok
  rw [only_ok]
  simp [Bool.not_and]
set_option maxRecDepth 100000 in
set_option maxHeartbeats 2000000 in
theorem forecast_122 (places : Int) (x : Fc) (bm bp bt : Nat) (w : World) (hm : w.cell? ⟨bm, 0, none⟩ = some (.int .i64 places)) (lm : bm < w.heap.size)
    (hp : w.cell? ⟨bp, 0, none⟩ = some (.func (.func 120) #[] #[.pointer (some ⟨bm, 0, none⟩)])) (lp : bp < w.heap.size) (ht : w.cell? ⟨bt, 0, none⟩ = some (.func (.func 121) #[] #[])) (lt : bt < w.heap.size) (h1 : 1 ≤ places) (h8 : places ≤ 8) :
    Calls Tryz.prog 122 #[x.val, .pointer (some ⟨bp, 0, none⟩), .pointer (some ⟨bt, 0, none⟩)] w fun e w' => e = .returned (.bool (fcBad places x)) ∧ Ext w w' := by
  simp only [Fc.val]
  go_enter Tryz.func122, Tryz.ntmps122
  go_wp2_with (first | (go_at_call 120; refine (place_120 places _ bm _ (by go_simp) h1 h8).mono ?_; rintro e1 w1 ⟨rfl, rfl⟩) | (go_at_call 121; refine (time_121 _ _).mono ?_; rintro e1 w1 ⟨rfl, rfl⟩) | (go_at_call 123; refine (sky_123 _ _).mono ?_; rintro e1 w1 ⟨rfl, hb1⟩; obtain ⟨hc1, hf1, hz1⟩ := hb1.cells; have hs1 := hb1.size; (try simp at hs1)))
  all_goals
    go_ret
    exact ⟨by first | (simp [fcBad, *]; done) | (simp [fcBad, *]; omega), (by with_reducible (repeat first | assumption | exact Ext.refl _ | refine Ext.set ?_ (by omega) _ | refine Ext.alloc ?_ _ | refine Ext.drew ?_ | refine Ext.drewN ?_ _ | refine Ext.trans ?_ (by assumption)))⟩
set_option maxRecDepth 100000 in
set_option maxHeartbeats 2000000 in
theorem sight_124 (places : Int) (x : Sight) (bm bp bt : Nat) (w : World) (hm : w.cell? ⟨bm, 0, none⟩ = some (.int .i64 places)) (lm : bm < w.heap.size)
    (hp : w.cell? ⟨bp, 0, none⟩ = some (.func (.func 120) #[] #[.pointer (some ⟨bm, 0, none⟩)])) (lp : bp < w.heap.size) (ht : w.cell? ⟨bt, 0, none⟩ = some (.func (.func 121) #[] #[])) (lt : bt < w.heap.size) (h1 : 1 ≤ places) (h8 : places ≤ 8) :
    Calls Tryz.prog 124 #[x.val, .pointer (some ⟨bp, 0, none⟩), .pointer (some ⟨bt, 0, none⟩)] w fun e w' => e = .returned (.bool (siBad places x)) ∧ Ext w w' := by
  simp only [Sight.val]
  go_enter Tryz.func124, Tryz.ntmps124
  go_wp2_with (first | (go_at_call 120; refine (place_120 places _ bm _ (by go_simp) h1 h8).mono ?_; rintro e1 w1 ⟨rfl, rfl⟩) | (go_at_call 121; refine (time_121 _ _).mono ?_; rintro e1 w1 ⟨rfl, rfl⟩) | (go_at_call 125; refine (only_125 x.now _).mono ?_; rintro e1 w1 ⟨rfl, hb1⟩; obtain ⟨hc1, hf1, hz1⟩ := hb1.cells; have hs1 := hb1.size; (try simp at hs1)) | (go_at_call 123; refine (sky_123 x.now.only _).mono ?_; rintro e1 w1 ⟨rfl, hb1⟩; obtain ⟨hc1, hf1, hz1⟩ := hb1.cells; have hs1 := hb1.size; (try simp at hs1)))
  all_goals
    go_ret
    exact ⟨by first | (simp [siBad, *]; done) | (simp [siBad, *]; omega), (by with_reducible (repeat first | assumption | exact Ext.refl _ | refine Ext.set ?_ (by omega) _ | refine Ext.alloc ?_ _ | refine Ext.drew ?_ | refine Ext.drewN ?_ _ | refine Ext.trans ?_ (by assumption)))⟩

set_option maxRecDepth 100000 in
set_option maxHeartbeats 2000000 in
theorem index_144  (xs : List Int) (A : Option Addr) (n c : Nat) (w : World) (hn : Rows 1 encInt w A n xs)  :
    Calls Tryz.prog 144 #[.slice A n c, .func (.func 126) #[] #[]] w fun e w' => e = .returned (.int .i64 (idxOf (fun x => !within x 0 20000) xs)) ∧ Ext w w' := by
  have hlen := hn.len
  have hsm := hn.small
  go_enter Tryz.func144, Tryz.ntmps144
  go_wp2
  go_loopw [5, 8] (fun _ i wr => ∃ k : Nat, k ≤ n ∧ i = .int .i64 k ∧ (xs.take k).any (fun x => !within x 0 20000) = false ∧ Ext w wr) (fun _ i _ => n - (intOf i).toNat)
  case atStart => exact ⟨0, Nat.zero_le _, rfl, rfl, Ext.refl _⟩
  case round =>
    obtain ⟨k, hk, rfl, ha, he⟩ := hrel
    by_cases hlt : k < n
    · obtain ⟨x, hx⟩ : ∃ x, xs[k]? = some x := ⟨_, List.getElem?_eq_getElem (by omega)⟩
      obtain ⟨hcr, hfr, hzr⟩ := he.cells

      clear hcr hfr hzr
      obtain ⟨b0, off, rfl, hb0, h0⟩ := (hn.ext he).int hlt
      obtain ⟨hkx, rfl⟩ := List.getElem?_eq_some_iff.1 hx
      generalize xs[k] = x at *
      have hs := Lib.hid (any_take_succ (fun x => !within x 0 20000) x xs k hx)
      have hat := Lib.hid (idxOf_at (fun x => !within x 0 20000) x xs k ha hx)
      have ha := Lib.hid ha
      clear hx hn hlen
      go_wp2_with (go_at_call 126; refine (beyond_126 x _).mono ?_; rintro e1 w1 ⟨rfl, hb1⟩)
      · go_ret
        exact ⟨ret_int (hat.out (by simp [*])).symm, he.trans hb1⟩
      · go_roundw
        case rel => exact ⟨k + 1, by omega, by go_num, by rw [hs.out, ha.out]; simp [*], he.trans hb1⟩
        case measure => simp [intOf]; omega
    · have := Lib.hid (idxOf_none (fun x => !within x 0 20000) xs (by rw [← any_take_all _ xs k (by omega)]; exact ha))
      clear ha
      go_wp2
      go_ret
      exact ⟨ret_int this.out.symm, he⟩
set_option maxRecDepth 100000 in
set_option maxHeartbeats 2000000 in
theorem contains_127  (xs : List Int) (A : Option Addr) (n c : Nat) (w : World) (hn : Rows 1 encInt w A n xs)  :
    Calls Tryz.prog 127 #[.slice A n c, .func (.func 126) #[] #[]] w fun e w' => e = .returned (.bool (xs.any (fun x => !within x 0 20000))) ∧ Ext w w' := by
  go_enter Tryz.func127, Tryz.ntmps127
  go_wp2_with (go_at_call 144; refine (index_144  xs A n c _ hn ).mono ?_; rintro e1 w1 ⟨rfl, hb1⟩)
  go_ret
  exact ⟨ret_bool (idxOf_any _ xs), hb1⟩

set_option maxRecDepth 100000 in
set_option maxHeartbeats 2000000 in
theorem index_145 (places : Int) (bm : Nat) (bp : Nat) (bt : Nat) (h1 : 1 ≤ places) (h8 : places ≤ 8) (xs : List Fc) (A : Option Addr) (n c : Nat) (w : World) (hn : Rows 12 Fc.enc w A n xs) (hm : w.cell? ⟨bm, 0, none⟩ = some (.int .i64 places)) (lhm : bm < w.heap.size) (hp : w.cell? ⟨bp, 0, none⟩ = some (.func (.func 120) #[] #[.pointer (some ⟨bm, 0, none⟩)])) (lhp : bp < w.heap.size) (ht : w.cell? ⟨bt, 0, none⟩ = some (.func (.func 121) #[] #[])) (lht : bt < w.heap.size) :
    Calls Tryz.prog 145 #[.slice A n c, .func (.func 122) #[] #[.pointer (some ⟨bp, 0, none⟩), .pointer (some ⟨bt, 0, none⟩)]] w fun e w' => e = .returned (.int .i64 (idxOf (fcBad places) xs)) ∧ Ext w w' := by
  have hlen := hn.len
  have hsm := hn.small
  go_enter Tryz.func145, Tryz.ntmps145
  go_wp2
  go_loopw [5, 8] (fun _ i wr => ∃ k : Nat, k ≤ n ∧ i = .int .i64 k ∧ (xs.take k).any (fcBad places) = false ∧ Ext w wr) (fun _ i _ => n - (intOf i).toNat)
  case atStart => exact ⟨0, Nat.zero_le _, rfl, rfl, Ext.refl _⟩
  case round =>
    obtain ⟨k, hk, rfl, ha, he⟩ := hrel
    by_cases hlt : k < n
    · obtain ⟨x, hx⟩ : ∃ x, xs[k]? = some x := ⟨_, List.getElem?_eq_getElem (by omega)⟩
      obtain ⟨hcr, hfr, hzr⟩ := he.cells
      have rhm := (hcr bm 0 lhm).trans hm; have rlhm := hzr bm lhm
      have rhp := (hcr bp 0 lhp).trans hp; have rlhp := hzr bp lhp
      have rht := (hcr bt 0 lht).trans ht; have rlht := hzr bt lht
      clear hcr hfr hzr
      obtain ⟨b0, off, rfl, hb0, q0, q1, q2, q3, q4, q5, q6, q7, q8, q9, q10, q11⟩ := (hn.ext he).fc hlt hx
      have hs := Lib.hid (any_take_succ (fcBad places) x xs k hx)
      have hat := Lib.hid (idxOf_at (fcBad places) x xs k ha hx)
      have ha := Lib.hid ha
      clear hx hn hlen
      go_wp2_with (go_at_call 122; refine (forecast_122 places x bm bp bt _ rhm rlhm rhp rlhp rht rlht h1 h8).mono ?_; rintro e1 w1 ⟨rfl, hb1⟩)
      · go_ret
        exact ⟨ret_int (hat.out (by simp [*])).symm, he.trans hb1⟩
      · go_roundw
        case rel => exact ⟨k + 1, by omega, by go_num, by rw [hs.out, ha.out]; simp [*], he.trans hb1⟩
        case measure => simp [intOf]; omega
    · have := Lib.hid (idxOf_none (fcBad places) xs (by rw [← any_take_all _ xs k (by omega)]; exact ha))
      clear ha
      go_wp2
      go_ret
      exact ⟨ret_int this.out.symm, he⟩
set_option maxRecDepth 100000 in
set_option maxHeartbeats 2000000 in
theorem contains_128 (places : Int) (bm : Nat) (bp : Nat) (bt : Nat) (h1 : 1 ≤ places) (h8 : places ≤ 8) (xs : List Fc) (A : Option Addr) (n c : Nat) (w : World) (hn : Rows 12 Fc.enc w A n xs) (hm : w.cell? ⟨bm, 0, none⟩ = some (.int .i64 places)) (lhm : bm < w.heap.size) (hp : w.cell? ⟨bp, 0, none⟩ = some (.func (.func 120) #[] #[.pointer (some ⟨bm, 0, none⟩)])) (lhp : bp < w.heap.size) (ht : w.cell? ⟨bt, 0, none⟩ = some (.func (.func 121) #[] #[])) (lht : bt < w.heap.size) :
    Calls Tryz.prog 128 #[.slice A n c, .func (.func 122) #[] #[.pointer (some ⟨bp, 0, none⟩), .pointer (some ⟨bt, 0, none⟩)]] w fun e w' => e = .returned (.bool (xs.any (fcBad places))) ∧ Ext w w' := by
  go_enter Tryz.func128, Tryz.ntmps128
  go_wp2_with (go_at_call 145; refine (index_145 places bm bp bt h1 h8 xs A n c _ hn hm lhm hp lhp ht lht).mono ?_; rintro e1 w1 ⟨rfl, hb1⟩)
  go_ret
  exact ⟨ret_bool (idxOf_any _ xs), hb1⟩

set_option maxRecDepth 100000 in
set_option maxHeartbeats 2000000 in
theorem index_146 (places : Int) (bm : Nat) (bp : Nat) (bt : Nat) (h1 : 1 ≤ places) (h8 : places ≤ 8) (xs : List Sight) (A : Option Addr) (n c : Nat) (w : World) (hn : Rows 7 Sight.enc w A n xs) (hm : w.cell? ⟨bm, 0, none⟩ = some (.int .i64 places)) (lhm : bm < w.heap.size) (hp : w.cell? ⟨bp, 0, none⟩ = some (.func (.func 120) #[] #[.pointer (some ⟨bm, 0, none⟩)])) (lhp : bp < w.heap.size) (ht : w.cell? ⟨bt, 0, none⟩ = some (.func (.func 121) #[] #[])) (lht : bt < w.heap.size) :
    Calls Tryz.prog 146 #[.slice A n c, .func (.func 124) #[] #[.pointer (some ⟨bp, 0, none⟩), .pointer (some ⟨bt, 0, none⟩)]] w fun e w' => e = .returned (.int .i64 (idxOf (siBad places) xs)) ∧ Ext w w' := by
  have hlen := hn.len
  have hsm := hn.small
  go_enter Tryz.func146, Tryz.ntmps146
  go_wp2
  go_loopw [5, 8] (fun _ i wr => ∃ k : Nat, k ≤ n ∧ i = .int .i64 k ∧ (xs.take k).any (siBad places) = false ∧ Ext w wr) (fun _ i _ => n - (intOf i).toNat)
  case atStart => exact ⟨0, Nat.zero_le _, rfl, rfl, Ext.refl _⟩
  case round =>
    obtain ⟨k, hk, rfl, ha, he⟩ := hrel
    by_cases hlt : k < n
    · obtain ⟨x, hx⟩ : ∃ x, xs[k]? = some x := ⟨_, List.getElem?_eq_getElem (by omega)⟩
      obtain ⟨hcr, hfr, hzr⟩ := he.cells
      have rhm := (hcr bm 0 lhm).trans hm; have rlhm := hzr bm lhm
      have rhp := (hcr bp 0 lhp).trans hp; have rlhp := hzr bp lhp
      have rht := (hcr bt 0 lht).trans ht; have rlht := hzr bt lht
      clear hcr hfr hzr
      obtain ⟨b0, off, rfl, hb0, q0, q1, q2, q3, q4, q5, q6⟩ := (hn.ext he).sight hlt hx
      have hs := Lib.hid (any_take_succ (siBad places) x xs k hx)
      have hat := Lib.hid (idxOf_at (siBad places) x xs k ha hx)
      have ha := Lib.hid ha
      clear hx hn hlen
      go_wp2_with (go_at_call 124; refine (sight_124 places x bm bp bt _ rhm rlhm rhp rlhp rht rlht h1 h8).mono ?_; rintro e1 w1 ⟨rfl, hb1⟩)
      · go_ret
        exact ⟨ret_int (hat.out (by simp [*])).symm, he.trans hb1⟩
      · go_roundw
        case rel => exact ⟨k + 1, by omega, by go_num, by rw [hs.out, ha.out]; simp [*], he.trans hb1⟩
        case measure => simp [intOf]; omega
    · have := Lib.hid (idxOf_none (siBad places) xs (by rw [← any_take_all _ xs k (by omega)]; exact ha))
      clear ha
      go_wp2
      go_ret
      exact ⟨ret_int this.out.symm, he⟩
set_option maxRecDepth 100000 in
set_option maxHeartbeats 2000000 in
theorem contains_129 (places : Int) (bm : Nat) (bp : Nat) (bt : Nat) (h1 : 1 ≤ places) (h8 : places ≤ 8) (xs : List Sight) (A : Option Addr) (n c : Nat) (w : World) (hn : Rows 7 Sight.enc w A n xs) (hm : w.cell? ⟨bm, 0, none⟩ = some (.int .i64 places)) (lhm : bm < w.heap.size) (hp : w.cell? ⟨bp, 0, none⟩ = some (.func (.func 120) #[] #[.pointer (some ⟨bm, 0, none⟩)])) (lhp : bp < w.heap.size) (ht : w.cell? ⟨bt, 0, none⟩ = some (.func (.func 121) #[] #[])) (lht : bt < w.heap.size) :
    Calls Tryz.prog 129 #[.slice A n c, .func (.func 124) #[] #[.pointer (some ⟨bp, 0, none⟩), .pointer (some ⟨bt, 0, none⟩)]] w fun e w' => e = .returned (.bool (xs.any (siBad places))) ∧ Ext w w' := by
  go_enter Tryz.func129, Tryz.ntmps129
  go_wp2_with (go_at_call 146; refine (index_146 places bm bp bt h1 h8 xs A n c _ hn hm lhm hp lhp ht lht).mono ?_; rintro e1 w1 ⟨rfl, hb1⟩)
  go_ret
  exact ⟨ret_bool (idxOf_any _ xs), hb1⟩
end Go.Proofs.YtmmimbcfgobnaaaGreat
