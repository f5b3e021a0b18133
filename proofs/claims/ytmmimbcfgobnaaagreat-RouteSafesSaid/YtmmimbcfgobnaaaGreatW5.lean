/- slices.SortStableFunc at a few whole numbers, with the two comparisons of weather.may. -/
import Derived.Test.YtmmimbcfgobnaaaGreatW4
import Derived.RegionTactic
set_option linter.unusedVariables false
set_option linter.unusedSimpArgs false
namespace Go.Proofs.YtmmimbcfgobnaaaGreat
open Go.RowKit
set_option linter.unusedVariables false
set_option linter.unusedSimpArgs false
attribute [local go_sem] stored_match isSome_setCell

def cmpI (a b : Int) : Int := if a < b then -1 else if b < a then 1 else 0
set_option maxRecDepth 100000 in
set_option maxHeartbeats 2000000 in
theorem isNaN_119 (a : Int) (w : World) : Calls Tryz.prog 119 #[.int .i64 a] w fun e w' => e = .returned (.bool false) ∧ w' = w := by
  go_enter Tryz.func119, Tryz.ntmps119
  go_wp2
  go_ret
  exact ⟨by simp, rfl⟩
set_option maxRecDepth 100000 in
set_option maxHeartbeats 2000000 in
theorem compare_94 (a b : Int) (w : World) : Calls Tryz.prog 94 #[.int .i64 a, .int .i64 b] w fun e w' => e = .returned (.int .i64 (cmpI a b)) ∧ w' = w := by
  go_enter Tryz.func94, Tryz.ntmps94
  go_wp2_with (go_at_call 119; refine (isNaN_119 _ _).mono ?_; rintro e1 w1 ⟨rfl, rfl⟩)
  all_goals
    go_ret
    exact ⟨ret_int (by unfold cmpI; first | (rw [if_pos (by omega)]; done) | (rw [if_neg (by omega), if_pos (by omega)]; done) | (rw [if_neg (by omega), if_neg (by omega)]; done)), rfl⟩

set_option maxRecDepth 100000 in
set_option maxHeartbeats 2000000 in
theorem cmp_107 (m : Met) (i j : Nat) (A : Option Addr) (c bm : Nat) (w : World) (hi : i < m.fcs.length) (hj : j < m.fcs.length) (hF : Rows 12 Fc.enc w A m.fcs.length m.fcs)
    (hbm : w.cell? ⟨bm, 12, none⟩ = some (.slice A m.fcs.length c)) (lbm : bm < w.heap.size) :
    Calls Tryz.prog 107 #[.int .i64 i, .int .i64 j, .pointer (some ⟨bm, 0, none⟩)] w fun e w' => e = .returned (.int .i64 (cmpI (Fc.issued (m.fc i)) (Fc.issued (m.fc j)))) ∧ ∃ n, w' = w.drewN n := by
  obtain ⟨x, hx⟩ : ∃ x, m.fcs[i]? = some x := ⟨_, List.getElem?_eq_getElem hi⟩
  obtain ⟨y, hy⟩ : ∃ y, m.fcs[j]? = some y := ⟨_, List.getElem?_eq_getElem hj⟩
  obtain ⟨b0, off, rfl, hb0, q0, q1, q2, q3, q4, q5, q6, q7, q8, q9, q10, q11⟩ := hF.fc hi hx
  obtain ⟨b1, off1, e1, hb1, p0, p1, p2, p3, p4, p5, p6, p7, p8, p9, p10, p11⟩ := hF.fc hj hy
  simp only [Option.some.injEq, Addr.mk.injEq, and_true] at e1
  obtain ⟨rfl, rfl⟩ := e1
  have ex : m.fc i = x := by simp [Met.fc, List.getD, hx]
  have ey : m.fc j = y := by simp [Met.fc, List.getD, hy]
  rw [ex, ey]
  have hs := hF.small
  clear hF hx hy ex ey
  go_enter Tryz.func107, Tryz.ntmps107
  go_wp2_with fail
  go_quiet ((go_at_call 94; exact Calls.quiet_of_same (compare_94 _ _ _)))
  go_wp2
  go_ret
  exact ⟨rfl, _, rfl⟩

set_option maxRecDepth 100000 in
set_option maxHeartbeats 2000000 in
theorem cmp_109 (m : Met) (i j : Nat) (A : Option Addr) (c bm : Nat) (w : World) (hi : i < m.sights.length) (hj : j < m.sights.length) (hF : Rows 7 Sight.enc w A m.sights.length m.sights)
    (hbm : w.cell? ⟨bm, 13, none⟩ = some (.slice A m.sights.length c)) (lbm : bm < w.heap.size) :
    Calls Tryz.prog 109 #[.int .i64 i, .int .i64 j, .pointer (some ⟨bm, 0, none⟩)] w fun e w' => e = .returned (.int .i64 (cmpI (Sight.at_ (m.si i)) (Sight.at_ (m.si j)))) ∧ ∃ n, w' = w.drewN n := by
  obtain ⟨x, hx⟩ : ∃ x, m.sights[i]? = some x := ⟨_, List.getElem?_eq_getElem hi⟩
  obtain ⟨y, hy⟩ : ∃ y, m.sights[j]? = some y := ⟨_, List.getElem?_eq_getElem hj⟩
  obtain ⟨b0, off, rfl, hb0, q0, q1, q2, q3, q4, q5, q6⟩ := hF.sight hi hx
  obtain ⟨b1, off1, e1, hb1, p0, p1, p2, p3, p4, p5, p6⟩ := hF.sight hj hy
  simp only [Option.some.injEq, Addr.mk.injEq, and_true] at e1
  obtain ⟨rfl, rfl⟩ := e1
  have ex : m.si i = x := by simp [Met.si, List.getD, hx]
  have ey : m.si j = y := by simp [Met.si, List.getD, hy]
  rw [ex, ey]
  have hs := hF.small
  clear hF hx hy ex ey
  go_enter Tryz.func109, Tryz.ntmps109
  go_wp2_with fail
  go_quiet ((go_at_call 94; exact Calls.quiet_of_same (compare_94 _ _ _)))
  go_wp2
  go_ret
  exact ⟨rfl, _, rfl⟩

theorem fc_neg (m : Met) (i j : Nat) : decide (cmpI (Fc.issued (m.fc i)) (Fc.issued (m.fc j)) < 0) = m.fcLt i j := by
  unfold cmpI Met.fcLt
  split
  · simp [*]
  · split <;> simp <;> omega
set_option maxRecDepth 100000 in
set_option maxHeartbeats 2000000 in
theorem insertion_fc (m : Met) (A : Option Addr) (c bm g cap : Nat) (L : List Nat) (wB w : World) (hL : OwnN w g cap L) (hr : ∀ i ∈ L, i < m.fcs.length) (hn : L.length ≤ 1000000) (hB : Ext wB w) (hg : wB.heap.size ≤ g) (hF : Rows 12 Fc.enc wB A m.fcs.length m.fcs) (hbm : wB.cell? ⟨bm, 12, none⟩ = some (.slice A m.fcs.length c)) (lbm : bm < wB.heap.size) :
    Calls Tryz.prog 152 #[.slice (some ⟨g, 0, none⟩) L.length cap, .int .i64 0, .int .i64 L.length, .func (.func 107) #[] #[.pointer (some ⟨bm, 0, none⟩)]] w fun e w' => e = .returned (.tuple #[]) ∧ OwnN w' g cap (isort m.fcLt L) ∧ ExtBut g w w' := by
  go_enter Tryz.func152, Tryz.ntmps152
  go_wp2
  go_loopw [8] (fun i wr => ∃ k : Nat, i = .int .i64 k ∧ 1 ≤ k ∧ (k ≤ L.length ∨ k = 1) ∧ OwnN wr g cap (isort m.fcLt (L.take k) ++ L.drop k) ∧ ExtBut g w wr) (fun i _ => L.length - (intOf i).toNat)
  case atStart => exact ⟨1, rfl, by omega, .inr rfl, by
    cases L with
    | nil => exact hL
    | cons a t => exact hL, ExtBut.refl _ _⟩
  case round =>
    obtain ⟨k, rfl, hk1, hk2, hw, hb⟩ := hrel
    by_cases hlt : k < L.length
    · obtain ⟨x, hx⟩ : ∃ x, L[k]? = some x := ⟨_, List.getElem?_eq_getElem hlt⟩
      have hdrop : L.drop k = x :: L.drop (k + 1) := by
        obtain ⟨h1, rfl⟩ := List.getElem?_eq_some_iff.1 hx
        exact List.drop_eq_getElem_cons h1
      have hacc : (isort m.fcLt (L.take k)).length = k := by rw [isort_length, List.length_take]; omega
      have hmem : ∀ y ∈ isort m.fcLt (L.take k), y < m.fcs.length := fun y hy => hr y (List.mem_of_mem_take ((mem_isort _ _ _).1 hy))
      have hx' : x < m.fcs.length := hr x (List.mem_of_getElem? hx)
      have hnext := Lib.hid (isort_take_succ m.fcLt L k x hx)
      generalize isort m.fcLt (L.take k) = acc at *
      have hw : OwnN wr g cap (bub acc x k ++ L.drop (k + 1)) := by
        have e : bub acc x k = acc ++ [x] := by rw [← hacc, bub_end]
        rw [hdrop] at hw
        rw [e, List.append_assoc]
        exact hw
      have hrl : (L.drop (k + 1)).length = L.length - (k + 1) := List.length_drop
      generalize hrest : L.drop (k + 1) = rest at *
      have hrest := Lib.hid hrest
      have HX := Lib.hid hx
      clear hdrop hx hr
      have hlx : m.fcs.length ≤ 140737488351232 := hF.small
      obtain ⟨wo, hwo⟩ : ∃ wo : World, wo = wr := ⟨_, rfl⟩
      have hb : ExtBut g w wo := hwo ▸ hb
      have hkn : (k : Int) < 1000000 := by omega
      have hwo := Lib.hid hwo
      have hacc := Lib.hid hacc
      have hrl := Lib.hid hrl
      go_wp2
      go_loopw [9] (fun i wr => ∃ j : Nat, i = .int .i64 j ∧ j ≤ k ∧ OwnN wr g cap (bub acc x j ++ rest) ∧ (∀ y ∈ acc.drop j, m.fcLt x y = true) ∧ ExtBut g w wr) (fun i _ => (intOf i).toNat)
      case atStart => exact ⟨k, rfl, by omega, hw, by rw [← hacc.out]; simp, by rw [← hwo.out]; exact hb⟩
      case round =>
        clear hw hb hwo
        obtain ⟨j, rfl, hj, hw, hsuf, hb⟩ := hrel
        have hacc' := hacc.out
        have hlen : (bub acc x j ++ rest).length = L.length := by rw [List.length_append, bub_length _ _ _ (by omega), hrl.out]; omega
        have hout := fun (hs : j = 0 ∨ ∃ y, acc[j - 1]? = some y ∧ m.fcLt x y = false) => (hnext.out.trans (ins_stop m.fcLt acc x j (by omega) hsuf hs))
        have hxj : (bub acc x j ++ rest)[j]? = some x := by rw [List.getElem?_append_left (by rw [bub_length _ _ _ (by omega)]; omega)]; exact bub_at _ _ _ (by omega)
        have c1 := hw.cell hxj
        have fr := hw.free
        have lg := hw.lt
        by_cases h0 : 0 < j
        · obtain ⟨p, hp⟩ : ∃ p, acc[j - 1]? = some p := ⟨_, List.getElem?_eq_getElem (by omega)⟩
          have hpj : (bub acc x j ++ rest)[j - 1]? = some p := by rw [List.getElem?_append_left (by rw [bub_length _ _ _ (by omega)]; omega), bub_before _ _ _ (by omega) h0]; exact hp
          have c2 := hw.cell hpj
          have hpm := hmem p (List.mem_of_getElem? hp)
          have hEx : Ext wB wr := ExtBut.ext hB hb hg
          have hF' := hF.ext hEx
          have hbm' := (hEx.cells.1 bm 12 lbm).trans hbm
          have lbm' := hEx.cells.2.2 bm lbm
          have hneg := Lib.hid (fc_neg m x p)
          have hswap := Lib.hid (bub_swap acc rest x p j (by omega) h0 hp)
          have hset := Lib.hid (fun n => ((hw.drewN n).set (j := j) (by rw [hlen]; omega) p).set (j := j - 1) (by rw [List.length_set, hlen]; omega) x)
          have hdr := Lib.hid (show acc.drop (j - 1) = p :: acc.drop j by
            obtain ⟨h1, rfl⟩ := List.getElem?_eq_some_iff.1 hp
            have := List.drop_eq_getElem_cons h1
            rw [show j - 1 + 1 = j by omega] at this
            exact this)
          have hsuf := Lib.hid hsuf
          have hout := Lib.hid hout
          have HP := Lib.hid hp
          have hw := Lib.hid hw
          have hb := Lib.hid hb
          clear hp hpj hxj hEx hmem hnext hacc' hlen
          have h0i : (0 : Int) < j := by omega
          rcases Bool.eq_false_or_eq_true (m.fcLt x p) with hl | hl
          · have hneg := hneg.out.trans hl
            have HL := Lib.hid hl
            clear hl
            go_wp2_with fail
            go_quiet ((go_at_call 107; exact Calls.quiet_of (cmp_107 m x p A c bm _ hx' hpm (hF'.ext ((Ext.refl _).drewN _)) (by simpa using hbm') (by simpa using lbm'))))
            go_wp2
            have hne1 : ¬ (j - 1 = j) := by omega
            have hne2 : ¬ (j = j - 1) := by omega
            go_region
            all_goals go_wp2
            go_roundw
            case rel =>
              exact ⟨j - 1, by rw [show ((j - 1 : Nat) : Int) = (j : Int) - 1 by omega], by omega, by rw [← hswap.out]; exact hset.out _, fun y hy => by
                rw [hdr.out] at hy
                rcases List.mem_cons.1 hy with rfl | hy
                · exact HL.out
                · exact hsuf.out y hy, ((hb.out.drewN _).set _ _).set _ _⟩
            case measure => simp [intOf]; omega
          · have hneg := hneg.out.trans hl
            have HL := Lib.hid hl
            clear hl
            go_wp2_with fail
            go_quiet ((go_at_call 107; exact Calls.quiet_of (cmp_107 m x p A c bm _ hx' hpm (hF'.ext ((Ext.refl _).drewN _)) (by simpa using hbm') (by simpa using lbm'))))
            go_wp2
            go_roundw
            case rel => exact ⟨k + 1, by go_num, by omega, by omega, by rw [hout.out (Or.inr ⟨p, HP.out, HL.out⟩), hrest.out]; exact hw.out.drewN _, hb.out.drewN _⟩
            case measure => simp [intOf]; omega
        · obtain rfl : j = 0 := by omega
          have hsuf := Lib.hid hsuf
          have hout := Lib.hid hout
          have hw := Lib.hid hw
          have hb := Lib.hid hb
          clear hxj hmem hnext hacc' hlen h0
          go_wp2_with fail
          go_quiet (fail)
          go_wp2
          go_roundw
          case rel => exact ⟨k + 1, by go_num, by omega, by omega, by rw [hout.out (by simp), hrest.out]; exact hw.out.drewN _, hb.out.drewN _⟩
          case measure => simp [intOf]; omega
    · have hfin := Lib.hid (show OwnN wr g cap (isort m.fcLt L) by
        rw [List.take_of_length_le (by omega), List.drop_of_length_le (by omega), List.append_nil] at hw
        exact hw)
      have hb := Lib.hid hb
      clear hw
      go_wp2
      go_end0
      exact ⟨rfl, hfin.out, hb.out⟩

theorem si_neg (m : Met) (i j : Nat) : decide (cmpI (Sight.at_ (m.si i)) (Sight.at_ (m.si j)) < 0) = m.siLt i j := by
  unfold cmpI Met.siLt
  split
  · simp [*]
  · split <;> simp <;> omega
set_option maxRecDepth 100000 in
set_option maxHeartbeats 2000000 in
theorem insertion_si (m : Met) (A : Option Addr) (c bm g cap : Nat) (L : List Nat) (wB w : World) (hL : OwnN w g cap L) (hr : ∀ i ∈ L, i < m.sights.length) (hn : L.length ≤ 1000000) (hB : Ext wB w) (hg : wB.heap.size ≤ g) (hF : Rows 7 Sight.enc wB A m.sights.length m.sights) (hbm : wB.cell? ⟨bm, 13, none⟩ = some (.slice A m.sights.length c)) (lbm : bm < wB.heap.size) :
    Calls Tryz.prog 152 #[.slice (some ⟨g, 0, none⟩) L.length cap, .int .i64 0, .int .i64 L.length, .func (.func 109) #[] #[.pointer (some ⟨bm, 0, none⟩)]] w fun e w' => e = .returned (.tuple #[]) ∧ OwnN w' g cap (isort m.siLt L) ∧ ExtBut g w w' := by
  go_enter Tryz.func152, Tryz.ntmps152
  go_wp2
  go_loopw [8] (fun i wr => ∃ k : Nat, i = .int .i64 k ∧ 1 ≤ k ∧ (k ≤ L.length ∨ k = 1) ∧ OwnN wr g cap (isort m.siLt (L.take k) ++ L.drop k) ∧ ExtBut g w wr) (fun i _ => L.length - (intOf i).toNat)
  case atStart => exact ⟨1, rfl, by omega, .inr rfl, by
    cases L with
    | nil => exact hL
    | cons a t => exact hL, ExtBut.refl _ _⟩
  case round =>
    obtain ⟨k, rfl, hk1, hk2, hw, hb⟩ := hrel
    by_cases hlt : k < L.length
    · obtain ⟨x, hx⟩ : ∃ x, L[k]? = some x := ⟨_, List.getElem?_eq_getElem hlt⟩
      have hdrop : L.drop k = x :: L.drop (k + 1) := by
        obtain ⟨h1, rfl⟩ := List.getElem?_eq_some_iff.1 hx
        exact List.drop_eq_getElem_cons h1
      have hacc : (isort m.siLt (L.take k)).length = k := by rw [isort_length, List.length_take]; omega
      have hmem : ∀ y ∈ isort m.siLt (L.take k), y < m.sights.length := fun y hy => hr y (List.mem_of_mem_take ((mem_isort _ _ _).1 hy))
      have hx' : x < m.sights.length := hr x (List.mem_of_getElem? hx)
      have hnext := Lib.hid (isort_take_succ m.siLt L k x hx)
      generalize isort m.siLt (L.take k) = acc at *
      have hw : OwnN wr g cap (bub acc x k ++ L.drop (k + 1)) := by
        have e : bub acc x k = acc ++ [x] := by rw [← hacc, bub_end]
        rw [hdrop] at hw
        rw [e, List.append_assoc]
        exact hw
      have hrl : (L.drop (k + 1)).length = L.length - (k + 1) := List.length_drop
      generalize hrest : L.drop (k + 1) = rest at *
      have hrest := Lib.hid hrest
      have HX := Lib.hid hx
      clear hdrop hx hr
      have hlx : m.sights.length ≤ 140737488351232 := hF.small
      obtain ⟨wo, hwo⟩ : ∃ wo : World, wo = wr := ⟨_, rfl⟩
      have hb : ExtBut g w wo := hwo ▸ hb
      have hkn : (k : Int) < 1000000 := by omega
      have hwo := Lib.hid hwo
      have hacc := Lib.hid hacc
      have hrl := Lib.hid hrl
      go_wp2
      go_loopw [9] (fun i wr => ∃ j : Nat, i = .int .i64 j ∧ j ≤ k ∧ OwnN wr g cap (bub acc x j ++ rest) ∧ (∀ y ∈ acc.drop j, m.siLt x y = true) ∧ ExtBut g w wr) (fun i _ => (intOf i).toNat)
      case atStart => exact ⟨k, rfl, by omega, hw, by rw [← hacc.out]; simp, by rw [← hwo.out]; exact hb⟩
      case round =>
        clear hw hb hwo
        obtain ⟨j, rfl, hj, hw, hsuf, hb⟩ := hrel
        have hacc' := hacc.out
        have hlen : (bub acc x j ++ rest).length = L.length := by rw [List.length_append, bub_length _ _ _ (by omega), hrl.out]; omega
        have hout := fun (hs : j = 0 ∨ ∃ y, acc[j - 1]? = some y ∧ m.siLt x y = false) => (hnext.out.trans (ins_stop m.siLt acc x j (by omega) hsuf hs))
        have hxj : (bub acc x j ++ rest)[j]? = some x := by rw [List.getElem?_append_left (by rw [bub_length _ _ _ (by omega)]; omega)]; exact bub_at _ _ _ (by omega)
        have c1 := hw.cell hxj
        have fr := hw.free
        have lg := hw.lt
        by_cases h0 : 0 < j
        · obtain ⟨p, hp⟩ : ∃ p, acc[j - 1]? = some p := ⟨_, List.getElem?_eq_getElem (by omega)⟩
          have hpj : (bub acc x j ++ rest)[j - 1]? = some p := by rw [List.getElem?_append_left (by rw [bub_length _ _ _ (by omega)]; omega), bub_before _ _ _ (by omega) h0]; exact hp
          have c2 := hw.cell hpj
          have hpm := hmem p (List.mem_of_getElem? hp)
          have hEx : Ext wB wr := ExtBut.ext hB hb hg
          have hF' := hF.ext hEx
          have hbm' := (hEx.cells.1 bm 13 lbm).trans hbm
          have lbm' := hEx.cells.2.2 bm lbm
          have hneg := Lib.hid (si_neg m x p)
          have hswap := Lib.hid (bub_swap acc rest x p j (by omega) h0 hp)
          have hset := Lib.hid (fun n => ((hw.drewN n).set (j := j) (by rw [hlen]; omega) p).set (j := j - 1) (by rw [List.length_set, hlen]; omega) x)
          have hdr := Lib.hid (show acc.drop (j - 1) = p :: acc.drop j by
            obtain ⟨h1, rfl⟩ := List.getElem?_eq_some_iff.1 hp
            have := List.drop_eq_getElem_cons h1
            rw [show j - 1 + 1 = j by omega] at this
            exact this)
          have hsuf := Lib.hid hsuf
          have hout := Lib.hid hout
          have HP := Lib.hid hp
          have hw := Lib.hid hw
          have hb := Lib.hid hb
          clear hp hpj hxj hEx hmem hnext hacc' hlen
          have h0i : (0 : Int) < j := by omega
          rcases Bool.eq_false_or_eq_true (m.siLt x p) with hl | hl
          · have hneg := hneg.out.trans hl
            have HL := Lib.hid hl
            clear hl
            go_wp2_with fail
            go_quiet ((go_at_call 109; exact Calls.quiet_of (cmp_109 m x p A c bm _ hx' hpm (hF'.ext ((Ext.refl _).drewN _)) (by simpa using hbm') (by simpa using lbm'))))
            go_wp2
            have hne1 : ¬ (j - 1 = j) := by omega
            have hne2 : ¬ (j = j - 1) := by omega
            go_region
            all_goals go_wp2
            go_roundw
            case rel =>
              exact ⟨j - 1, by rw [show ((j - 1 : Nat) : Int) = (j : Int) - 1 by omega], by omega, by rw [← hswap.out]; exact hset.out _, fun y hy => by
                rw [hdr.out] at hy
                rcases List.mem_cons.1 hy with rfl | hy
                · exact HL.out
                · exact hsuf.out y hy, ((hb.out.drewN _).set _ _).set _ _⟩
            case measure => simp [intOf]; omega
          · have hneg := hneg.out.trans hl
            have HL := Lib.hid hl
            clear hl
            go_wp2_with fail
            go_quiet ((go_at_call 109; exact Calls.quiet_of (cmp_109 m x p A c bm _ hx' hpm (hF'.ext ((Ext.refl _).drewN _)) (by simpa using hbm') (by simpa using lbm'))))
            go_wp2
            go_roundw
            case rel => exact ⟨k + 1, by go_num, by omega, by omega, by rw [hout.out (Or.inr ⟨p, HP.out, HL.out⟩), hrest.out]; exact hw.out.drewN _, hb.out.drewN _⟩
            case measure => simp [intOf]; omega
        · obtain rfl : j = 0 := by omega
          have hsuf := Lib.hid hsuf
          have hout := Lib.hid hout
          have hw := Lib.hid hw
          have hb := Lib.hid hb
          clear hxj hmem hnext hacc' hlen h0
          go_wp2_with fail
          go_quiet (fail)
          go_wp2
          go_roundw
          case rel => exact ⟨k + 1, by go_num, by omega, by omega, by rw [hout.out (by simp), hrest.out]; exact hw.out.drewN _, hb.out.drewN _⟩
          case measure => simp [intOf]; omega
    · have hfin := Lib.hid (show OwnN wr g cap (isort m.siLt L) by
        rw [List.take_of_length_le (by omega), List.drop_of_length_le (by omega), List.append_nil] at hw
        exact hw)
      have hb := Lib.hid hb
      clear hw
      go_wp2
      go_end0
      exact ⟨rfl, hfin.out, hb.out⟩

set_option maxRecDepth 100000 in
set_option maxHeartbeats 2000000 in
theorem stable_fc (m : Met) (A : Option Addr) (c bm g cap : Nat) (L : List Nat) (wB w : World) (hL : OwnN w g cap L) (hr : ∀ i ∈ L, i < m.fcs.length) (hn : L.length ≤ 19) (hB : Ext wB w) (hg : wB.heap.size ≤ g) (hF : Rows 12 Fc.enc wB A m.fcs.length m.fcs) (hbm : wB.cell? ⟨bm, 12, none⟩ = some (.slice A m.fcs.length c)) (lbm : bm < wB.heap.size) :
    Calls Tryz.prog 135 #[.slice (some ⟨g, 0, none⟩) L.length cap, .int .i64 L.length, .func (.func 107) #[] #[.pointer (some ⟨bm, 0, none⟩)]] w fun e w' => e = .returned (.tuple #[]) ∧ OwnN w' g cap (isort m.fcLt L) ∧ ExtBut g w w' := by
  have h20 : ¬ ((20 : Int) ≤ (L.length : Int)) := by omega
  have h21 : ¬ ((20 : Int) < (L.length : Int)) := by omega
  go_enter Tryz.func135, Tryz.ntmps135
  go_wp2
  refine wp_loop_once ?_
  go_wp2_with (go_at_call 152; refine (insertion_fc m A c bm g cap L wB _ hL hr (by omega) hB hg hF hbm lbm).mono ?_; rintro e1 w1 ⟨rfl, hO, hE⟩)
  refine wp_loop_once ?_
  go_wp2
  go_end0
  exact ⟨rfl, hO, hE⟩
set_option maxRecDepth 100000 in
set_option maxHeartbeats 2000000 in
theorem sort_fc (m : Met) (A : Option Addr) (c bm g cap : Nat) (L : List Nat) (wB w : World) (hL : OwnN w g cap L) (hr : ∀ i ∈ L, i < m.fcs.length) (hn : L.length ≤ 19) (hB : Ext wB w) (hg : wB.heap.size ≤ g) (hF : Rows 12 Fc.enc wB A m.fcs.length m.fcs) (hbm : wB.cell? ⟨bm, 12, none⟩ = some (.slice A m.fcs.length c)) (lbm : bm < wB.heap.size) :
    Calls Tryz.prog 106 #[.slice (some ⟨g, 0, none⟩) L.length cap, .func (.func 107) #[] #[.pointer (some ⟨bm, 0, none⟩)]] w fun e w' => e = .returned (.tuple #[]) ∧ OwnN w' g cap (isort m.fcLt L) ∧ ExtBut g w w' := by
  go_enter Tryz.func106, Tryz.ntmps106
  go_wp2_with (go_at_call 135; refine (stable_fc m A c bm g cap L wB _ hL hr hn hB hg hF hbm lbm).mono ?_; rintro e1 w1 ⟨rfl, hO, hE⟩)
  go_end0
  exact ⟨rfl, hO, hE⟩

set_option maxRecDepth 100000 in
set_option maxHeartbeats 2000000 in
theorem stable_si (m : Met) (A : Option Addr) (c bm g cap : Nat) (L : List Nat) (wB w : World) (hL : OwnN w g cap L) (hr : ∀ i ∈ L, i < m.sights.length) (hn : L.length ≤ 19) (hB : Ext wB w) (hg : wB.heap.size ≤ g) (hF : Rows 7 Sight.enc wB A m.sights.length m.sights) (hbm : wB.cell? ⟨bm, 13, none⟩ = some (.slice A m.sights.length c)) (lbm : bm < wB.heap.size) :
    Calls Tryz.prog 135 #[.slice (some ⟨g, 0, none⟩) L.length cap, .int .i64 L.length, .func (.func 109) #[] #[.pointer (some ⟨bm, 0, none⟩)]] w fun e w' => e = .returned (.tuple #[]) ∧ OwnN w' g cap (isort m.siLt L) ∧ ExtBut g w w' := by
  have h20 : ¬ ((20 : Int) ≤ (L.length : Int)) := by omega
  have h21 : ¬ ((20 : Int) < (L.length : Int)) := by omega
  go_enter Tryz.func135, Tryz.ntmps135
  go_wp2
  refine wp_loop_once ?_
  go_wp2_with (go_at_call 152; refine (insertion_si m A c bm g cap L wB _ hL hr (by omega) hB hg hF hbm lbm).mono ?_; rintro e1 w1 ⟨rfl, hO, hE⟩)
  refine wp_loop_once ?_
  go_wp2
  go_end0
  exact ⟨rfl, hO, hE⟩
set_option maxRecDepth 100000 in
set_option maxHeartbeats 2000000 in
theorem sort_si (m : Met) (A : Option Addr) (c bm g cap : Nat) (L : List Nat) (wB w : World) (hL : OwnN w g cap L) (hr : ∀ i ∈ L, i < m.sights.length) (hn : L.length ≤ 19) (hB : Ext wB w) (hg : wB.heap.size ≤ g) (hF : Rows 7 Sight.enc wB A m.sights.length m.sights) (hbm : wB.cell? ⟨bm, 13, none⟩ = some (.slice A m.sights.length c)) (lbm : bm < wB.heap.size) :
    Calls Tryz.prog 106 #[.slice (some ⟨g, 0, none⟩) L.length cap, .func (.func 109) #[] #[.pointer (some ⟨bm, 0, none⟩)]] w fun e w' => e = .returned (.tuple #[]) ∧ OwnN w' g cap (isort m.siLt L) ∧ ExtBut g w w' := by
  go_enter Tryz.func106, Tryz.ntmps106
  go_wp2_with (go_at_call 135; refine (stable_si m A c bm g cap L wB _ hL hr hn hB hg hF hbm lbm).mono ?_; rintro e1 w1 ⟨rfl, hO, hE⟩)
  go_end0
  exact ⟨rfl, hO, hE⟩
end Go.Proofs.YtmmimbcfgobnaaaGreat
