/- The reference's weather: which forecasts, and which sights, cut, in which order. -/
import Derived.Test.YtmmimbcfgobnaaaGreatV1
set_option linter.unusedVariables false
set_option linter.unusedSimpArgs false
namespace Go.Proofs.YtmmimbcfgobnaaaGreat
open Go.RowKit
attribute [local go_sem] stored_match isSome_setCell

/-- A list of numbers that the call has made. -/
def NsPost (L : List Nat) (w : World) (e : Ending) (w' : World) : Prop := ∃ v, e = .returned v ∧ Owns 3 1 encNs w' w.heap.size v L ∧ Ext w w'
theorem OwnN.of_ns {w : World} {base : Nat} {v : Value} {L : List Nat} (h : Owns 3 1 encNs w base v L) (hL : L ≠ []) : ∃ g cap, v = .slice (some ⟨g, 0, none⟩) L.length cap ∧ base ≤ g ∧ OwnN w g cap L := by
  unfold Owns at h
  rw [cellsOf_Ns] at h
  exact OwnN.of_owns h hL
theorem OwnN.ns {w : World} {base g cap : Nat} {L : List Nat} (h : OwnN w g cap L) (hb : base ≤ g) : Owns 3 1 encNs w base (.slice (some ⟨g, 0, none⟩) L.length cap) L := by
  unfold Owns
  rw [cellsOf_Ns]
  exact h.owns hb
theorem Owns.base {α : Type} {e : TypeId} {k : Nat} {enc : α → List Value} {w : World} {base b : Nat} {v : Value} {L : List α} (h : Owns e k enc w base v L) (hb : b ≤ base) : Owns e k enc w b v L := by
  obtain ⟨h1, h2⟩ := h
  refine ⟨h1, ?_⟩
  rcases h2 with h2 | ⟨g, cap, cur, rfl, hg, r⟩
  · exact .inl h2
  · exact .inr ⟨g, cap, cur, rfl, by omega, r⟩
theorem isort_snoc {α : Type} (lt : α → α → Bool) (xs : List α) (x : α) : isort lt (xs ++ [x]) = ins lt (isort lt xs) x := by
  unfold isort; rw [List.foldl_append]; rfl
theorem Met.covers_step (m : Met) (place tick : Int) (k : Nat) (h : m.coversOf place tick k = true) : isort m.fcLt (m.covers0 place tick (k + 1)) = ins m.fcLt (isort m.fcLt (m.covers0 place tick k)) k := by
  rw [Met.covers0_succ, if_pos h, isort_snoc]
theorem Met.covers_stay (m : Met) (place tick : Int) (k : Nat) (h : m.coversOf place tick k = false) : m.covers0 place tick (k + 1) = m.covers0 place tick k := by
  rw [Met.covers0_succ, if_neg (by simp [h]), List.append_nil]
theorem Met.seen_step (m : Met) (place tick : Int) (k : Nat) (h : m.seenOf place tick k = true) : isort m.siLt (m.seen0 place tick (k + 1)) = ins m.siLt (isort m.siLt (m.seen0 place tick k)) k := by
  rw [Met.seen0_succ, if_pos h, isort_snoc]
theorem Met.seen_stay (m : Met) (place tick : Int) (k : Nat) (h : m.seenOf place tick k = false) : m.seen0 place tick (k + 1) = m.seen0 place tick k := by
  rw [Met.seen0_succ, if_neg (by simp [h]), List.append_nil]
theorem Met.fcLt_of {m : Met} {i j : Nat} {x y : Fc} (hx : m.fcs[i]? = some x) (hy : m.fcs[j]? = some y) : m.fcLt i j = decide (x.issued < y.issued) := by
  unfold Met.fcLt; rw [Met.fc_eq hx, Met.fc_eq hy]
theorem Met.siLt_of {m : Met} {i j : Nat} {x y : Sight} (hx : m.sights[i]? = some x) (hy : m.sights[j]? = some y) : m.siLt i j = decide (x.at_ < y.at_) := by
  unfold Met.siLt; rw [Met.si_eq hx, Met.si_eq hy]
set_option maxRecDepth 100000 in
set_option maxHeartbeats 4000000 in
theorem covers_166 (m : Met) (place tick : Int) (AF AS : Option Addr) (nF cF nS cS : Nat) (w : World) (hm : MetIn w m AF nF AS nS) (hl : m.fcs.length ≤ 1000) :
    Calls Tryz.prog 166 #[m.val (.slice AF nF cF) (.slice AS nS cS), .int .i64 place, .int .i64 tick] w (NsPost (m.covers place tick) w) := by
  obtain ⟨hF, -⟩ := hm
  obtain rfl := hF.len
  simp only [Met.val]
  go_enter Tryz.func166, Tryz.ntmps166
  go_wp2_with fail
  refine name_world (R := fun W => Code.wp _ _ _ _ W) fun W0 hx0 hc0 hf0 hz0 => ?_
  simp at hz0
  have hF0 := hF.ext ((by with_reducible (repeat first | assumption | exact Ext.refl _ | refine Ext.set ?_ (by omega) _ | refine Ext.alloc ?_ _ | refine Ext.drew ?_ | refine Ext.drewN ?_ _ | refine Ext.trans ?_ (by assumption))) : Ext w W0)
  have q12 : W0.cell? ⟨w.heap.size, 12, none⟩ = some (.slice AF m.fcs.length cF) := by go_simp
  have ql : w.heap.size < W0.heap.size := by omega
  have hAF : ∀ b off, AF = some ⟨b, off, none⟩ → 0 < m.fcs.length → b < w.heap.size := fun b off h hn => hF.block hn h
  replace hAF := Lib.hid hAF
  have hxw : Ext w W0 := (by with_reducible (repeat first | assumption | exact Ext.refl _ | refine Ext.set ?_ (by omega) _ | refine Ext.alloc ?_ _ | refine Ext.drew ?_ | refine Ext.drewN ?_ _ | refine Ext.trans ?_ (by assumption)))
  clear hc0 hf0 hx0 hF
  go_loopw [7, 8] (fun v i wr => ∃ k : Nat, k ≤ m.fcs.length ∧ i = .int .i64 k ∧ Owns 3 1 encNs wr W0.heap.size v (isort m.fcLt (m.covers0 place tick k)) ∧ Ext W0 wr) (fun _ i _ => m.fcs.length - (intOf i).toNat)
  case atStart => exact ⟨0, Nat.zero_le _, rfl, Owns.nil _ _ _ _ _, Ext.refl _⟩
  case round =>
    obtain ⟨k, hk, rfl, hown, he⟩ := hrel
    have r12 := (he.cells.1 _ _ ql).trans q12
    have rl := he.cells.2.2 _ ql
    by_cases hlt : k < m.fcs.length
    · obtain ⟨x, hx⟩ : ∃ x, m.fcs[k]? = some x := ⟨_, List.getElem?_eq_getElem hlt⟩
      obtain ⟨b0, off, hA, hb0, q0, q1, q2, q3, q4, q5, q6, q7, q8, q9, q10, q11⟩ := (hF0.ext he).fc hlt hx
      have hcl := m.covers0_length place tick k
      have hil := isort_length m.fcLt (m.covers0 place tick k)
      have hes := he.size
      have hbW := hAF.out b0 off hA (by omega)
      have hcov : m.coversOf place tick k = decide (x.place = place ∧ x.fr ≤ tick ∧ tick < x.to) := by unfold Met.coversOf; rw [Met.fc_eq hx]
      by_cases hc : x.place = place ∧ x.fr ≤ tick ∧ tick < x.to
      · obtain ⟨c1, c2, c3⟩ := hc
        have hstep := Lib.hid (m.covers_step place tick k (by rw [hcov, decide_eq_true ⟨c1, c2, c3⟩]))
        have hsmall := hF0.small
        subst hA
        have h1 : (x.place == place) = true := beq_iff_eq.2 c1
        have h0 : (x.place != place) = false := bne_eq_false_iff_eq.2 c1
        have hmem : ∀ i ∈ isort m.fcLt (m.covers0 place tick k), i < m.fcs.length := fun i hi => by have := Met.covers0_mem ((mem_isort _ _ _).1 hi); omega
        have hac : (isort m.fcLt (m.covers0 place tick k)).length ≤ k := by omega
        clear hcov c1 hil hcl
        generalize isort m.fcLt (m.covers0 place tick k) = acc at *
        replace hmem := Lib.hid hmem
        have hx' := Lib.hid hx
        have hown := Lib.hid hown
        clear hx
        go_wp2_with (at_builtin; refine append_one e_int encNs (fun _ => rfl) encNs_one rfl _ _ rfl W0.heap.size u7 acc rfl k #[.int .i64 k] rfl _ rfl (by simp) (hown.out.ext (by with_reducible (repeat first | assumption | exact Ext.refl _ | refine Ext.set ?_ (by omega) _ | refine Ext.alloc ?_ _ | refine Ext.drew ?_ | refine Ext.drewN ?_ _ | refine Ext.trans ?_ (by assumption)))) (by first | omega | (simp; omega)) (by omega) ?_; intro v' w1 hown1 hgrow; have he1 : Ext W0 w1 := grown_ext W0 (by with_reducible (repeat first | assumption | exact Ext.refl _ | refine Ext.set ?_ (by omega) _ | refine Ext.alloc ?_ _ | refine Ext.drew ?_ | refine Ext.drewN ?_ _ | refine Ext.trans ?_ (by assumption))) (Nat.le_refl _) (fun g hg => (hown.out.lt hg).1) hgrow; obtain ⟨g, cap, rfl, hg, hO⟩ := OwnN.of_ns hown1 (by simp); clear hown1 hgrow)
        replace hO := Lib.hid hO
        replace he1 := Lib.hid he1
        clear hown q0 q1 q2 q3 q4 q5 q6 q7 q8 q9 q10 q11 r12
        have hlen : (acc ++ [k]).length = acc.length + 1 := by simp
        go_loopw [10] (fun i wr => ∃ j : Nat, i = .int .i64 j ∧ j ≤ acc.length ∧ OwnN wr g cap (bub acc k j) ∧ (∀ y ∈ acc.drop j, m.fcLt k y = true) ∧ Ext W0 wr) (fun i _ => (intOf i).toNat)
        case atStart => exact ⟨acc.length, rfl, Nat.le_refl _, by rw [bub_end]; exact hO.out, by simp, he1.out⟩
        case round =>
          clear he rl hes
          obtain ⟨j, rfl, hj, hw, hsuf, he2⟩ := hrel
          have r12 := (he2.cells.1 _ _ ql).trans q12
          have rl := he2.cells.2.2 _ ql
          have fr := hw.free
          have lg := hw.lt
          have hes2 := he2.size
          have hlb := bub_length acc k j hj
          by_cases h0 : 0 < j
          · obtain ⟨p, hp⟩ : ∃ p, acc[j - 1]? = some p := ⟨_, List.getElem?_eq_getElem (by omega)⟩
            have hpl := hmem.out p (List.mem_of_getElem? hp)
            obtain ⟨y, hy⟩ : ∃ y, m.fcs[p]? = some y := ⟨_, List.getElem?_eq_getElem hpl⟩
            have c1 := hw.cell (bub_at acc k j hj)
            have c2 := hw.cell ((bub_before acc k j hj h0).trans hp)
            obtain ⟨b1, off1, hA1, hb1, -, -, -, z3, -⟩ := (hF0.ext he2).fc hlt hx'.out
            obtain ⟨b2, off2, hA2, hb2, -, -, -, z4, -⟩ := (hF0.ext he2).fc hpl hy
            simp only [Option.some.injEq, Addr.mk.injEq, and_true] at hA1 hA2
            obtain ⟨rfl, rfl⟩ := hA1
            obtain ⟨rfl, rfl⟩ := hA2
            have hlt2 := Met.fcLt_of hx'.out hy
            have hj1 : (0 : Int) < (j : Int) := by omega
            have hjl : (j : Int) < ((acc ++ [k]).length : Int) := by rw [hlen]; omega
            have hkl : (k : Int) < (m.fcs.length : Int) := by omega
            have hpl2 : (p : Int) < (m.fcs.length : Int) := by omega
            have hnb : ¬ g = b0 := by omega
            have hswap := Lib.hid (bub_swap acc [] k p j hj h0 hp)
            have hset := Lib.hid (fun n => ((hw.drewN n).set (j := j) (by rw [hlb]; omega) p).set (j := j - 1) (by rw [List.length_set, hlb]; omega) k)
            have hdr := Lib.hid (show acc.drop (j - 1) = p :: acc.drop j by
              obtain ⟨h1, rfl⟩ := List.getElem?_eq_some_iff.1 hp
              have := List.drop_eq_getElem_cons h1
              rw [show j - 1 + 1 = j by omega] at this
              exact this)
            have hout := Lib.hid (fun hs => ins_stop m.fcLt acc k j hj hsuf (Or.inr ⟨p, hp, hs⟩))
            replace hsuf := Lib.hid hsuf
            replace hw := Lib.hid hw
            clear hp hy
            by_cases hl : x.issued < y.issued
            · rw [decide_eq_true hl] at hlt2
              replace hlt2 := Lib.hid hlt2
              go_wp2_with fail
              go_quiet (fail)
              go_wp2_with fail
              have hne1 : ¬ (j - 1 = j) := by omega
              have hne2 : ¬ (j = j - 1) := by omega
              go_region
              all_goals go_wp2
              go_roundw
              case rel =>
                refine ⟨j - 1, by rw [show ((j - 1 : Nat) : Int) = (j : Int) - 1 by omega], by omega, ?_, fun z hz => ?_, ?_⟩
                · have h4 := hswap.out
                  rw [List.append_nil, List.append_nil] at h4
                  rw [← h4]; exact hset.out _
                · rw [hdr.out] at hz
                  rcases List.mem_cons.1 hz with rfl | hz
                  · exact hlt2.out
                  · exact hsuf.out z hz
                · exact (by with_reducible (repeat first | assumption | exact Ext.refl _ | refine Ext.set ?_ (by omega) _ | refine Ext.alloc ?_ _ | refine Ext.drew ?_ | refine Ext.drewN ?_ _ | refine Ext.trans ?_ (by assumption)))
              case measure => simp [intOf]; omega
            · rw [decide_eq_false hl] at hlt2
              have hfin := hout.out hlt2
              have hb3 : (bub acc k j).length = acc.length + 1 := hlb
              replace hfin := Lib.hid hfin
              replace hb3 := Lib.hid hb3
              go_wp2_with fail
              go_quiet (fail)
              go_wp2_with fail
              go_roundw
              case rel => exact ⟨k + 1, by omega, by go_num, by rw [hstep.out, hfin.out, ← hb3.out]; exact (hw.out.drewN _).ns hg, (by with_reducible (repeat first | assumption | exact Ext.refl _ | refine Ext.set ?_ (by omega) _ | refine Ext.alloc ?_ _ | refine Ext.drew ?_ | refine Ext.drewN ?_ _ | refine Ext.trans ?_ (by assumption)))⟩
              case measure => simp [intOf]; omega
          · obtain rfl : j = 0 := by omega
            have hfin := Lib.hid (ins_stop m.fcLt acc k 0 hj hsuf (Or.inl rfl))
            have hb3 := Lib.hid (show (bub acc k 0).length = acc.length + 1 from hlb)
            replace hw := Lib.hid hw
            replace hsuf := Lib.hid hsuf
            clear h0
            go_wp2_with fail
            go_quiet (fail)
            go_wp2_with fail
            go_roundw
            case rel => exact ⟨k + 1, by omega, by go_num, by rw [hstep.out, hfin.out, ← hb3.out]; exact (hw.out.drewN _).ns hg, (by with_reducible (repeat first | assumption | exact Ext.refl _ | refine Ext.set ?_ (by omega) _ | refine Ext.alloc ?_ _ | refine Ext.drew ?_ | refine Ext.drewN ?_ _ | refine Ext.trans ?_ (by assumption)))⟩
            case measure => simp [intOf]; omega
      · have hstay := Lib.hid (m.covers_stay place tick k (by rw [hcov, decide_eq_false hc]))
        subst hA
        have hown := Lib.hid hown
        clear hcov hil
        have hcase : ((x.place == place) = false ∧ (x.place != place) = true) ∨ ((x.place == place) = true ∧ (x.place != place) = false ∧ tick < x.fr) ∨ ((x.place == place) = true ∧ (x.place != place) = false ∧ x.fr ≤ tick ∧ x.to ≤ tick) := by
          rw [beq_iff_eq, beq_eq_false_iff_ne, bne_iff_ne, bne_eq_false_iff_eq]; omega
        clear hc hx
        rcases hcase with ⟨h1, h0⟩ | ⟨h1, h0, h2⟩ | ⟨h1, h0, h2, h3⟩
        all_goals
          go_wp2
          go_roundw
          case rel => exact ⟨k + 1, by omega, by go_num, by rw [hstay.out]; exact hown.out.ext (by with_reducible (repeat first | assumption | exact Ext.refl _ | refine Ext.set ?_ (by omega) _ | refine Ext.alloc ?_ _ | refine Ext.drew ?_ | refine Ext.drewN ?_ _ | refine Ext.trans ?_ (by assumption))), (by with_reducible (repeat first | assumption | exact Ext.refl _ | refine Ext.set ?_ (by omega) _ | refine Ext.alloc ?_ _ | refine Ext.drew ?_ | refine Ext.drewN ?_ _ | refine Ext.trans ?_ (by assumption)))⟩
          case measure => simp [intOf]; omega
    · obtain rfl : k = m.fcs.length := by omega
      have hown := Lib.hid hown
      have hcv := Lib.hid (show isort m.fcLt (m.covers0 place tick m.fcs.length) = m.covers place tick from rfl)
      go_wp2_with fail
      go_ret
      refine ⟨_, rfl, ?_, (by with_reducible (repeat first | assumption | exact Ext.refl _ | refine Ext.set ?_ (by omega) _ | refine Ext.alloc ?_ _ | refine Ext.drew ?_ | refine Ext.drewN ?_ _ | refine Ext.trans ?_ (by assumption)))⟩
      have h1 := hown.out
      rw [hcv.out] at h1
      exact h1.base (by omega)
set_option maxRecDepth 100000 in
set_option maxHeartbeats 4000000 in
theorem seen_168 (m : Met) (place tick : Int) (AF AS : Option Addr) (nF cF nS cS : Nat) (w : World) (hm : MetIn w m AF nF AS nS) (hl : m.sights.length ≤ 1000) :
    Calls Tryz.prog 168 #[m.val (.slice AF nF cF) (.slice AS nS cS), .int .i64 place, .int .i64 tick] w (NsPost (m.seen place tick) w) := by
  obtain ⟨-, hF⟩ := hm
  obtain rfl := hF.len
  simp only [Met.val]
  go_enter Tryz.func168, Tryz.ntmps168
  go_wp2_with fail
  refine name_world (R := fun W => Code.wp _ _ _ _ W) fun W0 hx0 hc0 hf0 hz0 => ?_
  simp at hz0
  have hF0 := hF.ext ((by with_reducible (repeat first | assumption | exact Ext.refl _ | refine Ext.set ?_ (by omega) _ | refine Ext.alloc ?_ _ | refine Ext.drew ?_ | refine Ext.drewN ?_ _ | refine Ext.trans ?_ (by assumption))) : Ext w W0)
  have q12 : W0.cell? ⟨w.heap.size, 13, none⟩ = some (.slice AS m.sights.length cS) := by go_simp
  have ql : w.heap.size < W0.heap.size := by omega
  have hAF : ∀ b off, AS = some ⟨b, off, none⟩ → 0 < m.sights.length → b < w.heap.size := fun b off h hn => hF.block hn h
  replace hAF := Lib.hid hAF
  have hxw : Ext w W0 := (by with_reducible (repeat first | assumption | exact Ext.refl _ | refine Ext.set ?_ (by omega) _ | refine Ext.alloc ?_ _ | refine Ext.drew ?_ | refine Ext.drewN ?_ _ | refine Ext.trans ?_ (by assumption)))
  clear hc0 hf0 hx0 hF
  go_loopw [7, 8] (fun v i wr => ∃ k : Nat, k ≤ m.sights.length ∧ i = .int .i64 k ∧ Owns 3 1 encNs wr W0.heap.size v (isort m.siLt (m.seen0 place tick k)) ∧ Ext W0 wr) (fun _ i _ => m.sights.length - (intOf i).toNat)
  case atStart => exact ⟨0, Nat.zero_le _, rfl, Owns.nil _ _ _ _ _, Ext.refl _⟩
  case round =>
    obtain ⟨k, hk, rfl, hown, he⟩ := hrel
    have r12 := (he.cells.1 _ _ ql).trans q12
    have rl := he.cells.2.2 _ ql
    by_cases hlt : k < m.sights.length
    · obtain ⟨x, hx⟩ : ∃ x, m.sights[k]? = some x := ⟨_, List.getElem?_eq_getElem hlt⟩
      obtain ⟨b0, off, hA, hb0, q0, q1, q2, q3, q4, q5, q6⟩ := (hF0.ext he).sight hlt hx
      have hcl := m.seen0_length place tick k
      have hil := isort_length m.siLt (m.seen0 place tick k)
      have hes := he.size
      have hbW := hAF.out b0 off hA (by omega)
      have hcov : m.seenOf place tick k = decide (x.place = place ∧ x.at_ ≤ tick) := by unfold Met.seenOf; rw [Met.si_eq hx]
      by_cases hc : x.place = place ∧ x.at_ ≤ tick
      · obtain ⟨c1, c2⟩ := hc
        have hstep := Lib.hid (m.seen_step place tick k (by rw [hcov, decide_eq_true ⟨c1, c2⟩]))
        have hsmall := hF0.small
        subst hA
        have h1 : (x.place == place) = true := beq_iff_eq.2 c1
        have h0 : (x.place != place) = false := bne_eq_false_iff_eq.2 c1
        have hmem : ∀ i ∈ isort m.siLt (m.seen0 place tick k), i < m.sights.length := fun i hi => by have := Met.seen0_mem ((mem_isort _ _ _).1 hi); omega
        have hac : (isort m.siLt (m.seen0 place tick k)).length ≤ k := by omega
        clear hcov c1 hil hcl
        generalize isort m.siLt (m.seen0 place tick k) = acc at *
        replace hmem := Lib.hid hmem
        have hx' := Lib.hid hx
        have hown := Lib.hid hown
        clear hx
        go_wp2_with (at_builtin; refine append_one e_int encNs (fun _ => rfl) encNs_one rfl _ _ rfl W0.heap.size u7 acc rfl k #[.int .i64 k] rfl _ rfl (by simp) (hown.out.ext (by with_reducible (repeat first | assumption | exact Ext.refl _ | refine Ext.set ?_ (by omega) _ | refine Ext.alloc ?_ _ | refine Ext.drew ?_ | refine Ext.drewN ?_ _ | refine Ext.trans ?_ (by assumption)))) (by first | omega | (simp; omega)) (by omega) ?_; intro v' w1 hown1 hgrow; have he1 : Ext W0 w1 := grown_ext W0 (by with_reducible (repeat first | assumption | exact Ext.refl _ | refine Ext.set ?_ (by omega) _ | refine Ext.alloc ?_ _ | refine Ext.drew ?_ | refine Ext.drewN ?_ _ | refine Ext.trans ?_ (by assumption))) (Nat.le_refl _) (fun g hg => (hown.out.lt hg).1) hgrow; obtain ⟨g, cap, rfl, hg, hO⟩ := OwnN.of_ns hown1 (by simp); clear hown1 hgrow)
        replace hO := Lib.hid hO
        replace he1 := Lib.hid he1
        clear hown q0 q1 q2 q3 q4 q5 q6 r12
        have hlen : (acc ++ [k]).length = acc.length + 1 := by simp
        go_loopw [9] (fun i wr => ∃ j : Nat, i = .int .i64 j ∧ j ≤ acc.length ∧ OwnN wr g cap (bub acc k j) ∧ (∀ y ∈ acc.drop j, m.siLt k y = true) ∧ Ext W0 wr) (fun i _ => (intOf i).toNat)
        case atStart => exact ⟨acc.length, rfl, Nat.le_refl _, by rw [bub_end]; exact hO.out, by simp, he1.out⟩
        case round =>
          clear he rl hes
          obtain ⟨j, rfl, hj, hw, hsuf, he2⟩ := hrel
          have r12 := (he2.cells.1 _ _ ql).trans q12
          have rl := he2.cells.2.2 _ ql
          have fr := hw.free
          have lg := hw.lt
          have hes2 := he2.size
          have hlb := bub_length acc k j hj
          by_cases h0 : 0 < j
          · obtain ⟨p, hp⟩ : ∃ p, acc[j - 1]? = some p := ⟨_, List.getElem?_eq_getElem (by omega)⟩
            have hpl := hmem.out p (List.mem_of_getElem? hp)
            obtain ⟨y, hy⟩ : ∃ y, m.sights[p]? = some y := ⟨_, List.getElem?_eq_getElem hpl⟩
            have c1 := hw.cell (bub_at acc k j hj)
            have c2 := hw.cell ((bub_before acc k j hj h0).trans hp)
            obtain ⟨b1, off1, hA1, hb1, -, z3, -⟩ := (hF0.ext he2).sight hlt hx'.out
            obtain ⟨b2, off2, hA2, hb2, -, z4, -⟩ := (hF0.ext he2).sight hpl hy
            simp only [Option.some.injEq, Addr.mk.injEq, and_true] at hA1 hA2
            obtain ⟨rfl, rfl⟩ := hA1
            obtain ⟨rfl, rfl⟩ := hA2
            have hlt2 := Met.siLt_of hx'.out hy
            have hj1 : (0 : Int) < (j : Int) := by omega
            have hjl : (j : Int) < ((acc ++ [k]).length : Int) := by rw [hlen]; omega
            have hkl : (k : Int) < (m.sights.length : Int) := by omega
            have hpl2 : (p : Int) < (m.sights.length : Int) := by omega
            have hnb : ¬ g = b0 := by omega
            have hswap := Lib.hid (bub_swap acc [] k p j hj h0 hp)
            have hset := Lib.hid (fun n => ((hw.drewN n).set (j := j) (by rw [hlb]; omega) p).set (j := j - 1) (by rw [List.length_set, hlb]; omega) k)
            have hdr := Lib.hid (show acc.drop (j - 1) = p :: acc.drop j by
              obtain ⟨h1, rfl⟩ := List.getElem?_eq_some_iff.1 hp
              have := List.drop_eq_getElem_cons h1
              rw [show j - 1 + 1 = j by omega] at this
              exact this)
            have hout := Lib.hid (fun hs => ins_stop m.siLt acc k j hj hsuf (Or.inr ⟨p, hp, hs⟩))
            replace hsuf := Lib.hid hsuf
            replace hw := Lib.hid hw
            clear hp hy
            by_cases hl : x.at_ < y.at_
            · rw [decide_eq_true hl] at hlt2
              replace hlt2 := Lib.hid hlt2
              go_wp2_with fail
              go_quiet (fail)
              go_wp2_with fail
              have hne1 : ¬ (j - 1 = j) := by omega
              have hne2 : ¬ (j = j - 1) := by omega
              go_region
              all_goals go_wp2
              go_roundw
              case rel =>
                refine ⟨j - 1, by rw [show ((j - 1 : Nat) : Int) = (j : Int) - 1 by omega], by omega, ?_, fun z hz => ?_, ?_⟩
                · have h4 := hswap.out
                  rw [List.append_nil, List.append_nil] at h4
                  rw [← h4]; exact hset.out _
                · rw [hdr.out] at hz
                  rcases List.mem_cons.1 hz with rfl | hz
                  · exact hlt2.out
                  · exact hsuf.out z hz
                · exact (by with_reducible (repeat first | assumption | exact Ext.refl _ | refine Ext.set ?_ (by omega) _ | refine Ext.alloc ?_ _ | refine Ext.drew ?_ | refine Ext.drewN ?_ _ | refine Ext.trans ?_ (by assumption)))
              case measure => simp [intOf]; omega
            · rw [decide_eq_false hl] at hlt2
              have hfin := hout.out hlt2
              have hb3 : (bub acc k j).length = acc.length + 1 := hlb
              replace hfin := Lib.hid hfin
              replace hb3 := Lib.hid hb3
              go_wp2_with fail
              go_quiet (fail)
              go_wp2_with fail
              go_roundw
              case rel => exact ⟨k + 1, by omega, by go_num, by rw [hstep.out, hfin.out, ← hb3.out]; exact (hw.out.drewN _).ns hg, (by with_reducible (repeat first | assumption | exact Ext.refl _ | refine Ext.set ?_ (by omega) _ | refine Ext.alloc ?_ _ | refine Ext.drew ?_ | refine Ext.drewN ?_ _ | refine Ext.trans ?_ (by assumption)))⟩
              case measure => simp [intOf]; omega
          · obtain rfl : j = 0 := by omega
            have hfin := Lib.hid (ins_stop m.siLt acc k 0 hj hsuf (Or.inl rfl))
            have hb3 := Lib.hid (show (bub acc k 0).length = acc.length + 1 from hlb)
            replace hw := Lib.hid hw
            replace hsuf := Lib.hid hsuf
            clear h0
            go_wp2_with fail
            go_quiet (fail)
            go_wp2_with fail
            go_roundw
            case rel => exact ⟨k + 1, by omega, by go_num, by rw [hstep.out, hfin.out, ← hb3.out]; exact (hw.out.drewN _).ns hg, (by with_reducible (repeat first | assumption | exact Ext.refl _ | refine Ext.set ?_ (by omega) _ | refine Ext.alloc ?_ _ | refine Ext.drew ?_ | refine Ext.drewN ?_ _ | refine Ext.trans ?_ (by assumption)))⟩
            case measure => simp [intOf]; omega
      · have hstay := Lib.hid (m.seen_stay place tick k (by rw [hcov, decide_eq_false hc]))
        subst hA
        have hown := Lib.hid hown
        clear hcov hil
        have hcase : ((x.place == place) = false ∧ (x.place != place) = true) ∨ ((x.place == place) = true ∧ (x.place != place) = false ∧ tick < x.at_) := by
          rw [beq_iff_eq, beq_eq_false_iff_ne, bne_iff_ne, bne_eq_false_iff_eq]; omega
        clear hc hx
        rcases hcase with ⟨h1, h0⟩ | ⟨h1, h0, h2⟩
        all_goals
          go_wp2
          go_roundw
          case rel => exact ⟨k + 1, by omega, by go_num, by rw [hstay.out]; exact hown.out.ext (by with_reducible (repeat first | assumption | exact Ext.refl _ | refine Ext.set ?_ (by omega) _ | refine Ext.alloc ?_ _ | refine Ext.drew ?_ | refine Ext.drewN ?_ _ | refine Ext.trans ?_ (by assumption))), (by with_reducible (repeat first | assumption | exact Ext.refl _ | refine Ext.set ?_ (by omega) _ | refine Ext.alloc ?_ _ | refine Ext.drew ?_ | refine Ext.drewN ?_ _ | refine Ext.trans ?_ (by assumption)))⟩
          case measure => simp [intOf]; omega
    · obtain rfl : k = m.sights.length := by omega
      have hown := Lib.hid hown
      have hcv := Lib.hid (show isort m.siLt (m.seen0 place tick m.sights.length) = m.seen place tick from rfl)
      go_wp2_with fail
      go_ret
      refine ⟨_, rfl, ?_, (by with_reducible (repeat first | assumption | exact Ext.refl _ | refine Ext.set ?_ (by omega) _ | refine Ext.alloc ?_ _ | refine Ext.drew ?_ | refine Ext.drewN ?_ _ | refine Ext.trans ?_ (by assumption)))⟩
      have h1 := hown.out
      rw [hcv.out] at h1
      exact h1.base (by omega)
end Go.Proofs.YtmmimbcfgobnaaaGreat
