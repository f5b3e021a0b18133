/- slices.Sort at no more than twelve whole numbers; the sorts at none. The sorts at rows of the call's own, nil let in. -/
import Derived.Test.YtmmimbcfgobnaaaGreatW5
import Derived.Test.YtmmimbcfgobnaaaGreatA1
import Derived.Test.YtmmimbcfgobnaaaGreatD0
set_option linter.unusedVariables false
set_option linter.unusedSimpArgs false
namespace Go.Proofs.YtmmimbcfgobnaaaGreat
open Go.RowKit
set_option linter.unusedVariables false
set_option linter.unusedSimpArgs false
attribute [local go_sem] stored_match isSome_setCell

def natLt (a b : Nat) : Bool := decide (a < b)
set_option maxRecDepth 100000 in
set_option maxHeartbeats 2000000 in
theorem less_161 (a b : Int) (w : World) : Calls Tryz.prog 161 #[.int .i64 a, .int .i64 b] w fun e w' => e = .returned (.bool (decide (a < b))) ∧ w' = w := by
  go_enter Tryz.func161, Tryz.ntmps161
  go_wp2_with (go_at_call 119; refine (isNaN_119 _ _).mono ?_; rintro e1 w1 ⟨rfl, rfl⟩)
  go_ret
  exact ⟨rfl, rfl⟩
set_option maxRecDepth 100000 in
set_option maxHeartbeats 2000000 in
theorem insertion_155 (g cap : Nat) (L : List Nat) (w : World) (hL : OwnN w g cap L) (hn : L.length ≤ 1000000) :
    Calls Tryz.prog 155 #[.slice (some ⟨g, 0, none⟩) L.length cap, .int .i64 0, .int .i64 L.length] w fun e w' => e = .returned (.tuple #[]) ∧ OwnN w' g cap (isort natLt L) ∧ ExtBut g w w' := by
  go_enter Tryz.func155, Tryz.ntmps155
  go_wp2
  go_loopw [6] (fun i wr => ∃ k : Nat, i = .int .i64 k ∧ 1 ≤ k ∧ (k ≤ L.length ∨ k = 1) ∧ OwnN wr g cap (isort natLt (L.take k) ++ L.drop k) ∧ ExtBut g w wr) (fun i _ => L.length - (intOf i).toNat)
  case atStart => exact ⟨1, rfl, by omega, .inr rfl, by
    cases L with
    | nil => exact hL
    | cons a t => exact hL, ExtBut.refl _ _⟩
  case round =>
    obtain ⟨k, rfl, hk1, hk2, hw, hb⟩ := hrel
    by_cases hlt : k < L.length
    · obtain ⟨x, hx⟩ : ∃ x, L[k]? = some x := ⟨_, List.getElem?_eq_getElem hlt⟩
      have hdrop : L.drop k = x :: L.drop (k + 1) := by
        obtain ⟨h1, rfl⟩ := List.getElem?_eq_some_iff.1 hx
        exact List.drop_eq_getElem_cons h1
      have hacc : (isort natLt (L.take k)).length = k := by rw [isort_length, List.length_take]; omega
      have hnext := Lib.hid (isort_take_succ natLt L k x hx)
      generalize isort natLt (L.take k) = acc at *
      have hw : OwnN wr g cap (bub acc x k ++ L.drop (k + 1)) := by
        have e : bub acc x k = acc ++ [x] := by rw [← hacc, bub_end]
        rw [hdrop] at hw
        rw [e, List.append_assoc]
        exact hw
      have hrl : (L.drop (k + 1)).length = L.length - (k + 1) := List.length_drop
      generalize hrest : L.drop (k + 1) = rest at *
      have hrest := Lib.hid hrest
      have HX := Lib.hid hx
      clear hdrop hx
      obtain ⟨wo, hwo⟩ : ∃ wo : World, wo = wr := ⟨_, rfl⟩
      have hb : ExtBut g w wo := hwo ▸ hb
      have hkn : (k : Int) < 1000000 := by omega
      have hwo := Lib.hid hwo
      have hacc := Lib.hid hacc
      have hrl := Lib.hid hrl
      go_wp2
      go_loopw [7] (fun i wr => ∃ j : Nat, i = .int .i64 j ∧ j ≤ k ∧ OwnN wr g cap (bub acc x j ++ rest) ∧ (∀ y ∈ acc.drop j, natLt x y = true) ∧ ExtBut g w wr) (fun i _ => (intOf i).toNat)
      case atStart => exact ⟨k, rfl, by omega, hw, by rw [← hacc.out]; simp, by rw [← hwo.out]; exact hb⟩
      case round =>
        clear hw hb hwo
        obtain ⟨j, rfl, hj, hw, hsuf, hb⟩ := hrel
        have hacc' := hacc.out
        have hlen : (bub acc x j ++ rest).length = L.length := by rw [List.length_append, bub_length _ _ _ (by omega), hrl.out]; omega
        have hout := fun (hs : j = 0 ∨ ∃ y, acc[j - 1]? = some y ∧ natLt x y = false) => (hnext.out.trans (ins_stop natLt acc x j (by omega) hsuf hs))
        have hxj : (bub acc x j ++ rest)[j]? = some x := by rw [List.getElem?_append_left (by rw [bub_length _ _ _ (by omega)]; omega)]; exact bub_at _ _ _ (by omega)
        have c1 := hw.cell hxj
        have fr := hw.free
        have lg := hw.lt
        by_cases h0 : 0 < j
        · obtain ⟨p, hp⟩ : ∃ p, acc[j - 1]? = some p := ⟨_, List.getElem?_eq_getElem (by omega)⟩
          have hpj : (bub acc x j ++ rest)[j - 1]? = some p := by rw [List.getElem?_append_left (by rw [bub_length _ _ _ (by omega)]; omega), bub_before _ _ _ (by omega) h0]; exact hp
          have c2 := hw.cell hpj
          have hswap := Lib.hid (bub_swap acc rest x p j (by omega) h0 hp)
          have hset := Lib.hid (fun n => ((hw.drewN n).set (j := j) (by rw [hlen]; omega) p).set (j := j - 1) (by rw [List.length_set, hlen]; omega) x)
          have hdr := Lib.hid (show acc.drop (j - 1) = p :: acc.drop j by
            obtain ⟨h1, rfl⟩ := List.getElem?_eq_some_iff.1 hp
            have := List.drop_eq_getElem_cons h1
            rw [show j - 1 + 1 = j by omega] at this
            exact this)
          have hsuf := Lib.hid hsuf
          have hout := Lib.hid hout
          have HP := Lib.hid hp
          have hw := Lib.hid hw
          have hb := Lib.hid hb
          clear hp hpj hxj hnext hacc' hlen
          have h0i : (0 : Int) < j := by omega
          rcases Bool.eq_false_or_eq_true (natLt x p) with hl | hl
          · have HL := Lib.hid hl
            have hd : decide (x < p) = true := hl
            clear hl
            go_wp2_with fail
            go_quiet ((go_at_call 161; exact Calls.quiet_of_same (less_161 _ _ _)))
            go_wp2
            have hne1 : ¬ (j - 1 = j) := by omega
            have hne2 : ¬ (j = j - 1) := by omega
            go_region
            all_goals go_wp2
            go_roundw
            case rel =>
              exact ⟨j - 1, by rw [show ((j - 1 : Nat) : Int) = (j : Int) - 1 by omega], by omega, by rw [← hswap.out]; exact hset.out _, fun y hy => by
                rw [hdr.out] at hy
                rcases List.mem_cons.1 hy with rfl | hy
                · exact HL.out
                · exact hsuf.out y hy, ((hb.out.drewN _).set _ _).set _ _⟩
            case measure => simp [intOf]; omega
          · have HL := Lib.hid hl
            have hd : decide (x < p) = false := hl
            clear hl
            go_wp2_with fail
            go_quiet ((go_at_call 161; exact Calls.quiet_of_same (less_161 _ _ _)))
            go_wp2
            go_roundw
            case rel => exact ⟨k + 1, by go_num, by omega, by omega, by rw [hout.out (Or.inr ⟨p, HP.out, HL.out⟩), hrest.out]; exact hw.out.drewN _, hb.out.drewN _⟩
            case measure => simp [intOf]; omega
        · obtain rfl : j = 0 := by omega
          have hsuf := Lib.hid hsuf
          have hout := Lib.hid hout
          have hw := Lib.hid hw
          have hb := Lib.hid hb
          clear hxj hnext hacc' hlen h0
          go_wp2_with fail
          go_quiet (fail)
          go_wp2
          go_roundw
          case rel => exact ⟨k + 1, by go_num, by omega, by omega, by rw [hout.out (by simp), hrest.out]; exact hw.out.drewN _, hb.out.drewN _⟩
          case measure => simp [intOf]; omega
    · have hfin := Lib.hid (show OwnN wr g cap (isort natLt L) by
        rw [List.take_of_length_le (by omega), List.drop_of_length_le (by omega), List.append_nil] at hw
        exact hw)
      have hb := Lib.hid hb
      clear hw
      go_wp2
      go_end0
      exact ⟨rfl, hfin.out, hb.out⟩

def SomeInt (w : World) (e : Ending) (w' : World) : Prop := ∃ r : Int, e = .returned (.int .i64 r) ∧ w = w'
set_option maxRecDepth 100000 in
set_option maxHeartbeats 2000000 in
theorem len64_165 (n : Nat) (hn : n ≤ 12) (w : World) : Calls Tryz.prog 165 #[.int .u64 n] w (SomeInt w) := by
  have h1 : ¬ ((4294967296 : Int) ≤ n) := by omega
  have h2 : ¬ ((65536 : Int) ≤ n) := by omega
  have h3 : ¬ ((256 : Int) ≤ n) := by omega
  have h4 : (n : Int) < 13 := by omega
  go_enter Tryz.func165, Tryz.ntmps165
  go_wp2
  go_ret
  exact ⟨_, rfl, rfl⟩
set_option maxRecDepth 100000 in
set_option maxHeartbeats 2000000 in
theorem len_138 (n : Nat) (hn : n ≤ 12) (w : World) : Calls Tryz.prog 138 #[.int .u64 n] w (SomeInt w) := by
  go_enter Tryz.func138, Tryz.ntmps138
  go_wp2_with (go_at_call 165; refine (len64_165 n hn _).mono ?_; rintro e1 w1 ⟨r, rfl, rfl⟩)
  go_ret
  exact ⟨_, rfl, rfl⟩
set_option maxRecDepth 100000 in
set_option maxHeartbeats 2000000 in
theorem pdq_137 (g cap : Nat) (L : List Nat) (r : Int) (w : World) (hL : OwnN w g cap L) (hn : L.length ≤ 12) :
    Calls Tryz.prog 137 #[.slice (some ⟨g, 0, none⟩) L.length cap, .int .i64 0, .int .i64 L.length, .int .i64 r] w fun e w' => e = .returned (.tuple #[]) ∧ OwnN w' g cap (isort natLt L) ∧ ExtBut g w w' := by
  have h12 : (L.length : Int) ≤ 12 := by omega
  go_enter Tryz.func137, Tryz.ntmps137
  go_wp2
  refine wp_loop_once ?_
  go_wp2_with (go_at_call 155; refine (insertion_155 g cap L _ hL (by omega)).mono ?_; rintro e1 w1 ⟨rfl, hO, hE⟩)
  exact bodyPost_ret (v := .tuple #[]) (by simp [results, go_sem]) rfl ⟨rfl, hO, hE⟩
set_option maxRecDepth 100000 in
set_option maxHeartbeats 2000000 in
theorem sort_111 (g cap : Nat) (L : List Nat) (w : World) (hL : OwnN w g cap L) (hn : L.length ≤ 12) :
    Calls Tryz.prog 111 #[.slice (some ⟨g, 0, none⟩) L.length cap] w fun e w' => e = .returned (.tuple #[]) ∧ OwnN w' g cap (isort natLt L) ∧ ExtBut g w w' := by
  have h12 : (L.length : Int) ≤ 12 := by omega
  go_enter Tryz.func111, Tryz.ntmps111
  go_wp2_with (first | (go_at_call 138; refine (len_138 L.length hn _).mono ?_; rintro e1 w1 ⟨r, rfl, rfl⟩) | (go_at_call 137; refine (pdq_137 g cap L _ _ hL hn).mono ?_; rintro e1 w1 ⟨rfl, hO, hE⟩))
  go_end0
  exact ⟨rfl, hO, hE⟩
set_option maxRecDepth 100000 in
set_option maxHeartbeats 2000000 in
theorem insertion_nil (G : Value) (w : World) : Calls Tryz.prog 152 #[.slice none 0 0, .int .i64 0, .int .i64 0, G] w fun e w' => e = .returned (.tuple #[]) ∧ w = w' := by
  go_enter Tryz.func152, Tryz.ntmps152
  go_wp2
  refine wp_loop_once ?_
  go_wp2
  go_end0
  exact ⟨rfl, rfl⟩
set_option maxRecDepth 100000 in
set_option maxHeartbeats 2000000 in
theorem stable_nil (G : Value) (w : World) : Calls Tryz.prog 135 #[.slice none 0 0, .int .i64 0, G] w fun e w' => e = .returned (.tuple #[]) ∧ w = w' := by
  go_enter Tryz.func135, Tryz.ntmps135
  go_wp2
  refine wp_loop_once ?_
  go_wp2_with (go_at_call 152; refine (insertion_nil G _).mono ?_; rintro e1 w1 ⟨rfl, rfl⟩)
  refine wp_loop_once ?_
  go_wp2
  go_end0
  exact ⟨rfl, rfl⟩
set_option maxRecDepth 100000 in
set_option maxHeartbeats 2000000 in
theorem sort_nil (G : Value) (w : World) : Calls Tryz.prog 106 #[.slice none 0 0, G] w fun e w' => e = .returned (.tuple #[]) ∧ w = w' := by
  go_enter Tryz.func106, Tryz.ntmps106
  go_wp2_with (go_at_call 135; refine (stable_nil G _).mono ?_; rintro e1 w1 ⟨rfl, rfl⟩)
  go_end0
  exact ⟨rfl, rfl⟩
set_option maxRecDepth 100000 in
set_option maxHeartbeats 2000000 in
theorem insertion_nil_155 (w : World) : Calls Tryz.prog 155 #[.slice none 0 0, .int .i64 0, .int .i64 0] w fun e w' => e = .returned (.tuple #[]) ∧ w = w' := by
  go_enter Tryz.func155, Tryz.ntmps155
  go_wp2
  refine wp_loop_once ?_
  go_wp2
  go_end0
  exact ⟨rfl, rfl⟩
set_option maxRecDepth 100000 in
set_option maxHeartbeats 2000000 in
theorem pdq_nil (r : Int) (w : World) : Calls Tryz.prog 137 #[.slice none 0 0, .int .i64 0, .int .i64 0, .int .i64 r] w fun e w' => e = .returned (.tuple #[]) ∧ w = w' := by
  go_enter Tryz.func137, Tryz.ntmps137
  go_wp2
  refine wp_loop_once ?_
  go_wp2_with (go_at_call 155; refine (insertion_nil_155 _).mono ?_; rintro e1 w1 ⟨rfl, rfl⟩)
  exact bodyPost_ret (v := .tuple #[]) (by simp [results, go_sem]) rfl ⟨rfl, rfl⟩
set_option maxRecDepth 100000 in
set_option maxHeartbeats 2000000 in
theorem sort_nil_111 (w : World) : Calls Tryz.prog 111 #[.slice none 0 0] w fun e w' => e = .returned (.tuple #[]) ∧ w = w' := by
  go_enter Tryz.func111, Tryz.ntmps111
  go_wp2_with (first | (go_at_call 138; refine (len_138 0 (by omega) _).mono ?_; rintro e1 w1 ⟨r, rfl, rfl⟩) | (go_at_call 137; refine (pdq_nil _ _).mono ?_; rintro e1 w1 ⟨rfl, rfl⟩))
  go_end0
  exact ⟨rfl, rfl⟩
end Go.Proofs.YtmmimbcfgobnaaaGreat
namespace Go.Proofs.YtmmimbcfgobnaaaGreat
open Go.RowKit
set_option linter.unusedVariables false
set_option linter.unusedSimpArgs false
def encNs (i : Nat) : List Value := [encN i]
theorem encNs_one : ∀ (x : Nat), ∀ u ∈ encNs x, u.oneCell' = true := fun x u hu => by
  simp only [encNs, List.mem_singleton] at hu; subst hu; rfl
theorem cellsOf_Ns (L : List Nat) : cellsOf encNs L = L.map encN := cellsOf_N L
theorem ExtBut.of_ge {p : Nat} {B w w' : World} (h : Ext B w) (k : ExtBut p w w') (hp : B.heap.size ≤ p) : Ext B w' := ExtBut.ext h k hp

theorem sortO_fc (m : Met) (A : Option Addr) (c bm base : Nat) (v : Value) (L : List Nat) (wB w : World) (hO : Owns 3 1 encNs w base v L) (hbase : wB.heap.size ≤ base) (hr : ∀ i ∈ L, i < m.fcs.length) (hn : L.length ≤ 19) (hB : Ext wB w) (hF : Rows 12 Fc.enc wB A m.fcs.length m.fcs) (hbm : wB.cell? ⟨bm, 12, none⟩ = some (.slice A m.fcs.length c)) (lbm : bm < wB.heap.size) :
    Calls Tryz.prog 106 #[v, .func (.func 107) #[] #[.pointer (some ⟨bm, 0, none⟩)]] w fun e w' => e = .returned (.tuple #[]) ∧ Owns 3 1 encNs w' base v (isort m.fcLt L) ∧ Ext wB w' := by
  rcases hO.form with ⟨rfl, rfl⟩ | ⟨g, cap, rfl, hg, hgl⟩
  · refine (sort_nil _ w).mono ?_
    rintro e w' ⟨rfl, rfl⟩
    exact ⟨rfl, hO, hB⟩
  · by_cases hL : L = []
    · subst hL
      rcases hO.2 with ⟨h0, _⟩ | ⟨g', cap', cur, he, hg', hh, hn2, hm, hs, ht⟩
      · simp at h0
      · simp only [Value.slice.injEq, Option.some.injEq, Addr.mk.injEq, and_true] at he
        obtain ⟨rfl, _, rfl⟩ := he
        have hN : OwnN w g cap [] := ⟨⟨cur, hh, by omega, by simp⟩, by simp, hm⟩
        refine (sort_fc m A c bm g cap [] wB w hN hr hn hB (by omega) hF hbm lbm).mono ?_
        rintro e w' ⟨rfl, hO', hE⟩
        exact ⟨rfl, by
          have := hO'.owns hg
          unfold Owns; rw [cellsOf_Ns]
          exact this, ExtBut.ext hB hE (by omega)⟩
    · have hO2 : w.ownsRow base 3 1 (.slice (some ⟨g, 0, none⟩) L.length cap) L.length (L.map encN) := by rw [← cellsOf_Ns]; exact hO
      obtain ⟨g', cap', he, hg', hN⟩ := OwnN.of_owns hO2 hL
      simp only [Value.slice.injEq, Option.some.injEq, Addr.mk.injEq, and_true, true_and] at he
      obtain ⟨rfl, rfl⟩ := he
      refine (sort_fc m A c bm g cap L wB w hN hr hn hB (by omega) hF hbm lbm).mono ?_
      rintro e w' ⟨rfl, hO', hE⟩
      exact ⟨rfl, by
        have := hO'.owns hg
        rw [isort_length] at this
        unfold Owns; rw [cellsOf_Ns, isort_length]
        exact this, ExtBut.ext hB hE (by omega)⟩

theorem sortO_si (m : Met) (A : Option Addr) (c bm base : Nat) (v : Value) (L : List Nat) (wB w : World) (hO : Owns 3 1 encNs w base v L) (hbase : wB.heap.size ≤ base) (hr : ∀ i ∈ L, i < m.sights.length) (hn : L.length ≤ 19) (hB : Ext wB w) (hF : Rows 7 Sight.enc wB A m.sights.length m.sights) (hbm : wB.cell? ⟨bm, 13, none⟩ = some (.slice A m.sights.length c)) (lbm : bm < wB.heap.size) :
    Calls Tryz.prog 106 #[v, .func (.func 109) #[] #[.pointer (some ⟨bm, 0, none⟩)]] w fun e w' => e = .returned (.tuple #[]) ∧ Owns 3 1 encNs w' base v (isort m.siLt L) ∧ Ext wB w' := by
  rcases hO.form with ⟨rfl, rfl⟩ | ⟨g, cap, rfl, hg, hgl⟩
  · refine (sort_nil _ w).mono ?_
    rintro e w' ⟨rfl, rfl⟩
    exact ⟨rfl, hO, hB⟩
  · by_cases hL : L = []
    · subst hL
      rcases hO.2 with ⟨h0, _⟩ | ⟨g', cap', cur, he, hg', hh, hn2, hm, hs, ht⟩
      · simp at h0
      · simp only [Value.slice.injEq, Option.some.injEq, Addr.mk.injEq, and_true] at he
        obtain ⟨rfl, _, rfl⟩ := he
        have hN : OwnN w g cap [] := ⟨⟨cur, hh, by omega, by simp⟩, by simp, hm⟩
        refine (sort_si m A c bm g cap [] wB w hN hr hn hB (by omega) hF hbm lbm).mono ?_
        rintro e w' ⟨rfl, hO', hE⟩
        exact ⟨rfl, by
          have := hO'.owns hg
          unfold Owns; rw [cellsOf_Ns]
          exact this, ExtBut.ext hB hE (by omega)⟩
    · have hO2 : w.ownsRow base 3 1 (.slice (some ⟨g, 0, none⟩) L.length cap) L.length (L.map encN) := by rw [← cellsOf_Ns]; exact hO
      obtain ⟨g', cap', he, hg', hN⟩ := OwnN.of_owns hO2 hL
      simp only [Value.slice.injEq, Option.some.injEq, Addr.mk.injEq, and_true, true_and] at he
      obtain ⟨rfl, rfl⟩ := he
      refine (sort_si m A c bm g cap L wB w hN hr hn hB (by omega) hF hbm lbm).mono ?_
      rintro e w' ⟨rfl, hO', hE⟩
      exact ⟨rfl, by
        have := hO'.owns hg
        rw [isort_length] at this
        unfold Owns; rw [cellsOf_Ns, isort_length]
        exact this, ExtBut.ext hB hE (by omega)⟩

theorem grownBy_refl (w : World) (r : Option Nat) : w.grownBy w r := ⟨rfl, rfl, rfl, Nat.le_refl _, fun _ _ _ => rfl⟩
theorem ExtBut.grownBy {p : Nat} {w w' : World} (h : ExtBut p w w') : w.grownBy w' (some p) := ⟨h.os, h.tape, h.output, h.size, fun k hk hp => h.block k hk (fun e => hp (by rw [e]))⟩
theorem sortO_111 (base : Nat) (v : Value) (L : List Nat) (w : World) (hO : Owns 3 1 encNs w base v L) (hn : L.length ≤ 12) :
    Calls Tryz.prog 111 #[v] w fun e w' => e = .returned (.tuple #[]) ∧ Owns 3 1 encNs w' base v (isort natLt L) ∧ w.grownBy w' v.ownBlock := by
  rcases hO.form with ⟨rfl, rfl⟩ | ⟨g, cap, rfl, hg, hgl⟩
  · refine (sort_nil_111 w).mono ?_
    rintro e w' ⟨rfl, rfl⟩
    exact ⟨rfl, hO, grownBy_refl _ _⟩
  · rcases hO.2 with ⟨h0, _⟩ | ⟨g', cap', cur, he, hg', hh, hn2, hm, hs, ht⟩
    · simp at h0
    · simp only [Value.slice.injEq, Option.some.injEq, Addr.mk.injEq, and_true] at he
      obtain ⟨rfl, _, rfl⟩ := he
      have hN : OwnN w g cap L := ⟨⟨cur, hh, by omega, by rw [← cellsOf_Ns]; rw [Nat.mul_one] at ht; exact ht⟩, hn2, hm⟩
      refine (sort_111 g cap L w hN hn).mono ?_
      rintro e w' ⟨rfl, hO', hE⟩
      exact ⟨rfl, by
        have := hO'.owns hg
        rw [isort_length] at this
        unfold Owns; rw [cellsOf_Ns, isort_length]
        exact this, hE.grownBy⟩
end Go.Proofs.YtmmimbcfgobnaaaGreat
