/- The reference: flown, right, Check, Arrive. -/
import Derived.Test.YtmmimbcfgobnaaaGreatQ3
import Derived.Test.YtmmimbcfgobnaaaGreatQ2
import Derived.Test.YtmmimbcfgobnaaaGreatR11
namespace Go.Proofs.YtmmimbcfgobnaaaGreat
open Go.RowKit
set_option linter.unusedVariables false
set_option linter.unusedSimpArgs false
attribute [local go_sem] stored_match isSome_setCell

theorem Owns.one {w : World} {base b : Nat} {x : Int} (hb : base ≤ b) (h : w.heap[b]? = some (.cells #[.int .i64 x] 3 (0, 0))) : Owns 3 1 encInt w base (.slice (some ⟨b, 0, none⟩) 1 1) [x] :=
  ⟨by simp [cellsOf, encInt], .inr ⟨b, 1, _, rfl, hb, h, Nat.le_refl _, by unfold maxLen; omega, by simp, by simp [cellsOf, encInt]⟩⟩
theorem heap_alloc_new' (w : World) (o : Obj) {b : Nat} (h : b = w.heap.size) : (w.alloc o).heap[b]? = some o := by
  subst h
  show (w.heap.push _)[w.heap.size]? = _
  simp
def FlownPost (f : Flight) (L : Tab) (w : World) (e : Ending) (w' : World) : Prop :=
  (joined L f.route f.last = true → ∃ A c, e = .returned (.tuple #[.slice A f.route.length c, .bool true]) ∧ Rows 1 encInt w' A f.route.length (f.atList L f.route.length)) ∧ (joined L f.route f.last = false → e = .returned (.tuple #[.slice none 0 0, .bool false])) ∧ Ext w w'
theorem FlownPost.no {f : Flight} {L : Tab} {w w' : World} (h : joined L f.route f.last = false) (e : Ext w w') : FlownPost f L w (.returned (.tuple #[.slice none 0 0, .bool false])) w' :=
  ⟨fun g => by rw [h] at g; exact absurd g (by decide), fun _ => rfl, e⟩
theorem FlownPost.yes {f : Flight} {L : Tab} {w w' : World} {A : Option Addr} {c : Nat} (h : joined L f.route f.last = true) (hR : Rows 1 encInt w' A f.route.length (f.atList L f.route.length)) (e : Ext w w') : FlownPost f L w (.returned (.tuple #[.slice A f.route.length c, .bool true])) w' :=
  ⟨fun _ => ⟨A, c, rfl, hR⟩, fun g => by rw [h] at g; exact absurd g (by decide), e⟩
theorem joined_bad {f : Flight} {L : Tab} {j : Nat} {x y : Int} (hx : f.route[j + 1]? = some x) (hy : f.route[j]? = some y) (h0 : L y x < 0) : joined L f.route f.last = false := by
  have ex : f.route.getD (j + 1) 0 = x := by rw [List.getD_eq_getElem?_getD, hx]; rfl
  have ey : f.route.getD j 0 = y := by rw [List.getD_eq_getElem?_getD, hy]; rfl
  have hl : j + 1 < f.route.length := (List.getElem?_eq_some_iff.1 hx).1
  exact joined_false (L := L) (r := f.route) (j := j) (by rw [ex, ey]; omega) f.last (by unfold Flight.last; omega)
set_option maxRecDepth 100000 in
set_option maxHeartbeats 2000000 in
theorem flown_67 (xs : List Leg) (f : Flight) (places : Int) (A : Option Addr) (nx c : Nat) (AR : Option Addr) (nR cR : Nat) (w : World) (hX : Rows 3 Leg.enc w A nx xs) (hR : Rows 1 encInt w AR nR f.route) (hL : (legOf xs).upto 200) (h1 : 1 ≤ f.route.length) (h8 : f.route.length ≤ 1000) (hd : 0 ≤ f.depart ∧ f.depart ≤ 2000) (hp : ∀ p ∈ f.route, 0 ≤ p ∧ p ≤ places - 1) :
    Calls Tryz.prog 67 #[.slice A nx c, f.val (.slice AR nR cR)] w (FlownPost f (legOf xs) w) := by
  obtain rfl := hR.len
  obtain ⟨x0, hx0⟩ : ∃ x0, f.route[0]? = some x0 := ⟨_, List.getElem?_eq_getElem (by omega)⟩
  have hok1 := (RouteOk.zero (places := places) (L := legOf xs) hd).one hx0 (hp _ (List.mem_of_getElem? hx0))
  have hok1 := Lib.hid hok1
  have hlast : f.last + 1 = f.route.length := by unfold Flight.last; omega
  have hp := Lib.hid hp
  have hR := Lib.hid hR
  have hX := Lib.hid hX
  have hL := Lib.hid hL
  obtain ⟨d1, d2⟩ := hd
  simp only [Flight.val]
  go_enter Tryz.func67, Tryz.ntmps67
  go_wp2_with fail
  refine name_world (R := fun W => Code.wp _ _ _ _ W) fun W1 hx1 hc1 hf1 hz1 => ?_
  have hxw : Ext w W1 := (by with_reducible (repeat first | assumption | exact Ext.refl _ | refine Ext.set ?_ (by omega) _ | refine Ext.alloc ?_ _ | refine Ext.drew ?_ | refine Ext.drewN ?_ _ | refine Ext.trans ?_ (by assumption)))
  obtain ⟨Wb, hB, hwB, q0, hsz⟩ : ∃ Wb, Ext Wb W1 ∧ Ext w Wb ∧ Wb.cell? ⟨w.heap.size, 0, none⟩ = some (.slice AR f.route.length cR) ∧ Wb.heap.size = w.heap.size + 1 := ⟨w.alloc (.cells #[.slice AR f.route.length cR, .int .i64 f.depart, .int .i64 f.fuel, .int .i64 f.burn, .int .i64 f.reserve] 37), Ext.trans (Ext.alloc (Ext.refl _) _) hx1, (by with_reducible (repeat first | assumption | exact Ext.refl _ | refine Ext.set ?_ (by omega) _ | refine Ext.alloc ?_ _ | refine Ext.drew ?_ | refine Ext.drewN ?_ _ | refine Ext.trans ?_ (by assumption))), by go_simp, by simp⟩
  have hblk : W1.heap[w.heap.size + 1]? = some (.cells #[.int .i64 f.depart] 3 (0, 0)) := by
    rw [hx1.below.block (w.heap.size + 1) (by simp)]
    exact heap_alloc_new' _ _ (by simp)
  have hO : Owns 3 1 encInt W1 Wb.heap.size (.slice (some ⟨w.heap.size + 1, 0, none⟩) 1 1) (f.atList (legOf xs) 1) := Owns.one (by omega) hblk
  have hlB : w.heap.size < Wb.heap.size := by omega
  clear hc1 hf1 hz1 hx1 hblk
  go_loopw [6, 7] (fun v i wr => ∃ k : Nat, 1 ≤ k ∧ k ≤ f.route.length ∧ i = .int .i64 k ∧ Owns 3 1 encInt wr Wb.heap.size v (f.atList (legOf xs) k) ∧ Ext Wb wr ∧ RouteOk f places (legOf xs) k) (fun _ i _ => f.route.length - (intOf i).toNat)
  case atStart => exact ⟨1, Nat.le_refl _, h1, rfl, hO, hB, hok1.out⟩
  case round =>
    clear hO
    obtain ⟨k, hk1, hk, rfl, hown, he, hok⟩ := hrel
    have g0 := (he.cells.1 _ _ hlB).trans q0
    have gl := he.cells.2.2 _ hlB
    have hew : Ext w wr := hwB.trans he
    have hes := he.size
    by_cases hlt : k < f.route.length
    · obtain ⟨x, hx⟩ : ∃ x, f.route[k]? = some x := ⟨_, List.getElem?_eq_getElem hlt⟩
      obtain ⟨j, rfl⟩ : ∃ j, k = j + 1 := ⟨k - 1, by omega⟩
      obtain ⟨y, hy⟩ : ∃ y, f.route[j]? = some y := ⟨_, List.getElem?_eq_getElem (by omega)⟩
      obtain ⟨b0, off, hAR, hb0, c0⟩ := (hR.out.ext hew).intx hlt hx
      obtain ⟨b0', off', hAR', hb0', c1⟩ := (hR.out.ext hew).intx (by omega) hy
      rw [hAR] at hAR'
      simp only [Option.some.injEq, Addr.mk.injEq, and_true] at hAR'
      obtain ⟨rfl, rfl⟩ := hAR'
      subst hAR
      obtain ⟨v1, v2⟩ := hL.out y x
      have hns := f.nowAt_succ (legOf xs) j
      rw [show f.route.getD (j + 1) 0 = x by rw [List.getD_eq_getElem?_getD, hx]; rfl, show f.route.getD j 0 = y by rw [List.getD_eq_getElem?_getD, hy]; rfl] at hns
      have hns := Lib.hid hns
      have k1 := hok.low
      have k2 := hok.high
      have hxr := hp.out x (List.mem_of_getElem? hx)
      have hxr := Lib.hid hxr
      obtain ⟨g, cap, rfl, hg1, hg2⟩ : ∃ g cap, u6 = .slice (some ⟨g, 0, none⟩) (f.atList (legOf xs) (j + 1)).length cap ∧ Wb.heap.size ≤ g ∧ g < wr.heap.size := by
        rcases hown.form with ⟨h0, _⟩ | h0
        · have := f.atList_length (legOf xs) (j + 1)
          rw [h0] at this
          simp at this
        · exact h0
      have hcl := (hown.cell (fun _ => rfl) (j := j) (i := 0) (by rw [Flight.atList_length]; omega) (by omega)).1
      have hcv : (f.atList (legOf xs) (j + 1))[j]'(by rw [Flight.atList_length]; omega) = f.nowAt (legOf xs) (j + 1) := by
        have h1 := Flight.atList_at f (legOf xs) (k := j + 1) (j := j) (by omega)
        rw [List.getElem?_eq_getElem (by rw [Flight.atList_length]; omega)] at h1
        exact Option.some.inj h1
      rw [hcv] at hcl
      simp only [Nat.mul_one, Nat.add_zero, encInt, List.getElem?_cons_zero] at hcl
      have hown' := Lib.hid hown
      have hob := Lib.hid (fun g' (hg' : (Value.slice (some ⟨g, 0, none⟩) (f.atList (legOf xs) (j + 1)).length cap).ownBlock = some g') => (hown.lt hg').1)
      clear hown
      rw [Flight.atList_length] at hown'
      have hu1 : IntKind.i64.wrap ((j : Int) + 1 - 1) = (j : Int) := by rw [IntWalk.i64_in _ (by omega)]; omega
      have hu2 : IntKind.i64.wrap (j : Int) = (j : Int) := IntWalk.i64_in _ (by omega)
      have hu3 : (0 : Int) ≤ (j : Int) := by omega
      have hu4 : (j : Int) < (f.route.length : Int) := by omega
      have hu5 : (0 : Int) ≤ (j : Int) + 1 := by omega
      have hu6 : (j : Int) + 1 < (f.route.length : Int) := by omega
      have hu7 : ((j : Int) + 1).toNat = j + 1 := by omega
      rw [Flight.atList_length]
      rw [Flight.atList_length] at hob
      have hle : (f.atList (legOf xs) (j + 1)).length = j + 1 := Flight.atList_length _ _ _
      by_cases hl : legOf xs y x < 0
      · have hbad := Lib.hid (joined_bad (L := legOf xs) hx hy hl)
        clear hok hx hy
        go_wp2_with fail
        refine name_world (R := fun W => Code.wp _ _ _ _ W) fun W0 hx0 hc0 hf0 hz0 => ?_
        clear hc0 hf0 hz0
        have r0 := (hx0.cells.1 _ _ gl).trans g0
        have r1 := (hx0.cells.1 _ _ hb0).trans c0
        have r2 := (hx0.cells.1 _ _ hb0).trans c1
        have r3 := (hx0.cells.1 _ _ hg2).trans hcl
        have z0 := hx0.cells.2.2 _ gl
        have z1 := hx0.cells.2.2 _ hb0
        have z2 := hx0.cells.2.2 _ hg2
        clear g0 c0 c1 hcl
        go_region_held3 (fun w' => HoldsAll W0 w') ((with_reducible ((repeat refine HoldsAll.drew ?_); first | (first | assumption | exact HoldsAll.refl _ | exact HoldsAll.of_drew (by assumption)) | (refine HoldsAll.ext ?_ (by assumption); first | assumption | exact HoldsAll.refl _ | exact HoldsAll.of_drew (by assumption)) | (refine HoldsAll.alloc ?_ _; first | assumption | exact HoldsAll.refl _ | exact HoldsAll.of_drew (by assumption)) | exact HoldsAll.realloc (by first | assumption | exact HoldsAll.refl _ | exact HoldsAll.of_drew (by assumption)) (by omega) | ((repeat first | refine HoldsAll.fresh ?_ (by omega) _); first | assumption | exact HoldsAll.refl _ | exact HoldsAll.of_drew (by assumption))))) (first | (go_at_call 103; refine (leg_103 xs A nx c _ _ _ (hX.out.ext (by with_reducible (repeat first | assumption | exact Ext.refl _ | refine Ext.set ?_ (by omega) _ | refine Ext.alloc ?_ _ | refine Ext.drew ?_ | refine Ext.drewN ?_ _ | refine Ext.trans ?_ (by assumption))))).mono ?_; rintro e1 w1 ⟨rfl, hb1⟩))
        clear hu1 hu2 hu7
        go_wp2_with fail
        go_ret2
        exact FlownPost.no hbad.out (by with_reducible (repeat first | assumption | exact Ext.refl _ | refine Ext.set ?_ (by omega) _ | refine Ext.alloc ?_ _ | refine Ext.drew ?_ | refine Ext.drewN ?_ _ | refine Ext.trans ?_ (by assumption)))
      · have hok2 := Lib.hid (hok.succ hx hy hxr.out (by omega) v2)
        clear hok hx hy
        go_wp2_with fail
        refine name_world (R := fun W => Code.wp _ _ _ _ W) fun W0 hx0 hc0 hf0 hz0 => ?_
        clear hc0 hf0 hz0
        have r0 := (hx0.cells.1 _ _ gl).trans g0
        have r1 := (hx0.cells.1 _ _ hb0).trans c0
        have r2 := (hx0.cells.1 _ _ hb0).trans c1
        have r3 := (hx0.cells.1 _ _ hg2).trans hcl
        have z0 := hx0.cells.2.2 _ gl
        have z1 := hx0.cells.2.2 _ hb0
        have z2 := hx0.cells.2.2 _ hg2
        clear g0 c0 c1 hcl
        go_region_held3 (fun w' => HoldsAll W0 w') ((with_reducible ((repeat refine HoldsAll.drew ?_); first | (first | assumption | exact HoldsAll.refl _ | exact HoldsAll.of_drew (by assumption)) | (refine HoldsAll.ext ?_ (by assumption); first | assumption | exact HoldsAll.refl _ | exact HoldsAll.of_drew (by assumption)) | (refine HoldsAll.alloc ?_ _; first | assumption | exact HoldsAll.refl _ | exact HoldsAll.of_drew (by assumption)) | exact HoldsAll.realloc (by first | assumption | exact HoldsAll.refl _ | exact HoldsAll.of_drew (by assumption)) (by omega) | ((repeat first | refine HoldsAll.fresh ?_ (by omega) _); first | assumption | exact HoldsAll.refl _ | exact HoldsAll.of_drew (by assumption))))) (first | (go_at_call 103; refine (leg_103 xs A nx c _ _ _ (hX.out.ext (by with_reducible (repeat first | assumption | exact Ext.refl _ | refine Ext.set ?_ (by omega) _ | refine Ext.alloc ?_ _ | refine Ext.drew ?_ | refine Ext.drewN ?_ _ | refine Ext.trans ?_ (by assumption))))).mono ?_; rintro e1 w1 ⟨rfl, hb1⟩))
        clear hu1 hu2 hu7
        have hsz1 : Wb.heap.size ≤ w1.heap.size := Nat.le_trans hes ((by with_reducible (repeat first | assumption | exact Ext.refl _ | refine Ext.set ?_ (by omega) _ | refine Ext.alloc ?_ _ | refine Ext.drew ?_ | refine Ext.drewN ?_ _ | refine Ext.trans ?_ (by assumption))) : Ext wr w1).size
        go_wp2_with (at_builtin; go_loud (refine append_one e_int encInt (fun _ => rfl) encInt_one rfl _ _ rfl Wb.heap.size (.slice (some ⟨g, 0, none⟩) (j + 1) cap) (f.atList (legOf xs) (j + 1)) rfl (f.nowAt (legOf xs) (j + 1) + legOf xs y x) #[.int .i64 (f.nowAt (legOf xs) (j + 1) + legOf xs y x)] rfl _ rfl (by first | rfl | simp) (hown'.out.ext (by with_reducible (repeat first | assumption | exact Ext.refl _ | refine Ext.set ?_ (by omega) _ | refine Ext.alloc ?_ _ | refine Ext.drew ?_ | refine Ext.drewN ?_ _ | refine Ext.trans ?_ (by assumption)))) (by first | omega | (simp; omega)) (by omega) ?_); intro v' w2 hown2 hgrow)
        go_roundw
        case rel => exact ⟨j + 1 + 1, by omega, by omega, by go_num, by rw [Flight.atList_succ, hns.out]; exact hown2, grown_ext Wb (he.trans ((by with_reducible (repeat first | assumption | exact Ext.refl _ | refine Ext.set ?_ (by omega) _ | refine Ext.alloc ?_ _ | refine Ext.drew ?_ | refine Ext.drewN ?_ _ | refine Ext.trans ?_ (by assumption))) : Ext wr _)) (Nat.le_refl _) (fun g' hg' => hob.out g' hg') hgrow, hok2.out⟩
        case measure => simp [intOf]; omega
    · obtain rfl : k = f.route.length := by omega
      have hj : joined (legOf xs) f.route f.last = true := hok.legs
      have hj := Lib.hid hj
      obtain ⟨g, cap, rfl, hg1, hg2⟩ : ∃ g cap, u6 = .slice (some ⟨g, 0, none⟩) (f.atList (legOf xs) f.route.length).length cap ∧ Wb.heap.size ≤ g ∧ g < wr.heap.size := by
        rcases hown.form with ⟨h0, _⟩ | h0
        · have := f.atList_length (legOf xs) f.route.length
          rw [h0] at this
          simp at this; omega
        · exact h0
      obtain ⟨-, hRw⟩ := hown.ints (by rw [Flight.atList_length]; omega)
      rw [Flight.atList_length] at hRw ⊢
      have hRw := Lib.hid hRw
      clear hown hok
      go_wp2_with fail
      go_ret2
      exact FlownPost.yes hj.out hRw.out (by with_reducible (repeat first | assumption | exact Ext.refl _ | refine Ext.set ?_ (by omega) _ | refine Ext.alloc ?_ _ | refine Ext.drew ?_ | refine Ext.drewN ?_ _ | refine Ext.trans ?_ (by assumption)))
end Go.Proofs.YtmmimbcfgobnaaaGreat
