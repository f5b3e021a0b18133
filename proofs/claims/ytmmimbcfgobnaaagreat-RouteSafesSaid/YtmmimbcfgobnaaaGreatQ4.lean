/- The reference: flown, right, Check, Arrive. The reference: right, Check. The reference: Check, CheckMinima, checkAll, Arrive, end. -/
import Derived.Test.YtmmimbcfgobnaaaGreatQ1
import Derived.Test.YtmmimbcfgobnaaaGreatR11
set_option linter.unusedVariables false
set_option linter.unusedSimpArgs false
namespace Go.Proofs.YtmmimbcfgobnaaaGreat
open Go.RowKit
set_option linter.unusedVariables false
set_option linter.unusedSimpArgs false
attribute [local go_sem] stored_match isSome_setCell

theorem Owns.one {w : World} {base b : Nat} {x : Int} (hb : base ≤ b) (h : w.heap[b]? = some (.cells #[.int .i64 x] 3 (0, 0))) : Owns 3 1 encInt w base (.slice (some ⟨b, 0, none⟩) 1 1) [x] :=
  ⟨by simp [cellsOf, encInt], .inr ⟨b, 1, _, rfl, hb, h, Nat.le_refl _, by unfold maxLen; omega, by simp, by simp [cellsOf, encInt]⟩⟩
theorem heap_alloc_new' (w : World) (o : Obj) {b : Nat} (h : b = w.heap.size) : (w.alloc o).heap[b]? = some o := by
  subst h
  show (w.heap.push _)[w.heap.size]? = _
  simp
def FlownPost (f : Flight) (L : Tab) (w : World) (e : Ending) (w' : World) : Prop :=
  (joined L f.route f.last = true → ∃ A c, e = .returned (.tuple #[.slice A f.route.length c, .bool true]) ∧ Rows 1 encInt w' A f.route.length (f.atList L f.route.length)) ∧ (joined L f.route f.last = false → e = .returned (.tuple #[.slice none 0 0, .bool false])) ∧ Ext w w'
theorem FlownPost.no {f : Flight} {L : Tab} {w w' : World} (h : joined L f.route f.last = false) (e : Ext w w') : FlownPost f L w (.returned (.tuple #[.slice none 0 0, .bool false])) w' :=
  ⟨fun g => by rw [h] at g; exact absurd g (by decide), fun _ => rfl, e⟩
theorem FlownPost.yes {f : Flight} {L : Tab} {w w' : World} {A : Option Addr} {c : Nat} (h : joined L f.route f.last = true) (hR : Rows 1 encInt w' A f.route.length (f.atList L f.route.length)) (e : Ext w w') : FlownPost f L w (.returned (.tuple #[.slice A f.route.length c, .bool true])) w' :=
  ⟨fun _ => ⟨A, c, rfl, hR⟩, fun g => by rw [h] at g; exact absurd g (by decide), e⟩
theorem joined_bad {f : Flight} {L : Tab} {j : Nat} {x y : Int} (hx : f.route[j + 1]? = some x) (hy : f.route[j]? = some y) (h0 : L y x < 0) : joined L f.route f.last = false := by
  have ex : f.route.getD (j + 1) 0 = x := by rw [List.getD_eq_getElem?_getD, hx]; rfl
  have ey : f.route.getD j 0 = y := by rw [List.getD_eq_getElem?_getD, hy]; rfl
  have hl : j + 1 < f.route.length := (List.getElem?_eq_some_iff.1 hx).1
  exact joined_false (L := L) (r := f.route) (j := j) (by rw [ex, ey]; omega) f.last (by unfold Flight.last; omega)
set_option maxRecDepth 100000 in
set_option maxHeartbeats 2000000 in
theorem flown_67 (xs : List Leg) (f : Flight) (places : Int) (A : Option Addr) (nx c : Nat) (AR : Option Addr) (nR cR : Nat) (w : World) (hX : Rows 3 Leg.enc w A nx xs) (hR : Rows 1 encInt w AR nR f.route) (hL : (legOf xs).upto 200) (h1 : 1 ≤ f.route.length) (h8 : f.route.length ≤ 1000) (hd : 0 ≤ f.depart ∧ f.depart ≤ 2000) (hp : ∀ p ∈ f.route, 0 ≤ p ∧ p ≤ places - 1) :
    Calls Tryz.prog 67 #[.slice A nx c, f.val (.slice AR nR cR)] w (FlownPost f (legOf xs) w) := by
  obtain rfl := hR.len
  obtain ⟨x0, hx0⟩ : ∃ x0, f.route[0]? = some x0 := ⟨_, List.getElem?_eq_getElem (by omega)⟩
  have hok1 := (RouteOk.zero (places := places) (L := legOf xs) hd).one hx0 (hp _ (List.mem_of_getElem? hx0))
  have hok1 := Lib.hid hok1
  have hlast : f.last + 1 = f.route.length := by unfold Flight.last; omega
  have hp := Lib.hid hp
  have hR := Lib.hid hR
  have hX := Lib.hid hX
  have hL := Lib.hid hL
  obtain ⟨d1, d2⟩ := hd
  simp only [Flight.val]
  go_enter Tryz.func67, Tryz.ntmps67
  go_wp2_with fail
  refine name_world (R := fun W => Code.wp _ _ _ _ W) fun W1 hx1 hc1 hf1 hz1 => ?_
  have hxw : Ext w W1 := (by with_reducible (repeat first | assumption | exact Ext.refl _ | refine Ext.set ?_ (by omega) _ | refine Ext.alloc ?_ _ | refine Ext.drew ?_ | refine Ext.drewN ?_ _ | refine Ext.trans ?_ (by assumption)))
  obtain ⟨Wb, hB, hwB, q0, hsz⟩ : ∃ Wb, Ext Wb W1 ∧ Ext w Wb ∧ Wb.cell? ⟨w.heap.size, 0, none⟩ = some (.slice AR f.route.length cR) ∧ Wb.heap.size = w.heap.size + 1 := ⟨w.alloc (.cells #[.slice AR f.route.length cR, .int .i64 f.depart, .int .i64 f.fuel, .int .i64 f.burn, .int .i64 f.reserve] 37), Ext.trans (Ext.alloc (Ext.refl _) _) hx1, (by with_reducible (repeat first | assumption | exact Ext.refl _ | refine Ext.set ?_ (by omega) _ | refine Ext.alloc ?_ _ | refine Ext.drew ?_ | refine Ext.drewN ?_ _ | refine Ext.trans ?_ (by assumption))), by go_simp, by simp⟩
  have hblk : W1.heap[w.heap.size + 1]? = some (.cells #[.int .i64 f.depart] 3 (0, 0)) := by
    rw [hx1.below.block (w.heap.size + 1) (by simp)]
    exact heap_alloc_new' _ _ (by simp)
  have hO : Owns 3 1 encInt W1 Wb.heap.size (.slice (some ⟨w.heap.size + 1, 0, none⟩) 1 1) (f.atList (legOf xs) 1) := Owns.one (by omega) hblk
  have hlB : w.heap.size < Wb.heap.size := by omega
  clear hc1 hf1 hz1 hx1 hblk
  go_loopw [6, 7] (fun v i wr => ∃ k : Nat, 1 ≤ k ∧ k ≤ f.route.length ∧ i = .int .i64 k ∧ Owns 3 1 encInt wr Wb.heap.size v (f.atList (legOf xs) k) ∧ Ext Wb wr ∧ RouteOk f places (legOf xs) k) (fun _ i _ => f.route.length - (intOf i).toNat)
  case atStart => exact ⟨1, Nat.le_refl _, h1, rfl, hO, hB, hok1.out⟩
  case round =>
    clear hO
    obtain ⟨k, hk1, hk, rfl, hown, he, hok⟩ := hrel
    have g0 := (he.cells.1 _ _ hlB).trans q0
    have gl := he.cells.2.2 _ hlB
    have hew : Ext w wr := hwB.trans he
    have hes := he.size
    by_cases hlt : k < f.route.length
    · obtain ⟨x, hx⟩ : ∃ x, f.route[k]? = some x := ⟨_, List.getElem?_eq_getElem hlt⟩
      obtain ⟨j, rfl⟩ : ∃ j, k = j + 1 := ⟨k - 1, by omega⟩
      obtain ⟨y, hy⟩ : ∃ y, f.route[j]? = some y := ⟨_, List.getElem?_eq_getElem (by omega)⟩
      obtain ⟨b0, off, hAR, hb0, c0⟩ := (hR.out.ext hew).intx hlt hx
      obtain ⟨b0', off', hAR', hb0', c1⟩ := (hR.out.ext hew).intx (by omega) hy
      rw [hAR] at hAR'
      simp only [Option.some.injEq, Addr.mk.injEq, and_true] at hAR'
      obtain ⟨rfl, rfl⟩ := hAR'
      subst hAR
      obtain ⟨v1, v2⟩ := hL.out y x
      have hns := f.nowAt_succ (legOf xs) j
      rw [show f.route.getD (j + 1) 0 = x by rw [List.getD_eq_getElem?_getD, hx]; rfl, show f.route.getD j 0 = y by rw [List.getD_eq_getElem?_getD, hy]; rfl] at hns
      have hns := Lib.hid hns
      have k1 := hok.low
      have k2 := hok.high
      have hxr := hp.out x (List.mem_of_getElem? hx)
      have hxr := Lib.hid hxr
      obtain ⟨g, cap, rfl, hg1, hg2⟩ : ∃ g cap, u6 = .slice (some ⟨g, 0, none⟩) (f.atList (legOf xs) (j + 1)).length cap ∧ Wb.heap.size ≤ g ∧ g < wr.heap.size := by
        rcases hown.form with ⟨h0, _⟩ | h0
        · have := f.atList_length (legOf xs) (j + 1)
          rw [h0] at this
          simp at this
        · exact h0
      have hcl := (hown.cell (fun _ => rfl) (j := j) (i := 0) (by rw [Flight.atList_length]; omega) (by omega)).1
      have hcv : (f.atList (legOf xs) (j + 1))[j]'(by rw [Flight.atList_length]; omega) = f.nowAt (legOf xs) (j + 1) := by
        have h1 := Flight.atList_at f (legOf xs) (k := j + 1) (j := j) (by omega)
        rw [List.getElem?_eq_getElem (by rw [Flight.atList_length]; omega)] at h1
        exact Option.some.inj h1
      rw [hcv] at hcl
      simp only [Nat.mul_one, Nat.add_zero, encInt, List.getElem?_cons_zero] at hcl
      have hown' := Lib.hid hown
      have hob := Lib.hid (fun g' (hg' : (Value.slice (some ⟨g, 0, none⟩) (f.atList (legOf xs) (j + 1)).length cap).ownBlock = some g') => (hown.lt hg').1)
      clear hown
      rw [Flight.atList_length] at hown'
      have hu1 : IntKind.i64.wrap ((j : Int) + 1 - 1) = (j : Int) := by rw [IntWalk.i64_in _ (by omega)]; omega
      have hu2 : IntKind.i64.wrap (j : Int) = (j : Int) := IntWalk.i64_in _ (by omega)
      have hu3 : (0 : Int) ≤ (j : Int) := by omega
      have hu4 : (j : Int) < (f.route.length : Int) := by omega
      have hu5 : (0 : Int) ≤ (j : Int) + 1 := by omega
      have hu6 : (j : Int) + 1 < (f.route.length : Int) := by omega
      have hu7 : ((j : Int) + 1).toNat = j + 1 := by omega
      rw [Flight.atList_length]
      rw [Flight.atList_length] at hob
      have hle : (f.atList (legOf xs) (j + 1)).length = j + 1 := Flight.atList_length _ _ _
      by_cases hl : legOf xs y x < 0
      · have hbad := Lib.hid (joined_bad (L := legOf xs) hx hy hl)
        clear hok hx hy
        go_wp2_with fail
        refine name_world (R := fun W => Code.wp _ _ _ _ W) fun W0 hx0 hc0 hf0 hz0 => ?_
        clear hc0 hf0 hz0
        have r0 := (hx0.cells.1 _ _ gl).trans g0
        have r1 := (hx0.cells.1 _ _ hb0).trans c0
        have r2 := (hx0.cells.1 _ _ hb0).trans c1
        have r3 := (hx0.cells.1 _ _ hg2).trans hcl
        have z0 := hx0.cells.2.2 _ gl
        have z1 := hx0.cells.2.2 _ hb0
        have z2 := hx0.cells.2.2 _ hg2
        clear g0 c0 c1 hcl
        go_region_held3 (fun w' => HoldsAll W0 w') ((with_reducible ((repeat refine HoldsAll.drew ?_); first | (first | assumption | exact HoldsAll.refl _ | exact HoldsAll.of_drew (by assumption)) | (refine HoldsAll.ext ?_ (by assumption); first | assumption | exact HoldsAll.refl _ | exact HoldsAll.of_drew (by assumption)) | (refine HoldsAll.alloc ?_ _; first | assumption | exact HoldsAll.refl _ | exact HoldsAll.of_drew (by assumption)) | exact HoldsAll.realloc (by first | assumption | exact HoldsAll.refl _ | exact HoldsAll.of_drew (by assumption)) (by omega) | ((repeat first | refine HoldsAll.fresh ?_ (by omega) _); first | assumption | exact HoldsAll.refl _ | exact HoldsAll.of_drew (by assumption))))) (first | (go_at_call 103; refine (leg_103 xs A nx c _ _ _ (hX.out.ext (by with_reducible (repeat first | assumption | exact Ext.refl _ | refine Ext.set ?_ (by omega) _ | refine Ext.alloc ?_ _ | refine Ext.drew ?_ | refine Ext.drewN ?_ _ | refine Ext.trans ?_ (by assumption))))).mono ?_; rintro e1 w1 ⟨rfl, hb1⟩))
        clear hu1 hu2 hu7
        go_wp2_with fail
        go_ret2
        exact FlownPost.no hbad.out (by with_reducible (repeat first | assumption | exact Ext.refl _ | refine Ext.set ?_ (by omega) _ | refine Ext.alloc ?_ _ | refine Ext.drew ?_ | refine Ext.drewN ?_ _ | refine Ext.trans ?_ (by assumption)))
      · have hok2 := Lib.hid (hok.succ hx hy hxr.out (by omega) v2)
        clear hok hx hy
        go_wp2_with fail
        refine name_world (R := fun W => Code.wp _ _ _ _ W) fun W0 hx0 hc0 hf0 hz0 => ?_
        clear hc0 hf0 hz0
        have r0 := (hx0.cells.1 _ _ gl).trans g0
        have r1 := (hx0.cells.1 _ _ hb0).trans c0
        have r2 := (hx0.cells.1 _ _ hb0).trans c1
        have r3 := (hx0.cells.1 _ _ hg2).trans hcl
        have z0 := hx0.cells.2.2 _ gl
        have z1 := hx0.cells.2.2 _ hb0
        have z2 := hx0.cells.2.2 _ hg2
        clear g0 c0 c1 hcl
        go_region_held3 (fun w' => HoldsAll W0 w') ((with_reducible ((repeat refine HoldsAll.drew ?_); first | (first | assumption | exact HoldsAll.refl _ | exact HoldsAll.of_drew (by assumption)) | (refine HoldsAll.ext ?_ (by assumption); first | assumption | exact HoldsAll.refl _ | exact HoldsAll.of_drew (by assumption)) | (refine HoldsAll.alloc ?_ _; first | assumption | exact HoldsAll.refl _ | exact HoldsAll.of_drew (by assumption)) | exact HoldsAll.realloc (by first | assumption | exact HoldsAll.refl _ | exact HoldsAll.of_drew (by assumption)) (by omega) | ((repeat first | refine HoldsAll.fresh ?_ (by omega) _); first | assumption | exact HoldsAll.refl _ | exact HoldsAll.of_drew (by assumption))))) (first | (go_at_call 103; refine (leg_103 xs A nx c _ _ _ (hX.out.ext (by with_reducible (repeat first | assumption | exact Ext.refl _ | refine Ext.set ?_ (by omega) _ | refine Ext.alloc ?_ _ | refine Ext.drew ?_ | refine Ext.drewN ?_ _ | refine Ext.trans ?_ (by assumption))))).mono ?_; rintro e1 w1 ⟨rfl, hb1⟩))
        clear hu1 hu2 hu7
        have hsz1 : Wb.heap.size ≤ w1.heap.size := Nat.le_trans hes ((by with_reducible (repeat first | assumption | exact Ext.refl _ | refine Ext.set ?_ (by omega) _ | refine Ext.alloc ?_ _ | refine Ext.drew ?_ | refine Ext.drewN ?_ _ | refine Ext.trans ?_ (by assumption))) : Ext wr w1).size
        go_wp2_with (at_builtin; go_loud (refine append_one e_int encInt (fun _ => rfl) encInt_one rfl _ _ rfl Wb.heap.size (.slice (some ⟨g, 0, none⟩) (j + 1) cap) (f.atList (legOf xs) (j + 1)) rfl (f.nowAt (legOf xs) (j + 1) + legOf xs y x) #[.int .i64 (f.nowAt (legOf xs) (j + 1) + legOf xs y x)] rfl _ rfl (by first | rfl | simp) (hown'.out.ext (by with_reducible (repeat first | assumption | exact Ext.refl _ | refine Ext.set ?_ (by omega) _ | refine Ext.alloc ?_ _ | refine Ext.drew ?_ | refine Ext.drewN ?_ _ | refine Ext.trans ?_ (by assumption)))) (by first | omega | (simp; omega)) (by omega) ?_); intro v' w2 hown2 hgrow)
        go_roundw
        case rel => exact ⟨j + 1 + 1, by omega, by omega, by go_num, by rw [Flight.atList_succ, hns.out]; exact hown2, grown_ext Wb (he.trans ((by with_reducible (repeat first | assumption | exact Ext.refl _ | refine Ext.set ?_ (by omega) _ | refine Ext.alloc ?_ _ | refine Ext.drew ?_ | refine Ext.drewN ?_ _ | refine Ext.trans ?_ (by assumption))) : Ext wr _)) (Nat.le_refl _) (fun g' hg' => hob.out g' hg') hgrow, hok2.out⟩
        case measure => simp [intOf]; omega
    · obtain rfl : k = f.route.length := by omega
      have hj : joined (legOf xs) f.route f.last = true := hok.legs
      have hj := Lib.hid hj
      obtain ⟨g, cap, rfl, hg1, hg2⟩ : ∃ g cap, u6 = .slice (some ⟨g, 0, none⟩) (f.atList (legOf xs) f.route.length).length cap ∧ Wb.heap.size ≤ g ∧ g < wr.heap.size := by
        rcases hown.form with ⟨h0, _⟩ | h0
        · have := f.atList_length (legOf xs) f.route.length
          rw [h0] at this
          simp at this; omega
        · exact h0
      obtain ⟨-, hRw⟩ := hown.ints (by rw [Flight.atList_length]; omega)
      rw [Flight.atList_length] at hRw ⊢
      have hRw := Lib.hid hRw
      clear hown hok
      go_wp2_with fail
      go_ret2
      exact FlownPost.yes hj.out hRw.out (by with_reducible (repeat first | assumption | exact Ext.refl _ | refine Ext.set ?_ (by omega) _ | refine Ext.alloc ?_ _ | refine Ext.drew ?_ | refine Ext.drewN ?_ _ | refine Ext.trans ?_ (by assumption)))
end Go.Proofs.YtmmimbcfgobnaaaGreat
namespace Go.Proofs.YtmmimbcfgobnaaaGreat
open Go.RowKit
set_option linter.unusedVariables false
set_option linter.unusedSimpArgs false
attribute [local go_sem] stored_match isSome_setCell

theorem Net.legOf_eq {N : Net} (h : N.good = true) : legOf N.net = N.L := by
  unfold Net.good at h
  simp only [Bool.and_eq_true, decide_eq_true_eq, List.all_eq_true] at h
  exact (legTab_eq fun x hx => (Leg.ok_parts (h.2 x hx)).2.2.1).symm
theorem Flight.good_places {f : Flight} {places : Int} {L : Tab} (hp : f.plain = true) (ha : f.route.all (fun p => within p 0 (places - 1)) = true) : f.good places L = (joined L f.route f.last && decide (f.arrival L ≤ 2000)) := by
  unfold Flight.good
  rw [hp, ha, Bool.true_and, Bool.true_and]
set_option maxRecDepth 100000 in
set_option maxHeartbeats 2000000 in
theorem right_65 (m : Met) (xs : List Leg) (f : Flight) (AF AS : Option Addr) (nF cF nS cS : Nat) (A : Option Addr) (nx c : Nat) (AR : Option Addr) (nR cR : Nat) (w : World) (hX : Rows 3 Leg.enc w A nx xs) (hR : Rows 1 encInt w AR nR f.route) (hg : (Net.mk m xs).good = true) :
    Calls Tryz.prog 65 #[m.val (.slice AF nF cF) (.slice AS nS cS), .slice A nx c, f.val (.slice AR nR cR)] w fun e w' => e = .returned (.bool (f.good m.places (Net.mk m xs).L)) ∧ Ext w w' := by
  obtain rfl := hR.len
  have hsm := hR.small
  obtain ⟨-, ⟨p1, p8⟩, -, hLu, -⟩ := Net.good_parts hg
  rw [← Net.legOf_eq hg] at hLu ⊢
  dsimp only at p1 p8 hLu ⊢
  clear hg
  simp only [Met.val, Flight.val]
  rcases Bool.eq_false_or_eq_true f.plain with hp | hp
  · obtain ⟨⟨d1, d2⟩, ⟨d3, d4⟩, ⟨d5, d6⟩, ⟨d7, d8⟩, ⟨d9, d10⟩⟩ := Flight.plain_parts hp
    have w1 : within (f.route.length : Int) 1 8 = true := within_true.2 (by omega)
    have w2 : within f.depart 0 2000 = true := within_true.2 (by omega)
    have w3 : within f.fuel 0 100000 = true := within_true.2 (by omega)
    have w4 : within f.reserve 0 100000 = true := within_true.2 (by omega)
    have w5 : within f.burn 1 100000 = true := within_true.2 (by omega)
    have hp := Lib.hid hp
    have hR' := Lib.hid hR
    have hX' := Lib.hid hX
    have hLu := Lib.hid hLu
    clear hR hX
    go_enter Tryz.func65, Tryz.ntmps65
    go_wp2_with (go_at_call 62; refine (within_62 _ _ _ _).mono ?_; rintro e1 w1 ⟨rfl, rfl⟩)
    refine name_world (R := fun W => Code.wp _ _ _ _ W) fun W1 hx1 hc1 hf1 hz1 => ?_
    have hxw : Ext w W1 := (by with_reducible (repeat first | assumption | exact Ext.refl _ | refine Ext.set ?_ (by omega) _ | refine Ext.alloc ?_ _ | refine Ext.drew ?_ | refine Ext.drewN ?_ _ | refine Ext.trans ?_ (by assumption)))
    simp at hz1
    have q0 : W1.cell? ⟨w.heap.size, 0, none⟩ = some (.int .i64 m.places) := by go_simp
    have f0 : W1.cell? ⟨w.heap.size + 1, 0, none⟩ = some (.slice AR f.route.length cR) := by go_simp
    have f1 : W1.cell? ⟨w.heap.size + 1, 1, none⟩ = some (.int .i64 f.depart) := by go_simp
    have f2 : W1.cell? ⟨w.heap.size + 1, 2, none⟩ = some (.int .i64 f.fuel) := by go_simp
    have f3 : W1.cell? ⟨w.heap.size + 1, 3, none⟩ = some (.int .i64 f.burn) := by go_simp
    have f4 : W1.cell? ⟨w.heap.size + 1, 4, none⟩ = some (.int .i64 f.reserve) := by go_simp
    have hW1 : w.heap.size + 1 < W1.heap.size := by omega
    clear hc1 hf1 hz1 hx1
    go_loopw [7] (fun i wr => ∃ k : Nat, k ≤ f.route.length ∧ i = .int .i64 k ∧ (f.route.take k).all (fun p => within p 0 (m.places - 1)) = true ∧ Ext W1 wr) (fun i _ => f.route.length - (intOf i).toNat)
    case atStart => exact ⟨0, Nat.zero_le _, rfl, rfl, Ext.refl _⟩
    case round =>
      obtain ⟨k, hk, rfl, ha, he⟩ := hrel
      have g0 := (he.cells.1 _ _ (show w.heap.size < W1.heap.size by omega)).trans q0
      have e0 := (he.cells.1 _ _ hW1).trans f0
      have e1 := (he.cells.1 _ _ hW1).trans f1
      have e2 := (he.cells.1 _ _ hW1).trans f2
      have e3 := (he.cells.1 _ _ hW1).trans f3
      have e4 := (he.cells.1 _ _ hW1).trans f4
      have gl := he.cells.2.2 _ hW1
      have hew : Ext w wr := hxw.trans he
      clear q0 f0 f1 f2 f3 f4
      by_cases hlt : k < f.route.length
      · obtain ⟨x, hx⟩ : ∃ x, f.route[k]? = some x := ⟨_, List.getElem?_eq_getElem hlt⟩
        obtain ⟨b0, off, rfl, hb0, c0⟩ := (hR'.out.ext hew).intx hlt hx
        have hst := Lib.hid (all_take_succ (fun p => within p 0 (m.places - 1)) x f.route k hx)
        replace ha := Lib.hid ha
        have hv1 : IntKind.i64.wrap (m.places - 1) = m.places - 1 := IntWalk.i64_in _ (by omega)
        have hv2 : (0 : Int) ≤ (k : Int) := by omega
        have hv3 : (k : Int) < (f.route.length : Int) := by omega
        have gl0 : w.heap.size < wr.heap.size := by omega
        rcases Bool.eq_false_or_eq_true (within x 0 (m.places - 1)) with hw | hw
        · have hok' := Lib.hid hw
          clear hx
          go_wp2_with fail
          refine name_world (R := fun W => Code.wp _ _ _ _ W) fun W0 hx0 hc0 hf0 hz0 => ?_
          clear hc0 hf0 hz0
          have r0 := (hx0.cells.1 _ _ gl0).trans g0
          have r1 := (hx0.cells.1 _ _ gl).trans e0
          have r2 := (hx0.cells.1 _ _ hb0).trans c0
          have z0 := hx0.cells.2.2 _ gl0
          have z1 := hx0.cells.2.2 _ gl
          have z2 := hx0.cells.2.2 _ hb0
          clear g0 e0 e1 e2 e3 e4 c0
          go_region_held3 (fun w' => HoldsAll W0 w') ((with_reducible ((repeat refine HoldsAll.drew ?_); first | (first | assumption | exact HoldsAll.refl _ | exact HoldsAll.of_drew (by assumption)) | (refine HoldsAll.ext ?_ (by assumption); first | assumption | exact HoldsAll.refl _ | exact HoldsAll.of_drew (by assumption)) | (refine HoldsAll.alloc ?_ _; first | assumption | exact HoldsAll.refl _ | exact HoldsAll.of_drew (by assumption)) | exact HoldsAll.realloc (by first | assumption | exact HoldsAll.refl _ | exact HoldsAll.of_drew (by assumption)) (by omega) | ((repeat first | refine HoldsAll.fresh ?_ (by omega) _); first | assumption | exact HoldsAll.refl _ | exact HoldsAll.of_drew (by assumption))))) (first | (go_at_call 62; refine (within_62 _ _ _ _).mono ?_; rintro e1 w1 ⟨rfl, rfl⟩))
          go_wp2_with fail
          go_roundw
          case rel => exact ⟨k + 1, by omega, by go_num, by rw [hst.out, ha.out, hok'.out]; rfl, (by with_reducible (repeat first | assumption | exact Ext.refl _ | refine Ext.set ?_ (by omega) _ | refine Ext.alloc ?_ _ | refine Ext.drew ?_ | refine Ext.drewN ?_ _ | refine Ext.trans ?_ (by assumption)))⟩
          case measure => simp [intOf]; omega
        · have hR := Lib.hid (bad_place (L := legOf xs) hx hw)
          clear hx
          go_wp2_with fail
          refine name_world (R := fun W => Code.wp _ _ _ _ W) fun W0 hx0 hc0 hf0 hz0 => ?_
          clear hc0 hf0 hz0
          have r0 := (hx0.cells.1 _ _ gl0).trans g0
          have r1 := (hx0.cells.1 _ _ gl).trans e0
          have r2 := (hx0.cells.1 _ _ hb0).trans c0
          have z0 := hx0.cells.2.2 _ gl0
          have z1 := hx0.cells.2.2 _ gl
          have z2 := hx0.cells.2.2 _ hb0
          clear g0 e0 e1 e2 e3 e4 c0
          go_region_held3 (fun w' => HoldsAll W0 w') ((with_reducible ((repeat refine HoldsAll.drew ?_); first | (first | assumption | exact HoldsAll.refl _ | exact HoldsAll.of_drew (by assumption)) | (refine HoldsAll.ext ?_ (by assumption); first | assumption | exact HoldsAll.refl _ | exact HoldsAll.of_drew (by assumption)) | (refine HoldsAll.alloc ?_ _; first | assumption | exact HoldsAll.refl _ | exact HoldsAll.of_drew (by assumption)) | exact HoldsAll.realloc (by first | assumption | exact HoldsAll.refl _ | exact HoldsAll.of_drew (by assumption)) (by omega) | ((repeat first | refine HoldsAll.fresh ?_ (by omega) _); first | assumption | exact HoldsAll.refl _ | exact HoldsAll.of_drew (by assumption))))) (first | (go_at_call 62; refine (within_62 _ _ _ _).mono ?_; rintro e1 w1 ⟨rfl, rfl⟩))
          go_wp2_with fail
          go_ret
          exact ⟨by rw [hR.out]; rfl, (by with_reducible (repeat first | assumption | exact Ext.refl _ | refine Ext.set ?_ (by omega) _ | refine Ext.alloc ?_ _ | refine Ext.drew ?_ | refine Ext.drewN ?_ _ | refine Ext.trans ?_ (by assumption)))⟩
      · obtain rfl : k = f.route.length := by omega
        rw [List.take_of_length_le (Nat.le_refl _)] at ha
        have hgd := Lib.hid (Flight.good_places (L := legOf xs) hp.out ha)
        have hpp := Lib.hid (fun p hp' => within_true.1 (List.all_eq_true.1 ha p hp'))
        clear ha
        have hlast : f.last + 1 = f.route.length := by unfold Flight.last; omega
        rcases Bool.eq_false_or_eq_true (joined (legOf xs) f.route f.last) with hj | hj
        · have hj' := Lib.hid hj
          go_wp2_with fail
          refine (flown_67 xs f m.places A nx c AR f.route.length cR _ (hX'.out.ext (by with_reducible (repeat first | assumption | exact Ext.refl _ | refine Ext.set ?_ (by omega) _ | refine Ext.alloc ?_ _ | refine Ext.drew ?_ | refine Ext.drewN ?_ _ | refine Ext.trans ?_ (by assumption)))) (hR'.out.ext (by with_reducible (repeat first | assumption | exact Ext.refl _ | refine Ext.set ?_ (by omega) _ | refine Ext.alloc ?_ _ | refine Ext.drew ?_ | refine Ext.drewN ?_ _ | refine Ext.trans ?_ (by assumption)))) hLu.out d1 (by omega) ⟨d3, d4⟩ hpp.out).mono ?_
          rintro e9 w9 ⟨hyes, -, hb9⟩
          obtain ⟨A9, c9, rfl, hR9⟩ := hyes hj'.out
          clear hyes
          obtain ⟨b9, off9, rfl, hb9', k9⟩ := hR9.intx (j := f.last) (by omega) (Flight.atList_at _ _ (by omega))
          have hv4 : (f.route.length : Int) - 1 = (f.last : Int) := by omega
          have har := Lib.hid (show f.arrival (legOf xs) = f.at (legOf xs) f.last from rfl)
          by_cases hle : f.at (legOf xs) f.last ≤ 2000
          all_goals
            go_wp2_with fail
            go_ret
            exact ⟨by rw [hgd.out, hj'.out, har.out]; simp [hle], (by with_reducible (repeat first | assumption | exact Ext.refl _ | refine Ext.set ?_ (by omega) _ | refine Ext.alloc ?_ _ | refine Ext.drew ?_ | refine Ext.drewN ?_ _ | refine Ext.trans ?_ (by assumption)))⟩
        · have hj' := Lib.hid hj
          go_wp2_with fail
          refine (flown_67 xs f m.places A nx c AR f.route.length cR _ (hX'.out.ext (by with_reducible (repeat first | assumption | exact Ext.refl _ | refine Ext.set ?_ (by omega) _ | refine Ext.alloc ?_ _ | refine Ext.drew ?_ | refine Ext.drewN ?_ _ | refine Ext.trans ?_ (by assumption)))) (hR'.out.ext (by with_reducible (repeat first | assumption | exact Ext.refl _ | refine Ext.set ?_ (by omega) _ | refine Ext.alloc ?_ _ | refine Ext.drew ?_ | refine Ext.drewN ?_ _ | refine Ext.trans ?_ (by assumption)))) hLu.out d1 (by omega) ⟨d3, d4⟩ hpp.out).mono ?_
          rintro e9 w9 ⟨-, hno, hb9⟩
          obtain rfl := hno hj'.out
          clear hno
          go_wp2_with fail
          go_ret
          exact ⟨by rw [hgd.out, hj'.out]; rfl, (by with_reducible (repeat first | assumption | exact Ext.refl _ | refine Ext.set ?_ (by omega) _ | refine Ext.alloc ?_ _ | refine Ext.drew ?_ | refine Ext.drewN ?_ _ | refine Ext.trans ?_ (by assumption)))⟩
  · have hbad := Lib.hid (bad_plain (places := m.places) (L := legOf xs) hp)
    unfold Flight.plain at hp
    have e8 : within (f.route.length : Int) 1 8 = decide (1 ≤ f.route.length ∧ f.route.length ≤ 8) := by
      rw [Bool.eq_iff_iff, within_true, decide_eq_true_eq]; omega
    rw [← e8] at hp
    clear e8
    go_enter Tryz.func65, Tryz.ntmps65
    go_wp2_with (go_at_call 62; refine (within_62 _ _ _ _).mono ?_; rintro e1 w1 ⟨rfl, rfl⟩)
    all_goals
      first
      | (go_ret; exact ⟨by rw [hbad.out]; rfl, (by with_reducible (repeat first | assumption | exact Ext.refl _ | refine Ext.set ?_ (by omega) _ | refine Ext.alloc ?_ _ | refine Ext.drew ?_ | refine Ext.drewN ?_ _ | refine Ext.trans ?_ (by assumption)))⟩)
      | (exfalso; simp_all; done)
end Go.Proofs.YtmmimbcfgobnaaaGreat
namespace Go.Proofs.YtmmimbcfgobnaaaGreat
open Go.RowKit
set_option linter.unusedVariables false
set_option linter.unusedSimpArgs false
attribute [local go_sem] stored_match isSome_setCell

theorem Inp.err0_net {I : Inp} (h : I.N.check ≠ 0) : I.err0 = I.N.check := by unfold Inp.err0; exact Net.checkF_net (N := I.N) (l := none) h
theorem Inp.err0_bad {I : Inp} (h : I.N.check = 0) (hf : I.f.good I.m.places I.N.L = false) : I.err0 = 51 := Net.checkF_bad (N := I.N) (l := none) h hf
theorem Inp.err0_ok {I : Inp} (h : I.N.check = 0) (hf : I.f.good I.m.places I.N.L = true) : I.err0 = 0 := Net.checkF_ok (N := I.N) (l := none) h hf
set_option maxRecDepth 100000 in
set_option maxHeartbeats 2000000 in
theorem Check_25 (I : Inp) (w : World) (h : I.In w) :
    Calls Tryz.prog 25 #[I.vm, I.vn, I.vf] w fun e w' => e = .returned (.int .i64 I.err0) ∧ Ext w w' := by
  simp only [Inp.vm, Inp.vn, Inp.vf, Met.val, Flight.val]
  by_cases hc : I.N.check = 0
  · have hg := Lib.hid (Net.check_good hc)
    rcases Bool.eq_false_or_eq_true (I.f.good I.m.places I.N.L) with hf | hf
    all_goals
      first
      | have hR := Lib.hid (Inp.err0_ok hc hf)
      | have hR := Lib.hid (Inp.err0_bad hc hf)
      replace hf := Lib.hid hf
      go_enter Tryz.func25, Tryz.ntmps25
      go_wp2_with (first | (go_at_call 22; refine (checkNet_22 I.m I.xs I.AF I.AS I.nF I.cF I.nS I.cS I.AX I.nX I.cX _ (h.met.ext (by with_reducible (repeat first | assumption | exact Ext.refl _ | refine Ext.set ?_ (by omega) _ | refine Ext.alloc ?_ _ | refine Ext.drew ?_ | refine Ext.drewN ?_ _ | refine Ext.trans ?_ (by assumption)))) (h.net.ext (by with_reducible (repeat first | assumption | exact Ext.refl _ | refine Ext.set ?_ (by omega) _ | refine Ext.alloc ?_ _ | refine Ext.drew ?_ | refine Ext.drewN ?_ _ | refine Ext.trans ?_ (by assumption))))).mono ?_; rintro e1 w1 ⟨rfl, hb1⟩; obtain ⟨hc1, hf1, hz1⟩ := hb1.cells; have hs1 := hb1.size; (try simp at hs1)) | (go_at_call 65; refine (right_65 I.m I.xs I.f I.AF I.AS I.nF I.cF I.nS I.cS I.AX I.nX I.cX I.AR I.nR I.cR _ (h.net.ext (by with_reducible (repeat first | assumption | exact Ext.refl _ | refine Ext.set ?_ (by omega) _ | refine Ext.alloc ?_ _ | refine Ext.drew ?_ | refine Ext.drewN ?_ _ | refine Ext.trans ?_ (by assumption)))) (h.route.ext (by with_reducible (repeat first | assumption | exact Ext.refl _ | refine Ext.set ?_ (by omega) _ | refine Ext.alloc ?_ _ | refine Ext.drew ?_ | refine Ext.drewN ?_ _ | refine Ext.trans ?_ (by assumption)))) hg.out).mono ?_; rw [hf.out]; rintro e1 w2 ⟨rfl, hb2⟩))
      go_ret
      exact ⟨by rw [hR.out]; rfl, (by with_reducible (repeat first | assumption | exact Ext.refl _ | refine Ext.set ?_ (by omega) _ | refine Ext.alloc ?_ _ | refine Ext.drew ?_ | refine Ext.drewN ?_ _ | refine Ext.trans ?_ (by assumption)))⟩
  · have hR := Lib.hid (Inp.err0_net hc)
    have hbb : (I.N.check == (0 : Int)) = false := beq_eq_false_iff_ne.2 hc
    have hbn : (I.N.check != (0 : Int)) = true := by rw [bne_iff_ne]; exact hc
    replace hc := Lib.hid hc
    go_enter Tryz.func25, Tryz.ntmps25
    go_wp2_with (go_at_call 22; refine (checkNet_22 I.m I.xs I.AF I.AS I.nF I.cF I.nS I.cS I.AX I.nX I.cX _ (h.met.ext (by with_reducible (repeat first | assumption | exact Ext.refl _ | refine Ext.set ?_ (by omega) _ | refine Ext.alloc ?_ _ | refine Ext.drew ?_ | refine Ext.drewN ?_ _ | refine Ext.trans ?_ (by assumption)))) (h.net.ext (by with_reducible (repeat first | assumption | exact Ext.refl _ | refine Ext.set ?_ (by omega) _ | refine Ext.alloc ?_ _ | refine Ext.drew ?_ | refine Ext.drewN ?_ _ | refine Ext.trans ?_ (by assumption))))).mono ?_; rintro e1 w1 ⟨rfl, hb1⟩; obtain ⟨hc1, hf1, hz1⟩ := hb1.cells; have hs1 := hb1.size; (try simp at hs1))
    go_ret
    exact ⟨by rw [hR.out]; rfl, (by with_reducible (repeat first | assumption | exact Ext.refl _ | refine Ext.set ?_ (by omega) _ | refine Ext.alloc ?_ _ | refine Ext.drew ?_ | refine Ext.drewN ?_ _ | refine Ext.trans ?_ (by assumption)))⟩
set_option maxRecDepth 100000 in
set_option maxHeartbeats 2000000 in
theorem checkMinima_68 (m : Met) (l : Minima) (AF AS : Option Addr) (nF cF nS cS : Nat) (w : World) (hm : MetIn w m AF nF AS nS) :
    Calls Tryz.prog 68 #[m.val (.slice AF nF cF) (.slice AS nS cS), l.val] w fun e w' => e = .returned (.int .i64 (checkMinima m l)) ∧ Ext w w' := by
  simp only [Met.val, Minima.val]
  rcases Bool.eq_false_or_eq_true m.good with hg | hg
  · have hck : m.check = 0 := check_good.2 hg
    have hR : checkMinima m l = if l.good = true then 0 else 41 := by unfold checkMinima; rw [if_pos hg]
    have hR := Lib.hid hR
    go_enter Tryz.func68, Tryz.ntmps68
    go_wp2_with (first | (go_at_call 33; refine (check_33 m AF AS nF cF nS cS _ (hm.ext (by with_reducible (repeat first | assumption | exact Ext.refl _ | refine Ext.set ?_ (by omega) _ | refine Ext.alloc ?_ _ | refine Ext.drew ?_ | refine Ext.drewN ?_ _ | refine Ext.trans ?_ (by assumption))))).mono ?_; rintro e1 w1 ⟨rfl, hb1⟩; obtain ⟨hc1, hf1, hz1⟩ := hb1.cells; have hs1 := hb1.size; (try simp at hs1)) | (go_at_call 71; refine (from_71 _ _ _ _).mono ?_; rintro e1 w1 ⟨rfl, rfl⟩))
    all_goals
      go_ret
      exact ⟨ret_int (by rw [hR.out]; (try simp only [Bool.not_eq_true', Bool.not_eq_false'] at *); unfold Minima.good; simp [*]), (by with_reducible (repeat first | assumption | exact Ext.refl _ | refine Ext.set ?_ (by omega) _ | refine Ext.alloc ?_ _ | refine Ext.drew ?_ | refine Ext.drewN ?_ _ | refine Ext.trans ?_ (by assumption)))⟩
  · have hck : m.check = 40 := by unfold Met.check; simp [hg]
    have hR : checkMinima m l = 40 := by unfold checkMinima; rw [if_neg (by simp [hg])]
    have hR := Lib.hid hR
    go_enter Tryz.func68, Tryz.ntmps68
    go_wp2_with (first | (go_at_call 33; refine (check_33 m AF AS nF cF nS cS _ (hm.ext (by with_reducible (repeat first | assumption | exact Ext.refl _ | refine Ext.set ?_ (by omega) _ | refine Ext.alloc ?_ _ | refine Ext.drew ?_ | refine Ext.drewN ?_ _ | refine Ext.trans ?_ (by assumption))))).mono ?_; rintro e1 w1 ⟨rfl, hb1⟩; obtain ⟨hc1, hf1, hz1⟩ := hb1.cells; have hs1 := hb1.size; (try simp at hs1)) | (go_at_call 71; refine (from_71 _ _ _ _).mono ?_; rintro e1 w1 ⟨rfl, rfl⟩))
    go_ret
    exact ⟨by rw [hR.out]; rfl, (by with_reducible (repeat first | assumption | exact Ext.refl _ | refine Ext.set ?_ (by omega) _ | refine Ext.alloc ?_ _ | refine Ext.drew ?_ | refine Ext.drewN ?_ _ | refine Ext.trans ?_ (by assumption)))⟩
theorem Inp.err_min {I : Inp} (h : checkMinima I.m I.l ≠ 0) : I.err = checkMinima I.m I.l := by
  have h1 : I.N.checkL (some I.l) = checkMinima I.m I.l := by simp only [Net.checkL]; rw [if_neg h]
  unfold Inp.err
  rw [Net.checkF_net (by rw [h1]; exact h), h1]
theorem Inp.err_eq {I : Inp} (h : checkMinima I.m I.l = 0) : I.err = I.err0 := by
  have h1 : I.N.checkL (some I.l) = I.N.checkL none := by simp only [Net.checkL]; rw [if_pos h]
  unfold Inp.err Inp.err0 Net.checkF
  rw [h1]
set_option maxRecDepth 100000 in
set_option maxHeartbeats 2000000 in
theorem checkAll_79 (I : Inp) (w : World) (h : I.In w) :
    Calls Tryz.prog 79 #[I.vm, I.l.val, I.vn, I.vf] w fun e w' => e = .returned (.int .i64 I.err) ∧ Ext w w' := by
  simp only [Inp.vm, Inp.vn, Inp.vf, Met.val, Flight.val, Minima.val]
  by_cases hc : checkMinima I.m I.l = 0
  · have hR := Lib.hid (Inp.err_eq hc)
    go_enter Tryz.func79, Tryz.ntmps79
    go_wp2_with (first | (go_at_call 68; refine (checkMinima_68 I.m I.l I.AF I.AS I.nF I.cF I.nS I.cS _ (h.met.ext (by with_reducible (repeat first | assumption | exact Ext.refl _ | refine Ext.set ?_ (by omega) _ | refine Ext.alloc ?_ _ | refine Ext.drew ?_ | refine Ext.drewN ?_ _ | refine Ext.trans ?_ (by assumption))))).mono ?_; rintro e1 w1 ⟨rfl, hb1⟩; obtain ⟨hc1, hf1, hz1⟩ := hb1.cells; have hs1 := hb1.size; (try simp at hs1)) | (go_at_call 25; refine (Check_25 I _ (h.ext (by with_reducible (repeat first | assumption | exact Ext.refl _ | refine Ext.set ?_ (by omega) _ | refine Ext.alloc ?_ _ | refine Ext.drew ?_ | refine Ext.drewN ?_ _ | refine Ext.trans ?_ (by assumption))))).mono ?_; rintro e1 w1 ⟨rfl, hb1⟩; obtain ⟨hc1, hf1, hz1⟩ := hb1.cells; have hs1 := hb1.size; (try simp at hs1)))
    go_ret
    exact ⟨by rw [hR.out]; rfl, (by with_reducible (repeat first | assumption | exact Ext.refl _ | refine Ext.set ?_ (by omega) _ | refine Ext.alloc ?_ _ | refine Ext.drew ?_ | refine Ext.drewN ?_ _ | refine Ext.trans ?_ (by assumption)))⟩
  · have hR := Lib.hid (Inp.err_min hc)
    have hbb : (checkMinima I.m I.l == (0 : Int)) = false := beq_eq_false_iff_ne.2 hc
    have hbn : (checkMinima I.m I.l != (0 : Int)) = true := by rw [bne_iff_ne]; exact hc
    replace hc := Lib.hid hc
    go_enter Tryz.func79, Tryz.ntmps79
    go_wp2_with (go_at_call 68; refine (checkMinima_68 I.m I.l I.AF I.AS I.nF I.cF I.nS I.cS _ (h.met.ext (by with_reducible (repeat first | assumption | exact Ext.refl _ | refine Ext.set ?_ (by omega) _ | refine Ext.alloc ?_ _ | refine Ext.drew ?_ | refine Ext.drewN ?_ _ | refine Ext.trans ?_ (by assumption))))).mono ?_; rintro e1 w1 ⟨rfl, hb1⟩; obtain ⟨hc1, hf1, hz1⟩ := hb1.cells; have hs1 := hb1.size; (try simp at hs1))
    go_ret
    exact ⟨by rw [hR.out]; rfl, (by with_reducible (repeat first | assumption | exact Ext.refl _ | refine Ext.set ?_ (by omega) _ | refine Ext.alloc ?_ _ | refine Ext.drew ?_ | refine Ext.drewN ?_ _ | refine Ext.trans ?_ (by assumption)))⟩
theorem Net.checkF_good {N : Net} {l : Option Minima} {f : Flight} (h : N.checkF l f = 0) : N.checkL l = 0 ∧ f.good N.met.places N.L = true := by
  unfold Net.checkF at h
  by_cases h1 : N.checkL l = 0
  · rw [if_pos h1] at h
    by_cases h2 : f.good N.met.places N.L = true
    · exact ⟨h1, h2⟩
    · rw [if_neg h2] at h; exact absurd h (by decide)
  · rw [if_neg h1] at h; exact absurd h h1
theorem Inp.err0_good {I : Inp} (h : I.err0 = 0) : I.N.good = true ∧ I.f.good I.m.places I.N.L = true := by
  obtain ⟨h1, h2⟩ := Net.checkF_good h
  exact ⟨Net.check_good h1, h2⟩
theorem Inp.err_good {I : Inp} (h : I.err = 0) : I.N.good = true ∧ I.l.good = true ∧ I.f.good I.m.places I.N.L = true ∧ I.err0 = 0 := by
  obtain ⟨h1, h2⟩ := Net.checkF_good h
  obtain ⟨h3, h4⟩ := Net.checkL_good h1
  refine ⟨h3, h4, h2, ?_⟩
  by_cases hc : checkMinima I.m I.l = 0
  · rw [← Inp.err_eq hc]; exact h
  · rw [Inp.err_min hc] at h; exact absurd h hc
/-- flown of a valid flight. -/
theorem flown_ok (I : Inp) (w : World) (h : I.In w) (hn : I.N.good = true) (hf : I.f.good I.m.places I.N.L = true) :
    Calls Tryz.prog 67 #[I.vn, I.vf] w fun e w' => (∃ A c, e = .returned (.tuple #[.slice A I.f.route.length c, .bool true]) ∧ Rows 1 encInt w' A I.f.route.length (I.f.atList I.N.L I.f.route.length)) ∧ Ext w w' := by
  obtain ⟨-, -, -, hLu, -⟩ := Net.good_parts hn
  obtain ⟨hp, hr, hj, ha⟩ := Flight.good_parts hf
  obtain ⟨⟨l1, l2⟩, ⟨d1, d2⟩, -⟩ := Flight.plain_parts hp
  have e := Net.legOf_eq hn
  have := flown_67 I.xs I.f I.m.places I.AX I.nX I.cX I.AR I.nR I.cR w h.net h.route (by rw [e]; exact hLu) l1 (by omega) ⟨d1, d2⟩ hr
  rw [e] at this
  exact this.mono fun e w' hp => ⟨hp.1 hj, hp.2.2⟩
set_option maxRecDepth 100000 in
set_option maxHeartbeats 2000000 in
theorem Arrive_29 (I : Inp) (w : World) (h : I.In w) :
    Calls Tryz.prog 29 #[I.vm, I.vn, I.vf] w (IntsPost I.err0 (I.f.atList I.N.L I.f.route.length) w) := by
  simp only [Inp.vm, Inp.vn, Inp.vf, Met.val, Flight.val]
  by_cases hc : I.err0 = 0
  · obtain ⟨hn, hf⟩ := Inp.err0_good hc
    have hn := Lib.hid hn
    have hf := Lib.hid hf
    go_enter Tryz.func29, Tryz.ntmps29
    go_wp2_with (first | (go_at_call 25; refine (Check_25 I _ (h.ext (by with_reducible (repeat first | assumption | exact Ext.refl _ | refine Ext.set ?_ (by omega) _ | refine Ext.alloc ?_ _ | refine Ext.drew ?_ | refine Ext.drewN ?_ _ | refine Ext.trans ?_ (by assumption))))).mono ?_; rintro e1 w1 ⟨rfl, hb1⟩; obtain ⟨hc1, hf1, hz1⟩ := hb1.cells; have hs1 := hb1.size; (try simp at hs1)) | (go_at_call 67; refine (flown_ok I _ (h.ext (by with_reducible (repeat first | assumption | exact Ext.refl _ | refine Ext.set ?_ (by omega) _ | refine Ext.alloc ?_ _ | refine Ext.drew ?_ | refine Ext.drewN ?_ _ | refine Ext.trans ?_ (by assumption)))) hn.out hf.out).mono ?_; rintro e1 w2 ⟨⟨A, c, rfl, hR⟩, hb2⟩; replace hR := Lib.hid hR))
    go_ret2
    exact ⟨fun _ => ⟨A, c, by rw [Flight.atList_length]; rfl, by rw [Flight.atList_length]; exact hR.out⟩, fun hn => absurd hc hn, (by with_reducible (repeat first | assumption | exact Ext.refl _ | refine Ext.set ?_ (by omega) _ | refine Ext.alloc ?_ _ | refine Ext.drew ?_ | refine Ext.drewN ?_ _ | refine Ext.trans ?_ (by assumption)))⟩
  · have hbb : (I.err0 == (0 : Int)) = false := beq_eq_false_iff_ne.2 hc
    have hbn : (I.err0 != (0 : Int)) = true := by rw [bne_iff_ne]; exact hc
    replace hc := Lib.hid hc
    go_enter Tryz.func29, Tryz.ntmps29
    go_wp2_with (go_at_call 25; refine (Check_25 I _ (h.ext (by with_reducible (repeat first | assumption | exact Ext.refl _ | refine Ext.set ?_ (by omega) _ | refine Ext.alloc ?_ _ | refine Ext.drew ?_ | refine Ext.drewN ?_ _ | refine Ext.trans ?_ (by assumption))))).mono ?_; rintro e1 w1 ⟨rfl, hb1⟩; obtain ⟨hc1, hf1, hz1⟩ := hb1.cells; have hs1 := hb1.size; (try simp at hs1))
    go_ret2
    exact ⟨fun h0 => absurd h0 hc.out, fun _ => rfl, (by with_reducible (repeat first | assumption | exact Ext.refl _ | refine Ext.set ?_ (by omega) _ | refine Ext.alloc ?_ _ | refine Ext.drew ?_ | refine Ext.drewN ?_ _ | refine Ext.trans ?_ (by assumption)))⟩
set_option maxRecDepth 100000 in
set_option maxHeartbeats 2000000 in
theorem end_80 (I : Inp) (w : World) (h : I.In w) (hn : I.N.good = true) (hf : I.f.good I.m.places I.N.L = true) :
    Calls Tryz.prog 80 #[I.vn, I.vf] w fun e w' => e = .returned (.int .i64 (I.f.arrival I.N.L)) ∧ Ext w w' := by
  simp only [Inp.vn, Inp.vf, Flight.val]
  obtain ⟨hp, hr, hj, ha⟩ := Flight.good_parts hf
  obtain ⟨⟨l1, l2⟩, ⟨d1, d2⟩, -⟩ := Flight.plain_parts hp
  have hlast : I.f.last + 1 = I.f.route.length := by unfold Flight.last; omega
  have hv4 : (I.f.route.length : Int) - 1 = (I.f.last : Int) := by omega
  have har := Lib.hid (show I.f.arrival I.N.L = I.f.at I.N.L I.f.last from rfl)
  have hn := Lib.hid hn
  have hf := Lib.hid hf
  clear hj ha
  go_enter Tryz.func80, Tryz.ntmps80
  go_wp2_with (go_at_call 67; refine (flown_ok I _ (h.ext (by with_reducible (repeat first | assumption | exact Ext.refl _ | refine Ext.set ?_ (by omega) _ | refine Ext.alloc ?_ _ | refine Ext.drew ?_ | refine Ext.drewN ?_ _ | refine Ext.trans ?_ (by assumption)))) hn.out hf.out).mono ?_; rintro e1 w2 ⟨⟨A, c, rfl, hR⟩, hb2⟩; obtain ⟨b9, off9, rfl, hb9', k9⟩ := hR.intx (j := I.f.last) (by omega) (Flight.atList_at _ _ (by omega)); replace hR := Lib.hid hR)
  go_ret
  exact ⟨by rw [har.out]; rfl, (by with_reducible (repeat first | assumption | exact Ext.refl _ | refine Ext.set ?_ (by omega) _ | refine Ext.alloc ?_ _ | refine Ext.drew ?_ | refine Ext.drewN ?_ _ | refine Ext.trans ?_ (by assumption)))⟩
end Go.Proofs.YtmmimbcfgobnaaaGreat
