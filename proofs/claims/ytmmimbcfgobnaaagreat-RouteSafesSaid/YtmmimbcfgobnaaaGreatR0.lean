/- route.within, bits.Mul at small numbers. slices.Repeat of one number, at most 8 times. -/
import Derived.Test.YtmmimbcfgobnaaaGreatA1
import Derived.Laws.CopyOwn
import Derived.Deep.RegionLaw
set_option linter.unusedVariables false
set_option linter.unusedSimpArgs false
namespace Go.Proofs.YtmmimbcfgobnaaaGreat
open Go.RowKit
set_option linter.unusedVariables false
set_option linter.unusedSimpArgs false
attribute [local go_sem] stored_match isSome_setCell

set_option maxRecDepth 100000 in
set_option maxHeartbeats 2000000 in
theorem within_85 (n lo hi : Int) (w : World) : Calls Tryz.prog 85 #[.int .i64 n, .int .i64 lo, .int .i64 hi] w fun e w' => e = .returned (.bool (within n lo hi)) ∧ w = w' := by
  unfold within
  go_enter Tryz.func85, Tryz.ntmps85
  go_wp2
  all_goals
    go_ret
    exact ⟨by first | rfl | (simp [*]; done) | (simp; omega), rfl⟩
set_option maxRecDepth 100000 in
set_option maxHeartbeats 2000000 in
theorem mul_173 (n : Nat) (hn : n < 9) (w : World) : Calls Tryz.prog 173 #[.int .u64 1, .int .u64 n] w fun e w' => e = .returned (.tuple #[.int .u64 0, .int .u64 n]) ∧ w = w' := by
  rcases (show n = 0 ∨ n = 1 ∨ n = 2 ∨ n = 3 ∨ n = 4 ∨ n = 5 ∨ n = 6 ∨ n = 7 ∨ n = 8 by omega) with rfl | rfl | rfl | rfl | rfl | rfl | rfl | rfl | rfl <;>
  · go_enter Tryz.func173, Tryz.ntmps173
    go_wp2
    go_ret2
    exact ⟨rfl, rfl⟩
set_option maxRecDepth 100000 in
set_option maxHeartbeats 2000000 in
theorem mul_150 (n : Nat) (hn : n < 9) (w : World) : Calls Tryz.prog 150 #[.int .u64 1, .int .u64 n] w fun e w' => e = .returned (.tuple #[.int .u64 0, .int .u64 n]) ∧ w = w' := by
  go_enter Tryz.func150, Tryz.ntmps150
  go_wp2_with (go_at_call 173; refine (mul_173 n hn _).mono ?_; rintro e1 w1 ⟨rfl, rfl⟩)
  go_ret2
  exact ⟨rfl, rfl⟩
end Go.Proofs.YtmmimbcfgobnaaaGreat
namespace Go.Proofs.YtmmimbcfgobnaaaGreat
open Go.RowKit
set_option linter.unusedVariables false
set_option linter.unusedSimpArgs false
attribute [local go_sem] stored_match isSome_setCell

/-- A row of at least n cells whose first k hold x. -/
def Filled (w : World) (g k n : Nat) (x : Int) : Prop := ∃ cur : Array Value, w.heap[g]? = some (.cells cur 3 (0, 0)) ∧ n ≤ cur.size ∧ cur.toList.take k = List.replicate k (iv x)
def RepPost (x : Int) (n : Nat) (w : World) (e : Ending) (w' : World) : Prop :=
  ∃ g, e = .returned (.slice (some ⟨g, 0, none⟩) n n) ∧ Ext w w' ∧ w.heap.size ≤ g ∧ Filled w' g n n x

theorem Filled.of_owns {w : World} {base g n c : Nat} {xs : List Value} {x : Int} (h : w.ownsRow base 3 1 (.slice (some ⟨g, 0, none⟩) n c) n xs) : Filled w g 0 n x := by
  rcases h.2 with ⟨h0, _⟩ | ⟨g', cap, cur, he, hg, hh, hn, hm, hs, ht⟩
  · simp at h0
  · simp only [Value.slice.injEq, Option.some.injEq, Addr.mk.injEq, and_true] at he
    obtain ⟨rfl, _, rfl⟩ := he
    exact ⟨cur, hh, by omega, rfl⟩
theorem Filled.copied {w : World} {g k n j : Nat} {x : Int} {cur : Array Value} (hh : w.heap[g]? = some (.cells cur 3 (0, 0))) (hs : n ≤ cur.size) (ht : cur.toList.take k = List.replicate k (iv x)) (hj : k + j ≤ n) : Filled (w.setRow g (cur.toList.take k ++ (List.replicate j (iv x) ++ cur.toList.drop (k + (List.replicate j (iv x)).length))).toArray) g (k + j) n x := by
  refine ⟨_, setRow_heap w g _ _ 3 _ hh, ?_, ?_⟩
  · simp; omega
  · rw [ht, ← List.append_assoc, List.replicate_append_replicate]
    simp [List.take_append_of_le_length]
theorem one_cell {w : World} {b : Nat} {u v : Value} {j : Nat} (h : w.cell? ⟨b, 0, none⟩ = some u) (hv : (List.replicate 1 u)[j]? = some v) : w.cell? ((⟨b, 0, none⟩ : Addr).add j) = some v := by
  cases j with
  | zero => simp at hv; subst hv; rw [show (⟨b, 0, none⟩ : Addr).add 0 = ⟨b, 0, none⟩ by unfold Addr.add; simp]; exact h
  | succ j => simp at hv
theorem row_cells {w : World} {g k j : Nat} {u : Value} {cu : Array Value} (hh : w.heap[g]? = some (.cells cu 3 (0, 0))) (ht : cu.toList.take k = List.replicate k u) (hj : j ≤ k) : ∀ i v, (List.replicate j u)[i]? = some v → w.cell? ((⟨g, 0, none⟩ : Addr).add i) = some v := by
  intro i v hv
  rw [List.getElem?_replicate] at hv
  split at hv
  case isFalse => simp at hv
  rename_i hi
  simp only [Option.some.injEq] at hv
  subst hv
  have e1 : (⟨g, 0, none⟩ : Addr).add i = ⟨g, i, none⟩ := by unfold Addr.add; split <;> simp_all
  rw [e1]
  simp only [World.cell?, hh]
  have : (cu.toList.take k)[i]? = some u := by rw [ht, List.getElem?_replicate, if_pos (by omega)]
  rw [List.getElem?_take_of_lt (by omega)] at this
  simpa using this
theorem Filled.of_splice {w : World} {g k n j : Nat} {x : Int} {cu : Array Value} (h : w.heap[g]? = some (.cells (splice cu.toList k (List.replicate j (iv x))).toArray 3 (0, 0))) (hs : n ≤ cu.size) (ht : cu.toList.take k = List.replicate k (iv x)) (hj : k + j ≤ n) : Filled w g (k + j) n x := by
  refine ⟨_, h, ?_, ?_⟩
  · have := length_splice cu.toList k (List.replicate j (iv x)) (by simp; omega)
    simp at this ⊢; omega
  · unfold splice
    rw [ht, ← List.append_assoc, List.replicate_append_replicate]
    simp [List.take_append_of_le_length]
set_option maxRecDepth 100000 in
set_option maxHeartbeats 2000000 in
theorem repeat_133 (x : Int) (b n : Nat) (hn : 1 ≤ n ∧ n ≤ 8) (w : World) (hb : b < w.heap.size) (hx : w.cell? ⟨b, 0, none⟩ = some (.int .i64 x)) :
    Calls Tryz.prog 133 #[.slice (some ⟨b, 0, none⟩) 1 1, .int .i64 n] w (RepPost x n w) := by
  obtain ⟨i, z, hi, hz, hsz, hby, hzs⟩ := e_int.info
  go_enter Tryz.func133, Tryz.ntmps133
  have c1 : IntKind.u64.wrap (1 : Int) = 1 := by decide
  have c2 : IntKind.u64.wrap (n : Int) = n := IntWalk.u64_in _ (by omega)
  have c3 : IntKind.i64.wrap (n : Int) = n := IntWalk.i64_in _ (by omega)
  go_wp2_with (first | (go_at_call 150; refine (mul_150 n (by omega) _).mono ?_; rintro e1 w1 ⟨rfl, rfl⟩) | (at_make; refine wpList_make_full _ rfl _ _ 35 rfl w.heap.size 3 i z 1 e_int.slice hi hz hsz _ _ _ _ n rfl rfl (by omega) (by omega) (by rw [hby]; omega) (by unfold maxLen; omega) (Nat.le_refl _) ?_; intro w1 hown1 hgrow1; obtain ⟨cur, hh, hcs, hct⟩ := Filled.of_owns (x := x) hown1; have hx1 : w1.cell? ⟨b, 0, none⟩ = some (.int .i64 x) := by rw [(grown_cells hgrow1).1 _ _ hb (by simp)]; exact hx))
  rw [run_copy_row (P := Tryz.prog) w1 35 35 3 3 w.heap.size 0 n n ⟨b, 0, none⟩ 1 1 cur 3 (List.replicate 1 (iv x)) (by kernel_rfl) (by kernel_rfl) hh (by simp [Nat.min_def]; omega) (fun j v hv => one_cell hx1 hv) (by simp; omega) (by simp [Value.oneCell'])]
  obtain ⟨W1, hW1⟩ : ∃ W1, W1 = w1.setRow w.heap.size (cur.toList.take 0 ++ List.replicate 1 (iv x) ++ cur.toList.drop (0 + (List.replicate 1 (iv x)).length)).toArray := ⟨_, rfl⟩
  have hF1 : Filled W1 w.heap.size 1 n x := by
    have := Filled.copied (j := 1) (x := x) hh hcs hct (by omega)
    rw [← List.append_assoc] at this
    rw [hW1]; exact this
  have he1 : Ext w W1 := by
    rw [hW1]
    exact ⟨below_setRow ((Below.refl _ w).grown hgrow1 (Nat.le_refl _) (by simp)) (Nat.le_refl _) _⟩
  rw [← hW1]
  clear hW1
  go_wp2
  go_loopw [8] (fun i wr => ∃ k : Nat, i = .int .i64 k ∧ 1 ≤ k ∧ k ≤ n ∧ Filled wr w.heap.size k n x ∧ Ext w wr) (fun i _ => n - (intOf i).toNat)
  case atStart => exact ⟨1, by simp [goInt], Nat.le_refl _, hn.1, hF1, he1⟩
  case round =>
    obtain ⟨k, rfl, h1k, hk, ⟨cu, hh2, hcs2, hct2⟩, he⟩ := hrel
    by_cases hlt : k < n
    · have c4 : IntKind.i64.wrap ((k : Int) + ((min k (n - k) : Nat) : Int)) = ((k + min k (n - k) : Nat) : Int) := by rw [IntWalk.i64_in _ (by omega)]; simp
      go_wp2
      have hnk : ¬ n = k := by omega
      go_region_law (refine step_copy_splice rfl (.tmp 41) (.tmp 44) 35 35 rfl 3 (by kernel_rfl) (by kernel_rfl) (some ⟨w.heap.size, k, none⟩) (some ⟨w.heap.size, 0, none⟩) (n - k) (n - k) k n (by simp [Act.eval, Act.put, hnk]) (by simp [Act.eval, Act.put]) w.heap.size k cu.toList 3 hh2 (List.replicate (min k (n - k)) (iv x)) (by simp) (fun _ => ⟨rfl, ⟨w.heap.size, 0, none⟩, rfl, row_cells hh2 hct2 (by omega)⟩) (by simp; omega) (fun v hv => by rw [List.eq_of_mem_replicate hv]; rfl) w.heap.size w he.drew.below (Nat.le_refl _) ?_; intro w4 hg4 hb4)
      all_goals
        simp only [Act.put, Act.eval, goInt]
        go_simp
        go_roundw
        case rel =>
          refine ⟨_, _, _, _, _, _, _, _, _, _, _, _, _, _, ?_, rfl⟩
          exact ⟨k + min k (n - k), by go_num, by omega, by omega, Filled.of_splice hg4.out hcs2 hct2 (by omega), ⟨hb4⟩⟩
        case measure => simp [intOf, goInt, c4]; omega
    · obtain rfl : k = n := by omega
      go_wp2
      go_ret
      exact ⟨_, rfl, he, Nat.le_refl _, ⟨cu, hh2, hcs2, hct2⟩⟩
end Go.Proofs.YtmmimbcfgobnaaaGreat
