/-
  The walks of the table of places (the program's own and the document's), of a word turned left and of the quarter round by the document's answer, of the way back from a quarter round.
-/
import Derived.Test.YtdkimnigckpncaaW2
namespace Go.Proofs.Ytdkimnigckpncaa
open Go.RowKit
attribute [local go_sem] w_add m_add w_sub m_sub b_xor b_or d_shr

theorem info66 : (Try.prog.info? 66).map (·.size) = some 32 := by kernel_rfl
theorem info65 : (Try.prog.info? 65).map (·.size) = some 4 := by kernel_rfl

set_option maxRecDepth 100000 in
theorem quarters_any (w : World) : Calls Try.prog 45 #[] w fun e w' => e = .returned (.agg tab) ∧ Below w.heap.size w w' := by
  go_enter Try.func45, Try.ntmps45
  go_wp2_with (with_reducible refine wpList_store_row rfl 66 (.tmp 0) (.tmp 9) rfl w.heap.size 66 _ tab rfl rfl (heap_alloc_new _ _) (by kernel_rfl) rfl (by kernel_rfl) ?_)
  refine bodyPost_ret (v := .agg tab) (results_cell_row rfl _ _ w.heap.size 66 tab (0, 0) _ rfl (setRow_heap _ _ _ _ _ _ (heap_alloc_new _ _)) Try.underlying66 rfl (by kernel_rfl)) rfl ?_
  exact ⟨rfl, below_row ((Below.refl _ _).alloc (Nat.le_refl _) _) (Nat.le_refl _) _⟩

theorem left_k (x : BitVec 32) (k : Nat) (hk : 0 < k) (hk2 : k < 32) (w : World) : Calls Try.prog 46 #[.int .u32 (u x), .int .i64 (k : Int)] w fun e w' => e = .returned (.int .u32 (u (Qu.rl x k))) ∧ w = w' := by
  have h2 := shl32 x .u64 k (by omega)
  have h1 : IntKind.u64.wrap (k : Int) = (k : Int) := by rw [IntKind.wrap_u64]; omega
  have h3 : wrap64 (32 - (k : Int)) = ((32 - k : Nat) : Int) := by unfold wrap64; omega
  have h4 : IntKind.u64.wrap ((32 - k : Nat) : Int) = ((32 - k : Nat) : Int) := by rw [IntKind.wrap_u64]; omega
  have H : ((x <<< k) ||| (x >>> (32 - k))) = Qu.rl x k := rfl
  generalize Qu.rl x k = r at *
  obtain ⟨j, hj⟩ : ∃ j, j = 32 - k := ⟨_, rfl⟩
  rw [← hj] at h3 h4 H
  have h5 : IntKind.i64.wrap (32 - (k : Int)) = (j : Int) := by rw [IntKind.wrap_i64]; unfold wrap64 at h3; exact h3
  have h6 : min j 32 = j := by omega
  clear hk hk2 hj
  go_enter Try.func46, Try.ntmps46
  go_wp2
  go_ret
  exact ⟨rfl, rfl⟩

theorem left16 (x : BitVec 32) (w : World) : Calls Try.prog 46 #[.int .u32 (u x), .int .i64 16] w fun e w' => e = .returned (.int .u32 (u (Qu.rl x 16))) ∧ w = w' := left_k x 16 (by decide) (by decide) w
theorem left12 (x : BitVec 32) (w : World) : Calls Try.prog 46 #[.int .u32 (u x), .int .i64 12] w fun e w' => e = .returned (.int .u32 (u (Qu.rl x 12))) ∧ w = w' := left_k x 12 (by decide) (by decide) w
theorem left8 (x : BitVec 32) (w : World) : Calls Try.prog 46 #[.int .u32 (u x), .int .i64 8] w fun e w' => e = .returned (.int .u32 (u (Qu.rl x 8))) ∧ w = w' := left_k x 8 (by decide) (by decide) w
theorem left7 (x : BitVec 32) (w : World) : Calls Try.prog 46 #[.int .u32 (u x), .int .i64 7] w fun e w' => e = .returned (.int .u32 (u (Qu.rl x 7))) ∧ w = w' := left_k x 7 (by decide) (by decide) w

theorem rround_any (a b c d : BitVec 32) (w : World) : Calls Try.prog 23 #[.int .u32 (u a), .int .u32 (u b), .int .u32 (u c), .int .u32 (u d)] w fun e w' =>
    e = .returned (.tuple #[.int .u32 (u (Qu.qr ⟨a, b, c, d⟩).a), .int .u32 (u (Qu.qr ⟨a, b, c, d⟩).b), .int .u32 (u (Qu.qr ⟨a, b, c, d⟩).c), .int .u32 (u (Qu.qr ⟨a, b, c, d⟩).d)]) ∧ w = w' := by
  go_enter Try.func23, Try.ntmps23
  go_wp2_with fail
  refine (left16 _ _).mono ?_
  rintro e w' ⟨rfl, rfl⟩
  go_wp2_with fail
  refine (left12 _ _).mono ?_
  rintro e w' ⟨rfl, rfl⟩
  go_wp2_with fail
  refine (left8 _ _).mono ?_
  rintro e w' ⟨rfl, rfl⟩
  go_wp2_with fail
  refine (left7 _ _).mono ?_
  rintro e w' ⟨rfl, rfl⟩
  go_wp2_with fail
  refine bodyPost_ret (results_tmp4 rfl _ _ _) rfl ?_
  exact ⟨rfl, rfl⟩

theorem rotm7 (x : BitVec 32) (w : World) : Calls Try.prog 42 #[.int .u32 (u x), .int .i64 (-7)] w fun e w' => e = .returned (.int .u32 (u (Qu.rl x 25))) ∧ w = w' := rot_k x (-7) 25 (by decide) (by decide) w (by decide)
theorem rotm8 (x : BitVec 32) (w : World) : Calls Try.prog 42 #[.int .u32 (u x), .int .i64 (-8)] w fun e w' => e = .returned (.int .u32 (u (Qu.rl x 24))) ∧ w = w' := rot_k x (-8) 24 (by decide) (by decide) w (by decide)
theorem rotm12 (x : BitVec 32) (w : World) : Calls Try.prog 42 #[.int .u32 (u x), .int .i64 (-12)] w fun e w' => e = .returned (.int .u32 (u (Qu.rl x 20))) ∧ w = w' := rot_k x (-12) 20 (by decide) (by decide) w (by decide)
theorem rotm16 (x : BitVec 32) (w : World) : Calls Try.prog 42 #[.int .u32 (u x), .int .i64 (-16)] w fun e w' => e = .returned (.int .u32 (u (Qu.rl x 16))) ∧ w = w' := rot_k x (-16) 16 (by decide) (by decide) w (by decide)

theorem undo_any (a b c d : BitVec 32) (w : World) : Calls Try.prog 44 #[.int .u32 (u a), .int .u32 (u b), .int .u32 (u c), .int .u32 (u d)] w fun e w' =>
    e = .returned (.tuple #[.int .u32 (u (Qu.uq ⟨a, b, c, d⟩).a), .int .u32 (u (Qu.uq ⟨a, b, c, d⟩).b), .int .u32 (u (Qu.uq ⟨a, b, c, d⟩).c), .int .u32 (u (Qu.uq ⟨a, b, c, d⟩).d)]) ∧ w = w' := by
  go_enter Try.func44, Try.ntmps44
  go_wp2_with fail
  refine (rotm7 _ _).mono ?_
  rintro e w' ⟨rfl, rfl⟩
  go_wp2_with fail
  refine (rotm8 _ _).mono ?_
  rintro e w' ⟨rfl, rfl⟩
  go_wp2_with fail
  refine (rotm12 _ _).mono ?_
  rintro e w' ⟨rfl, rfl⟩
  go_wp2_with fail
  refine (rotm16 _ _).mono ?_
  rintro e w' ⟨rfl, rfl⟩
  go_wp2_with fail
  refine bodyPost_ret (results_tmp4 rfl _ _ _) rfl ?_
  exact ⟨rfl, rfl⟩

theorem Blk_lt {w : World} {k : Nat} {o : Obj} (h : w.heap[k]? = some o) : k < w.heap.size := (Array.getElem?_eq_some_iff.1 h).1
/-- Row k of the table, where the table lies in a block. -/
theorem tab_range {W : World} {tb : Nat} (h : W.heap[tb]? = some (.cells tab 66 (0, 0))) (k : Nat) (hk : k < 8) :
    W.rangeAt tb (k * 4) [.int .i64 ((Qu.places.getD k default).1 : Int), .int .i64 ((Qu.places.getD k default).2.1 : Int), .int .i64 ((Qu.places.getD k default).2.2.1 : Int), .int .i64 ((Qu.places.getD k default).2.2.2 : Int)] := by
  intro j v hj
  rw [cell_of_row W tb (k * 4 + j) tab 66 (0, 0) h]
  have hj4 : j < 4 := (List.getElem?_eq_some_iff.1 hj).1
  rcases (by omega : k = 0 ∨ k = 1 ∨ k = 2 ∨ k = 3 ∨ k = 4 ∨ k = 5 ∨ k = 6 ∨ k = 7) with rfl | rfl | rfl | rfl | rfl | rfl | rfl | rfl <;>
    rcases (by omega : j = 0 ∨ j = 1 ∨ j = 2 ∨ j = 3) with rfl | rfl | rfl | rfl <;> exact hj
/-- The table of places as it stands behind k rounds of the loop that fills it. -/
def pt : Nat → Array Value
  | 0 => i64s (List.replicate 32 0)
  | k + 1 => spl (spl (pt k) (4 * k) (row4 (k, 4 + k, 8 + k, 12 + k)).toList) (4 * (4 + k)) (row4 (k, 4 + (k + 1) % 4, 8 + (k + 2) % 4, 12 + (k + 3) % 4)).toList
theorem pt_tab : pt 4 = tab := by kernel_rfl
theorem pt_size : ∀ k, (pt k).size = 32
  | 0 => by simp [pt, i64s]
  | k + 1 => by rw [pt, spl_size, spl_size, pt_size k]

set_option maxRecDepth 100000 in
set_option maxHeartbeats 1000000 in
theorem places_any (w : World) : Calls Try.prog 43 #[] w fun e w' => e = .returned (.agg tab) ∧ Below w.heap.size w w' := by
  go_enter Try.func43, Try.ntmps43
  go_wp2_with fail
  go_loopw [3] (fun i wr => ∃ k : Nat, k ≤ 4 ∧ i = .int .i64 k ∧ wr.heap[w.heap.size + 1]? = some (.cells (pt k) 66 (0, 0)) ∧ wr.heap[w.heap.size]? = some (.cells (pt 0) 66 (0, 0)) ∧ Below w.heap.size w wr) (fun i _ => 4 - (intOf i).toNat)
  case atStart =>
    refine ⟨0, by omega, rfl, heap_alloc2_new _ _ _, heap_alloc2_old _ _ _, ((Below.refl _ _).alloc (Nat.le_refl _) _).alloc (by simp) _⟩
  case round =>
    obtain ⟨k, hk, rfl, hh, h0, hb⟩ := hrel
    by_cases h4 : k < 4
    · rcases (by omega : k = 0 ∨ k = 1 ∨ k = 2 ∨ k = 3) with rfl | rfl | rfl | rfl
      · clear h4 hk
        go_wp2_with (first | (refine wpList_store_part rfl 65 (.tmp 15) (.tmp 14) rfl (w.heap.size + 1) 0 66 (pt 0) #[.int .i64 0, .int .i64 4, .int .i64 8, .int .i64 12] rfl rfl hh (info65.trans rfl) (by rw [pt_size]; decide) (by kernel_rfl) ?_; intro wa ha hga; clear hh) | (refine wpList_store_part rfl 65 (.tmp 32) (.tmp 31) rfl (w.heap.size + 1) 16 66 _ #[.int .i64 0, .int .i64 5, .int .i64 10, .int .i64 15] rfl rfl ha (info65.trans rfl) (by rw [spl_size, pt_size]; decide) (by kernel_rfl) ?_; intro wb hb2 hgb; clear ha))
        have hbw := grown_below (grown_below hb hga (by have := hb.size; omega) (by omega)) hgb (by have := hb.size; have := hga.size; omega) (by omega)
        have h0w : wb.heap[w.heap.size]? = some (.cells (pt 0) 66 (0, 0)) := by
          have hlt : w.heap.size < wr.heap.size := Blk_lt h0
          exact (hgb.block _ (Nat.lt_of_lt_of_le hlt hga.size) (by simp)).trans ((hga.block _ hlt (by simp)).trans h0)
        clear h0 hb hga hgb
        go_roundw
        case rel => exact ⟨1, by omega, rfl, hb2, h0w, hbw⟩
        case measure => simp [intOf]
      · clear h4 hk
        go_wp2_with (first | (refine wpList_store_part rfl 65 (.tmp 15) (.tmp 14) rfl (w.heap.size + 1) 4 66 (pt 1) #[.int .i64 1, .int .i64 5, .int .i64 9, .int .i64 13] rfl rfl hh (info65.trans rfl) (by rw [pt_size]; decide) (by kernel_rfl) ?_; intro wa ha hga; clear hh) | (refine wpList_store_part rfl 65 (.tmp 32) (.tmp 31) rfl (w.heap.size + 1) 20 66 _ #[.int .i64 1, .int .i64 6, .int .i64 11, .int .i64 12] rfl rfl ha (info65.trans rfl) (by rw [spl_size, pt_size]; decide) (by kernel_rfl) ?_; intro wb hb2 hgb; clear ha))
        have hbw := grown_below (grown_below hb hga (by have := hb.size; omega) (by omega)) hgb (by have := hb.size; have := hga.size; omega) (by omega)
        have h0w : wb.heap[w.heap.size]? = some (.cells (pt 0) 66 (0, 0)) := by
          have hlt : w.heap.size < wr.heap.size := Blk_lt h0
          exact (hgb.block _ (Nat.lt_of_lt_of_le hlt hga.size) (by simp)).trans ((hga.block _ hlt (by simp)).trans h0)
        clear h0 hb hga hgb
        go_roundw
        case rel => exact ⟨2, by omega, rfl, hb2, h0w, hbw⟩
        case measure => simp [intOf]
      · clear h4 hk
        go_wp2_with (first | (refine wpList_store_part rfl 65 (.tmp 15) (.tmp 14) rfl (w.heap.size + 1) 8 66 (pt 2) #[.int .i64 2, .int .i64 6, .int .i64 10, .int .i64 14] rfl rfl hh (info65.trans rfl) (by rw [pt_size]; decide) (by kernel_rfl) ?_; intro wa ha hga; clear hh) | (refine wpList_store_part rfl 65 (.tmp 32) (.tmp 31) rfl (w.heap.size + 1) 24 66 _ #[.int .i64 2, .int .i64 7, .int .i64 8, .int .i64 13] rfl rfl ha (info65.trans rfl) (by rw [spl_size, pt_size]; decide) (by kernel_rfl) ?_; intro wb hb2 hgb; clear ha))
        have hbw := grown_below (grown_below hb hga (by have := hb.size; omega) (by omega)) hgb (by have := hb.size; have := hga.size; omega) (by omega)
        have h0w : wb.heap[w.heap.size]? = some (.cells (pt 0) 66 (0, 0)) := by
          have hlt : w.heap.size < wr.heap.size := Blk_lt h0
          exact (hgb.block _ (Nat.lt_of_lt_of_le hlt hga.size) (by simp)).trans ((hga.block _ hlt (by simp)).trans h0)
        clear h0 hb hga hgb
        go_roundw
        case rel => exact ⟨3, by omega, rfl, hb2, h0w, hbw⟩
        case measure => simp [intOf]
      · clear h4 hk
        go_wp2_with (first | (refine wpList_store_part rfl 65 (.tmp 15) (.tmp 14) rfl (w.heap.size + 1) 12 66 (pt 3) #[.int .i64 3, .int .i64 7, .int .i64 11, .int .i64 15] rfl rfl hh (info65.trans rfl) (by rw [pt_size]; decide) (by kernel_rfl) ?_; intro wa ha hga; clear hh) | (refine wpList_store_part rfl 65 (.tmp 32) (.tmp 31) rfl (w.heap.size + 1) 28 66 _ #[.int .i64 3, .int .i64 4, .int .i64 9, .int .i64 14] rfl rfl ha (info65.trans rfl) (by rw [spl_size, pt_size]; decide) (by kernel_rfl) ?_; intro wb hb2 hgb; clear ha))
        have hbw := grown_below (grown_below hb hga (by have := hb.size; omega) (by omega)) hgb (by have := hb.size; have := hga.size; omega) (by omega)
        have h0w : wb.heap[w.heap.size]? = some (.cells (pt 0) 66 (0, 0)) := by
          have hlt : w.heap.size < wr.heap.size := Blk_lt h0
          exact (hgb.block _ (Nat.lt_of_lt_of_le hlt hga.size) (by simp)).trans ((hga.block _ hlt (by simp)).trans h0)
        clear h0 hb hga hgb
        go_roundw
        case rel => exact ⟨4, by omega, rfl, hb2, h0w, hbw⟩
        case measure => simp [intOf]
    · have e : k = 4 := by omega
      subst e
      rw [pt_tab] at hh
      go_wp2_with (first | (with_reducible refine wpList_load_row rfl 66 (.tmp 1) rfl (w.heap.size + 1) rfl 66 tab (0, 0) _ hh Try.underlying66 rfl (by kernel_rfl) ?_) | (with_reducible refine wpList_store_row rfl 66 (.tmp 0) (.tmp 34) rfl w.heap.size 66 (pt 0) tab rfl rfl h0 (by kernel_rfl) rfl (by kernel_rfl) ?_))
      refine bodyPost_ret (v := .agg tab) (results_cell_row rfl _ _ w.heap.size 66 tab (0, 0) _ rfl (setRow_heap _ _ _ _ _ _ h0) Try.underlying66 rfl (by kernel_rfl)) rfl ?_
      exact ⟨rfl, below_row hb (Nat.le_refl _) _⟩
end Go.Proofs.Ytdkimnigckpncaa
