/-
  The walks of the laws on quarter rounds.
-/
import Derived.Test.YtdkimnigckpncaaL2
namespace Go.Proofs.Ytdkimnigckpncaa
open Go.RowKit

theorem back_dbl (s : List (BitVec 32)) (hs : s.length = 16) (w : World) : Calls Try.prog 21 #[.agg (c32 (Qu.dbl s))] w fun e w' => e = .returned (.agg (c32 s)) ∧ Below w.heap.size w w' := by
  have h := back_any (Qu.dbl s) ((Qu.dbl_length s).trans hs) w
  rwa [Qu.bak_dbl s hs] at h
theorem rdbl_bak (s : List (BitVec 32)) (hs : s.length = 16) (w : World) : Calls Try.prog 22 #[.agg (c32 (Qu.bak s))] w fun e w' => e = .returned (.agg (c32 s)) ∧ Below w.heap.size w w' := by
  have h := rdouble_any (Qu.bak s) ((Qu.bak_length s).trans hs) w
  rwa [Qu.dbl_bak s hs] at h
theorem round_q {a b c d : BitVec 32} {q : Qu.Q} (hq : q = Qu.qr ⟨a, b, c, d⟩) (w : World) : Calls Try.prog 18 #[.int .u32 (u a), .int .u32 (u b), .int .u32 (u c), .int .u32 (u d)] w fun e w' =>
    e = .returned (.tuple #[.int .u32 (u q.a), .int .u32 (u q.b), .int .u32 (u q.c), .int .u32 (u q.d)]) ∧ w = w' := by
  subst hq; exact round_any a b c d w
theorem rround_q {a b c d : BitVec 32} {q : Qu.Q} (hq : q = Qu.qr ⟨a, b, c, d⟩) (w : World) : Calls Try.prog 23 #[.int .u32 (u a), .int .u32 (u b), .int .u32 (u c), .int .u32 (u d)] w fun e w' =>
    e = .returned (.tuple #[.int .u32 (u q.a), .int .u32 (u q.b), .int .u32 (u q.c), .int .u32 (u q.d)]) ∧ w = w' := by
  subst hq; exact rround_any a b c d w
/-- The world Y was at the region's beginning; what stood there below B stands there. -/
theorem held {B : Nat} {Y X : World} (h : Below B Y X) {k : Nat} (hk : k < B) {o : Obj} (ho : Y.heap[k]? = some o) : X.heap[k]? = some o := (h.block k hk).trans ho
theorem on {B : Nat} {Y X X' : World} (h : Below B Y X) (hB : B ≤ Y.heap.size) (h' : Below X.heap.size X X') : Below B Y X' := h.trans (h'.mono (Nat.le_trans hB h.size))

set_option maxRecDepth 100000 in
set_option maxHeartbeats 1000000 in
theorem tells_any (a b c d : BitVec 32) (s : List (BitVec 32)) (hs : s.length = 16) (w : World) : Calls Try.prog 5 #[.int .u32 (u a), .int .u32 (u b), .int .u32 (u c), .int .u32 (u d), .agg (c32 s)] w fun e w' => e = .returned (.bool true) ∧ Below w.heap.size w w' := by
  have e1 := eqin_self (Qu.dbl s) ((Qu.dbl_length s).trans hs)
  have e2 := eqin_self s hs
  have HS := Lib.hid hs
  clear hs
  obtain ⟨q, hq⟩ : ∃ q, q = Qu.qr ⟨a, b, c, d⟩ := ⟨_, rfl⟩
  have HQ := Lib.hid hq
  clear hq
  go_enter Try.func5, Try.ntmps5
  go_wp2_with fail
  refine (round_q HQ.out _).mono ?_
  rintro e w' ⟨rfl, rfl⟩
  go_wp2_with fail
  refine (rround_q HQ.out _).mono ?_
  rintro e w' ⟨rfl, rfl⟩
  go_wp2_with fail
  have SY := Lib.hid (heap_alloc_new w (.cells (c32 s) 23))
  have HY : Hid (w.heap.size + 1 ≤ (w.alloc (.cells (c32 s) 23)).heap.size) := by show _ ≤ _; simp
  have HX := Lib.hid (Below.refl (w.heap.size + 1) (w.alloc (.cells (c32 s) 23)))
  have HF := Lib.hid ((Below.refl w.heap.size w).alloc (Nat.le_refl _) (.cells (c32 s) 23))
  generalize w.alloc (.cells (c32 s) 23) = Y at *
  have h12 : ∀ w' : World, (fun w' : World => w'.heap[w.heap.size]? = some (.cells (c32 s) 23 (0, 0))) w' → (fun w' : World => w'.heap[w.heap.size]? = some (.cells (c32 s) 23 (0, 0))) w' := fun _ h => h
  have HX := Lib.hid HX.out.drew
  refine Ph.region 99 (fun w' : World => w'.heap[w.heap.size]? = some (.cells (c32 s) 23 (0, 0))) (fun w' : World => w'.heap[w.heap.size]? = some (.cells (c32 s) 23 (0, 0))) (by kernel_rfl) ?_
  refine Ph.take2 (i := 0) (d := some 39) rfl rfl (by kernel_rfl) h12 (fun _ _ _ h => h) rfl (v := ?v0) (fun w' hw' => ?y0) (held HX.out (Nat.lt_succ_self _) SY.out) ?n0
  case y0 => (obtain _h := hw'; go_simp; try (with_reducible rfl))
  simp only [Act.put, List.setIfInBounds_toArray, List.set_cons_zero, List.set_cons_succ]
  refine Ph.take2 (i := 1) (d := some 40) rfl rfl (by kernel_rfl) h12 (fun _ _ _ h => h) rfl (v := ?v1) (fun w' hw' => ?y1) (held HX.out (Nat.lt_succ_self _) SY.out) ?n1
  case y1 => (obtain _h := hw'; go_simp; try (with_reducible rfl))
  simp only [Act.put, List.setIfInBounds_toArray, List.set_cons_zero, List.set_cons_succ]
  refine Ph.take2 (i := 2) (d := some 41) rfl rfl (by kernel_rfl) h12 (fun _ _ _ h => h) rfl (v := ?v2) (fun w' hw' => ?y2) (held HX.out (Nat.lt_succ_self _) SY.out) ?n2
  case y2 => (obtain _h := hw'; go_simp; try (with_reducible rfl))
  simp only [Act.put, List.setIfInBounds_toArray, List.set_cons_zero, List.set_cons_succ]
  refine Ph.take2 (i := 3) (d := some 42) rfl rfl (by kernel_rfl) h12 (fun _ _ _ h => h) rfl (v := ?v3) (fun w' hw' => ?y3) (held HX.out (Nat.lt_succ_self _) SY.out) ?n3
  case y3 => (obtain _h := hw'; go_simp; try (with_reducible rfl))
  simp only [Act.put, List.setIfInBounds_toArray, List.set_cons_zero, List.set_cons_succ]
  refine Ph.take2 (i := 4) (d := some 43) rfl rfl (by kernel_rfl) h12 (fun _ _ _ h => h) rfl (v := ?v4) (fun w' hw' => ?y4) (held HX.out (Nat.lt_succ_self _) SY.out) ?n4
  case y4 => (obtain _h := hw'; go_simp; try (with_reducible rfl))
  simp only [Act.put, List.setIfInBounds_toArray, List.set_cons_zero, List.set_cons_succ]
  refine Ph.take2 (i := 5) (d := some 44) rfl rfl (by kernel_rfl) h12 (fun _ _ _ h => h) rfl (v := ?v5) (fun w' hw' => ?y5) (held HX.out (Nat.lt_succ_self _) SY.out) ?n5
  case y5 => (obtain _h := hw'; go_simp; try (with_reducible rfl))
  simp only [Act.put, List.setIfInBounds_toArray, List.set_cons_zero, List.set_cons_succ]
  refine Ph.take2 (i := 6) (d := some 45) rfl rfl (by kernel_rfl) h12 (fun _ _ _ h => h) rfl (v := ?v6) (fun w' hw' => ?y6) (held HX.out (Nat.lt_succ_self _) SY.out) ?n6
  case y6 => (obtain _h := hw'; go_simp; try (with_reducible rfl))
  simp only [Act.put, List.setIfInBounds_toArray, List.set_cons_zero, List.set_cons_succ]
  refine Ph.take2 (i := 7) (d := some 46) rfl rfl (by kernel_rfl) h12 (fun _ _ _ h => h) rfl (v := ?v7) (fun w' hw' => ?y7) (held HX.out (Nat.lt_succ_self _) SY.out) ?n7
  case y7 => (obtain _h := hw'; go_simp; try (with_reducible rfl))
  simp only [Act.put, List.setIfInBounds_toArray, List.set_cons_zero, List.set_cons_succ]
  refine Ph.take2 (i := 8) (d := some 47) rfl rfl (by kernel_rfl) h12 (fun _ _ _ h => h) rfl (v := ?v8) (fun w' hw' => ?y8) (held HX.out (Nat.lt_succ_self _) SY.out) ?n8
  case y8 => (obtain _h := hw'; go_simp; try (with_reducible rfl))
  simp only [Act.put, List.setIfInBounds_toArray, List.set_cons_zero, List.set_cons_succ]
  refine Ph.take2 (i := 9) (d := some 48) rfl rfl (by kernel_rfl) h12 (fun _ _ _ h => h) rfl (v := ?v9) (fun w' hw' => ?y9) (held HX.out (Nat.lt_succ_self _) SY.out) ?n9
  case y9 => (obtain _h := hw'; go_simp; try (with_reducible rfl))
  simp only [Act.put, List.setIfInBounds_toArray, List.set_cons_zero, List.set_cons_succ]
  refine Ph.take2 (i := 10) (d := some 49) rfl rfl (by kernel_rfl) h12 (fun _ _ _ h => h) rfl (v := ?v10) (fun w' hw' => ?y10) (held HX.out (Nat.lt_succ_self _) SY.out) ?n10
  case y10 => (obtain _h := hw'; go_simp; try (with_reducible rfl))
  simp only [Act.put, List.setIfInBounds_toArray, List.set_cons_zero, List.set_cons_succ]
  refine Ph.take2 (i := 11) (d := some 50) rfl rfl (by kernel_rfl) h12 (fun _ _ _ h => h) rfl (v := ?v11) (fun w' hw' => ?y11) (held HX.out (Nat.lt_succ_self _) SY.out) ?n11
  case y11 => (obtain _h := hw'; go_simp; try (with_reducible rfl))
  simp only [Act.put, List.setIfInBounds_toArray, List.set_cons_zero, List.set_cons_succ]
  refine Ph.take2 (i := 12) (d := some 51) rfl rfl (by kernel_rfl) h12 (fun _ _ _ h => h) rfl (v := ?v12) (fun w' hw' => ?y12) (held HX.out (Nat.lt_succ_self _) SY.out) ?n12
  case y12 => (obtain _h := hw'; go_simp; try (with_reducible rfl))
  simp only [Act.put, List.setIfInBounds_toArray, List.set_cons_zero, List.set_cons_succ]
  refine Ph.take2 (i := 13) (d := some 52) rfl rfl (by kernel_rfl) h12 (fun _ _ _ h => h) rfl (v := ?v13) (fun w' hw' => ?y13) (held HX.out (Nat.lt_succ_self _) SY.out) ?n13
  case y13 => (obtain _h := hw'; go_simp; try (with_reducible rfl))
  simp only [Act.put, List.setIfInBounds_toArray, List.set_cons_zero, List.set_cons_succ]
  refine Ph.take2 (i := 14) (d := some 53) rfl rfl (by kernel_rfl) h12 (fun _ _ _ h => h) rfl (v := ?v14) (fun w' hw' => ?y14) (held HX.out (Nat.lt_succ_self _) SY.out) ?n14
  case y14 => (obtain _h := hw'; go_simp; try (with_reducible rfl))
  simp only [Act.put, List.setIfInBounds_toArray, List.set_cons_zero, List.set_cons_succ]
  refine Ph.take2 (i := 15) (d := some 54) rfl rfl (by kernel_rfl) h12 (fun _ _ _ h => h) rfl (v := ?v15) (fun w' hw' => ?y15) (held HX.out (Nat.lt_succ_self _) SY.out) ?n15
  case y15 => (obtain _h := hw'; go_simp; try (with_reducible rfl))
  simp only [Act.put, List.setIfInBounds_toArray, List.set_cons_zero, List.set_cons_succ]
  refine Ph.take2 (i := 16) (d := some 55) rfl rfl (by kernel_rfl) h12 (fun _ _ _ h => h) rfl (v := ?v16) (fun w' hw' => ?y16) (held HX.out (Nat.lt_succ_self _) SY.out) ?n16
  case y16 => (obtain _h := hw'; go_simp; try (with_reducible rfl))
  simp only [Act.put, List.setIfInBounds_toArray, List.set_cons_zero, List.set_cons_succ]
  refine Ph.take2 (i := 17) (d := some 56) rfl rfl (by kernel_rfl) h12 (fun _ _ _ h => h) rfl (v := ?v17) (fun w' hw' => ?y17) (held HX.out (Nat.lt_succ_self _) SY.out) ?n17
  case y17 => (obtain _h := hw'; go_simp; try (with_reducible rfl))
  simp only [Act.put, List.setIfInBounds_toArray, List.set_cons_zero, List.set_cons_succ]
  refine Ph.take2 (i := 18) (d := some 57) rfl rfl (by kernel_rfl) h12 (fun _ _ _ h => h) rfl (v := ?v18) (fun w' hw' => ?y18) (held HX.out (Nat.lt_succ_self _) SY.out) ?n18
  case y18 => (obtain _h := hw'; go_simp; try (with_reducible rfl))
  simp only [Act.put, List.setIfInBounds_toArray, List.set_cons_zero, List.set_cons_succ]
  refine Ph.take2 (i := 19) (d := some 58) rfl rfl (by kernel_rfl) h12 (fun _ _ _ h => h) rfl (v := .agg (c32 s)) (fun w' hw' => ?y19) (held HX.out (Nat.lt_succ_self _) SY.out) ?n19
  case y19 => exact yield_load_row 23 (.tmp 9) rfl w.heap.size rfl 23 (c32 s) (0, 0) _ hw' Try.underlying23 rfl (by rw [info23, c32_size, HS.out])
  simp only [Act.put, List.setIfInBounds_toArray, List.set_cons_zero, List.set_cons_succ]
  refine Ph.take2 (i := 21) (d := some 60) rfl rfl (by kernel_rfl) h12 (fun _ _ _ h => h) rfl (v := .agg (c32 s)) (fun w' hw' => ?y21) (held HX.out (Nat.lt_succ_self _) SY.out) ?n21
  case y21 => exact yield_load_row 23 (.tmp 9) rfl w.heap.size rfl 23 (c32 s) (0, 0) _ hw' Try.underlying23 rfl (by rw [info23, c32_size, HS.out])
  simp only [Act.put, List.setIfInBounds_toArray, List.set_cons_zero, List.set_cons_succ]
  refine Ph.only (i := 20) rfl (by kernel_rfl) rfl (fun K hK => ?_)
  go_simp
  refine (double_any s HS.out _).mono ?_
  rintro e X' ⟨rfl, hb⟩
  have HX := Lib.hid (on HX.out HY.out hb)
  clear hb
  refine hK _ _ (held HX.out (Nat.lt_succ_self _) SY.out) ?_
  clear hK K
  try simp only [List.setIfInBounds_toArray, List.set_cons_zero, List.set_cons_succ]
  refine Ph.only (i := 22) rfl (by kernel_rfl) rfl (fun K hK => ?_)
  go_simp
  refine (rdouble_any s HS.out _).mono ?_
  rintro e X' ⟨rfl, hb⟩
  have HX := Lib.hid (on HX.out HY.out hb)
  clear hb
  refine hK _ _ (held HX.out (Nat.lt_succ_self _) SY.out) ?_
  clear hK K
  try simp only [List.setIfInBounds_toArray, List.set_cons_zero, List.set_cons_succ]
  refine Ph.take2 (i := 23) (d := some 62) rfl rfl (by kernel_rfl) h12 (fun _ _ _ h => h) rfl (v := ?v23) (fun w' hw' => ?y23) (held HX.out (Nat.lt_succ_self _) SY.out) ?n23
  case y23 => (obtain _h := hw'; go_simp; try (with_reducible rfl))
  simp only [Act.put, List.setIfInBounds_toArray, List.set_cons_zero, List.set_cons_succ]
  refine Ph.take2 (i := 24) (d := some 63) rfl rfl (by kernel_rfl) h12 (fun _ _ _ h => h) rfl (v := ?v24) (fun w' hw' => ?y24) (held HX.out (Nat.lt_succ_self _) SY.out) ?n24
  case y24 => (obtain _h := hw'; go_simp; try (with_reducible rfl))
  simp only [Act.put, List.setIfInBounds_toArray, List.set_cons_zero, List.set_cons_succ]
  refine Ph.take2 (i := 25) (d := some 64) rfl rfl (by kernel_rfl) h12 (fun _ _ _ h => h) rfl (v := ?v25) (fun w' hw' => ?y25) (held HX.out (Nat.lt_succ_self _) SY.out) ?n25
  case y25 => (obtain _h := hw'; go_simp; try (with_reducible rfl))
  simp only [Act.put, List.setIfInBounds_toArray, List.set_cons_zero, List.set_cons_succ]
  refine Ph.take2 (i := 26) (d := some 65) rfl rfl (by kernel_rfl) h12 (fun _ _ _ h => h) rfl (v := .agg (c32 s)) (fun w' hw' => ?y26) (held HX.out (Nat.lt_succ_self _) SY.out) ?n26
  case y26 => exact yield_load_row 23 (.tmp 9) rfl w.heap.size rfl 23 (c32 s) (0, 0) _ hw' Try.underlying23 rfl (by rw [info23, c32_size, HS.out])
  simp only [Act.put, List.setIfInBounds_toArray, List.set_cons_zero, List.set_cons_succ]
  refine Ph.take2 (i := 29) (d := some 68) rfl rfl (by kernel_rfl) h12 (fun _ _ _ h => h) rfl (v := .agg (c32 s)) (fun w' hw' => ?y29) (held HX.out (Nat.lt_succ_self _) SY.out) ?n29
  case y29 => exact yield_load_row 23 (.tmp 9) rfl w.heap.size rfl 23 (c32 s) (0, 0) _ hw' Try.underlying23 rfl (by rw [info23, c32_size, HS.out])
  simp only [Act.put, List.setIfInBounds_toArray, List.set_cons_zero, List.set_cons_succ]
  refine Ph.only (i := 27) rfl (by kernel_rfl) rfl (fun K hK => ?_)
  go_simp
  refine (rdouble_any s HS.out _).mono ?_
  rintro e X' ⟨rfl, hb⟩
  have HX := Lib.hid (on HX.out HY.out hb)
  clear hb
  refine hK _ _ (held HX.out (Nat.lt_succ_self _) SY.out) ?_
  clear hK K
  try simp only [List.setIfInBounds_toArray, List.set_cons_zero, List.set_cons_succ]
  refine Ph.only (i := 28) rfl (by kernel_rfl) rfl (fun K hK => ?_)
  go_simp
  refine (back_dbl s HS.out _).mono ?_
  rintro e X' ⟨rfl, hb⟩
  have HX := Lib.hid (on HX.out HY.out hb)
  clear hb
  refine hK _ _ (held HX.out (Nat.lt_succ_self _) SY.out) ?_
  clear hK K
  try simp only [List.setIfInBounds_toArray, List.set_cons_zero, List.set_cons_succ]
  refine Ph.take2 (i := 30) (d := some 69) rfl rfl (by kernel_rfl) h12 (fun _ _ _ h => h) rfl (v := ?v30) (fun w' hw' => ?y30) (held HX.out (Nat.lt_succ_self _) SY.out) ?n30
  case y30 => (obtain _h := hw'; go_simp; try (with_reducible rfl))
  simp only [Act.put, List.setIfInBounds_toArray, List.set_cons_zero, List.set_cons_succ]
  refine Ph.take2 (i := 31) (d := some 70) rfl rfl (by kernel_rfl) h12 (fun _ _ _ h => h) rfl (v := ?v31) (fun w' hw' => ?y31) (held HX.out (Nat.lt_succ_self _) SY.out) ?n31
  case y31 => (obtain _h := hw'; go_simp; try (with_reducible rfl))
  simp only [Act.put, List.setIfInBounds_toArray, List.set_cons_zero, List.set_cons_succ]
  refine Ph.take2 (i := 32) (d := some 71) rfl rfl (by kernel_rfl) h12 (fun _ _ _ h => h) rfl (v := ?v32) (fun w' hw' => ?y32) (held HX.out (Nat.lt_succ_self _) SY.out) ?n32
  case y32 => (obtain _h := hw'; go_simp; try (with_reducible rfl))
  simp only [Act.put, List.setIfInBounds_toArray, List.set_cons_zero, List.set_cons_succ]
  refine Ph.take2 (i := 33) (d := some 72) rfl rfl (by kernel_rfl) h12 (fun _ _ _ h => h) rfl (v := .agg (c32 s)) (fun w' hw' => ?y33) (held HX.out (Nat.lt_succ_self _) SY.out) ?n33
  case y33 => exact yield_load_row 23 (.tmp 9) rfl w.heap.size rfl 23 (c32 s) (0, 0) _ hw' Try.underlying23 rfl (by rw [info23, c32_size, HS.out])
  simp only [Act.put, List.setIfInBounds_toArray, List.set_cons_zero, List.set_cons_succ]
  refine Ph.take2 (i := 36) (d := some 75) rfl rfl (by kernel_rfl) h12 (fun _ _ _ h => h) rfl (v := .agg (c32 s)) (fun w' hw' => ?y36) (held HX.out (Nat.lt_succ_self _) SY.out) ?n36
  case y36 => exact yield_load_row 23 (.tmp 9) rfl w.heap.size rfl 23 (c32 s) (0, 0) _ hw' Try.underlying23 rfl (by rw [info23, c32_size, HS.out])
  simp only [Act.put, List.setIfInBounds_toArray, List.set_cons_zero, List.set_cons_succ]
  refine Ph.only (i := 34) rfl (by kernel_rfl) rfl (fun K hK => ?_)
  go_simp
  refine (back_any s HS.out _).mono ?_
  rintro e X' ⟨rfl, hb⟩
  have HX := Lib.hid (on HX.out HY.out hb)
  clear hb
  refine hK _ _ (held HX.out (Nat.lt_succ_self _) SY.out) ?_
  clear hK K
  try simp only [List.setIfInBounds_toArray, List.set_cons_zero, List.set_cons_succ]
  refine Ph.only (i := 35) rfl (by kernel_rfl) rfl (fun K hK => ?_)
  go_simp
  refine (rdbl_bak s HS.out _).mono ?_
  rintro e X' ⟨rfl, hb⟩
  have HX := Lib.hid (on HX.out HY.out hb)
  clear hb
  refine hK _ _ (held HX.out (Nat.lt_succ_self _) SY.out) ?_
  clear hK K
  try simp only [List.setIfInBounds_toArray, List.set_cons_zero, List.set_cons_succ]
  refine Ph.take2 (i := 37) (d := some 76) rfl rfl (by kernel_rfl) h12 (fun _ _ _ h => h) rfl (v := ?v37) (fun w' hw' => ?y37) (held HX.out (Nat.lt_succ_self _) SY.out) ?n37
  case y37 => (obtain _h := hw'; go_simp; try (with_reducible rfl))
  simp only [Act.put, List.setIfInBounds_toArray, List.set_cons_zero, List.set_cons_succ]
  refine Ph.take2 (i := 38) (d := some 77) rfl rfl (by kernel_rfl) h12 (fun _ _ _ h => h) rfl (v := ?v38) (fun w' hw' => ?y38) (held HX.out (Nat.lt_succ_self _) SY.out) ?n38
  case y38 => (obtain _h := hw'; go_simp; try (with_reducible rfl))
  simp only [Act.put, List.setIfInBounds_toArray, List.set_cons_zero, List.set_cons_succ]
  refine Ph.take2 (i := 39) (d := some 78) rfl rfl (by kernel_rfl) h12 (fun _ _ _ h => h) rfl (v := ?v39) (fun w' hw' => ?y39) (held HX.out (Nat.lt_succ_self _) SY.out) ?n39
  case y39 => (obtain _h := hw'; go_simp; try (with_reducible rfl))
  simp only [Act.put, List.setIfInBounds_toArray, List.set_cons_zero, List.set_cons_succ]
  refine Ph.only (i := 40) rfl (by kernel_rfl) rfl (fun K hK => ?_)
  go_simp
  refine (awake2_any _).mono ?_
  rintro e X' ⟨rfl, hb⟩
  have HX := Lib.hid (on HX.out HY.out hb)
  clear hb
  refine hK _ _ (held HX.out (Nat.lt_succ_self _) SY.out) ?_
  clear hK K
  try simp only [List.setIfInBounds_toArray, List.set_cons_zero, List.set_cons_succ]
  refine Ph.take2 (i := 41) (d := some 80) rfl rfl (by kernel_rfl) h12 (fun _ _ _ h => h) rfl (v := ?v41) (fun w' hw' => ?y41) (held HX.out (Nat.lt_succ_self _) SY.out) ?n41
  case y41 => (obtain _h := hw'; go_simp; try (with_reducible rfl))
  simp only [Act.put, List.setIfInBounds_toArray, List.set_cons_zero, List.set_cons_succ]
  refine Ph.take2 (i := 42) (d := some 10) rfl rfl (by kernel_rfl) h12 (fun _ _ _ h => h) rfl (v := ?v42) (fun w' hw' => ?y42) (held HX.out (Nat.lt_succ_self _) SY.out) ?n42
  case y42 => (obtain _h := hw'; go_simp; try (with_reducible rfl))
  simp only [Act.put, List.setIfInBounds_toArray, List.set_cons_zero, List.set_cons_succ]
  refine Ph.done (by kernel_rfl) ?_ _
  go_wp2_with fail
  go_ret
  exact ⟨rfl, HF.out.trans (HX.out.mono (Nat.le_succ _))⟩
end Go.Proofs.Ytdkimnigckpncaa
