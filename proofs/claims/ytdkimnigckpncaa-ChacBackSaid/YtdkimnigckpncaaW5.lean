/-
  The walks of the double rounds: the document's Double.
-/
import Derived.Test.YtdkimnigckpncaaP
namespace Go.Proofs.Ytdkimnigckpncaa
open Go.RowKit

set_option maxRecDepth 100000 in
set_option maxHeartbeats 4000000 in
theorem rdouble_any (s : List (BitVec 32)) (hs : s.length = 16) (w : World) : Calls Try.prog 22 #[.agg (c32 s)] w fun e w' => e = .returned (.agg (c32 (Qu.dbl s))) ∧ Below w.heap.size w w' := by
  go_enter Try.func22, Try.ntmps22
  go_wp2_with fail
  refine (quarters_any _).mono ?_
  rintro e w1 ⟨rfl, hb1⟩
  have hB := hb1.block w.heap.size (by simp; omega)
  have hB1 := hb1.block (w.heap.size + 1) (by simp)
  rw [heap_alloc2_old] at hB
  rw [heap_alloc2_new] at hB1
  have hz : w.heap.size + 1 < w1.heap.size := by have := hb1.size; simp at this; omega
  have hb : Below w.heap.size w w1 := (((Below.refl _ _).alloc (Nat.le_refl _) _).alloc (by simp) _).trans (hb1.mono (by simp; omega))
  clear hb1
  go_wp2_with (refine wpList_store_whole rfl 66 (.tmp 3) (.tmp 10) rfl w1.heap.size 66 _ tab rfl rfl (heap_alloc_new _ _) (by kernel_rfl) rfl (by kernel_rfl) ?_; intro w2 hT gr)
  have hb2 := new_below hb (by omega) gr
  have hB2 := (new_keep gr (by omega)).trans hB
  have hB3 := (new_keep gr (by omega)).trans hB1
  have hz2 : w1.heap.size < w2.heap.size := Blk_lt hT
  clear gr
  obtain ⟨tb, htb⟩ : ∃ tb, tb = w1.heap.size := ⟨_, rfl⟩
  rw [← htb] at hT hz2 hz
  simp only [← htb]
  clear hb hB hB1 htb
  go_loopw [4] (fun i wr => ∃ (k : Nat) (s' : List (BitVec 32)), k ≤ 8 ∧ (i = .int .i64 k) ∧ Hid (s' = ((Qu.places).take k).foldl (Qu.at4 Qu.qr) s) ∧ Hid (s'.length = 16) ∧ wr.heap[w.heap.size]? = some (.cells (c32 s') 23 (0, 0)) ∧
      Hid (wr.heap[w.heap.size + 1]? = some (.cells #[.int .u32 0, .int .u32 0, .int .u32 0, .int .u32 0, .int .u32 0, .int .u32 0, .int .u32 0, .int .u32 0, .int .u32 0, .int .u32 0, .int .u32 0, .int .u32 0, .int .u32 0, .int .u32 0, .int .u32 0, .int .u32 0] 23 (0, 0))) ∧ wr.heap[tb]? = some (.cells tab 66 (0, 0)) ∧ Below w.heap.size w wr ∧ tb < wr.heap.size) (fun i _ => 8 - (intOf i).toNat)
  case atStart => exact ⟨0, s, by omega, rfl, rfl, hs, hB2, hB3, hT, hb2, hz2⟩
  case round =>
    obtain ⟨k, s', hk, rfl, hs1, hs2, hh, hh1, hT', hbr, hzr⟩ := hrel
    clear hB2 hB3 hT hb2 hz2 hs
    by_cases hlt : k < 8
    · obtain ⟨j, hj⟩ : ∃ j, j = k := ⟨_, rfl⟩
      have hjk : j = k := hj
      subst hj
      have hrange := tab_range hT' j (by omega)
      obtain ⟨p, hp⟩ : ∃ p, p = Qu.places.getD j default := ⟨_, rfl⟩
      rw [← hp] at hrange
      have hf : Qu.Four p := by rw [hp]; exact Qu.places_four _ (places_mem (by omega))
      have HP := Lib.hid hp
      clear hp
      have HJ : Hid (j = j) := rfl
      have hj8 : j < 8 := by omega
      have hj8' : (j : Int) < 8 := by omega
      clear hjk
      obtain ⟨p0, p1, p2, p3⟩ := p
      simp only at hrange
      obtain ⟨l0, l1, l2, l3, HF⟩ := hf
      simp only at l0 l1 l2 l3
      have HH := Lib.hid HF
      clear HF
      have m0 : (p0 : Int) < 16 := by omega
      have m1 : (p1 : Int) < 16 := by omega
      have m2 : (p2 : Int) < 16 := by omega
      have m3 : (p3 : Int) < 16 := by omega
      have hRange := Lib.hid hrange
      clear hrange
      go_wp2_with (refine wpList_load_mid rfl 65 (.tmp 16) rfl tb (j * 4) rfl [.int .i64 (p0 : Int), .int .i64 (p1 : Int), .int .i64 (p2 : Int), .int .i64 (p3 : Int)] _ hRange.out Try.underlying65 rfl (by kernel_rfl) ?_)
      have HX0 := Lib.hid (Fr.new hh (by omega) #[.int .i64 (p0 : Int), .int .i64 (p1 : Int), .int .i64 (p2 : Int), .int .i64 (p3 : Int)])
      generalize (wr.alloc (.cells #[.int .i64 (p0 : Int), .int .i64 (p1 : Int), .int .i64 (p2 : Int), .int .i64 (p3 : Int)] 65)) = W at *
      have H5 := Lib.hid hbr
      have H3 := Lib.hid hh; have H4 := hh1; have H6 := Lib.hid hT'
      clear hh hh1 hbr hT' hRange
      obtain ⟨b, hbb⟩ : ∃ b, b = w.heap.size := ⟨_, rfl⟩
      obtain ⟨g, hg⟩ : ∃ g, g = wr.heap.size := ⟨_, rfl⟩
      simp only [← hbb, ← hg] at HX0 ⊢
      have hbg : Hid (b ≠ g) := by show b ≠ g; omega
      have H1 := Lib.hid hbb; have H2 := Lib.hid hg
      clear hbb hg
      have hS1 := HX0.out.drew.both hs2.out l0 l1 l2 l3
      have h12 : ∀ w' : World, Ps b g p0 p1 p2 p3 s' w' → Pl g p0 p1 p2 p3 w' := fun _ h => h.1
      refine Ph.region 16 (Ps b g p0 p1 p2 p3 s') (Pl g p0 p1 p2 p3) (by kernel_rfl) ?_
      refine Ph.take2 (i := 0) (d := some 19) rfl rfl (by kernel_rfl) h12 (fun _ _ _ h => h) rfl (v := ?v0) (fun w' hw' => ?y0) hS1 ?n0
      case y0 => (obtain ⟨q0, q1, q2, q3⟩ := hw'; go_simp; try (with_reducible rfl))
      simp only [Act.put, List.setIfInBounds_toArray, List.set_cons_zero, List.set_cons_succ]
      refine Ph.take2 (i := 1) (d := some 20) rfl rfl (by kernel_rfl) h12 (fun _ _ _ h => h) rfl (v := ?v1) (fun w' hw' => ?y1) hS1 ?n1
      case y1 => (obtain ⟨q0, q1, q2, q3⟩ := hw'; go_simp; try (with_reducible rfl))
      simp only [Act.put, List.setIfInBounds_toArray, List.set_cons_zero, List.set_cons_succ]
      refine Ph.take2 (i := 2) (d := some 21) rfl rfl (by kernel_rfl) h12 (fun _ _ _ h => h) rfl (v := ?v2) (fun w' hw' => ?y2) hS1 ?n2
      case y2 => (obtain ⟨q0, q1, q2, q3⟩ := hw'; go_simp; try (with_reducible rfl))
      simp only [Act.put, List.setIfInBounds_toArray, List.set_cons_zero, List.set_cons_succ]
      refine Ph.take1 (i := 3) (d := some 22) rfl rfl (by kernel_rfl) (fun _ _ _ h => h) rfl (v := ?v3) (fun w' hw' => ?y3) hS1 ?n3
      case y3 => (obtain ⟨⟨q0, q1, q2, q3⟩, r0, r1, r2, r3⟩ := hw'; go_simp; try (with_reducible rfl))
      simp only [Act.put, List.setIfInBounds_toArray, List.set_cons_zero, List.set_cons_succ]
      refine Ph.take2 (i := 4) (d := some 23) rfl rfl (by kernel_rfl) h12 (fun _ _ _ h => h) rfl (v := ?v4) (fun w' hw' => ?y4) hS1 ?n4
      case y4 => (obtain ⟨q0, q1, q2, q3⟩ := hw'; go_simp; try (with_reducible rfl))
      simp only [Act.put, List.setIfInBounds_toArray, List.set_cons_zero, List.set_cons_succ]
      refine Ph.take2 (i := 5) (d := some 24) rfl rfl (by kernel_rfl) h12 (fun _ _ _ h => h) rfl (v := ?v5) (fun w' hw' => ?y5) hS1 ?n5
      case y5 => (obtain ⟨q0, q1, q2, q3⟩ := hw'; go_simp; try (with_reducible rfl))
      simp only [Act.put, List.setIfInBounds_toArray, List.set_cons_zero, List.set_cons_succ]
      refine Ph.take2 (i := 6) (d := some 25) rfl rfl (by kernel_rfl) h12 (fun _ _ _ h => h) rfl (v := ?v6) (fun w' hw' => ?y6) hS1 ?n6
      case y6 => (obtain ⟨q0, q1, q2, q3⟩ := hw'; go_simp; try (with_reducible rfl))
      simp only [Act.put, List.setIfInBounds_toArray, List.set_cons_zero, List.set_cons_succ]
      refine Ph.take1 (i := 7) (d := some 26) rfl rfl (by kernel_rfl) (fun _ _ _ h => h) rfl (v := ?v7) (fun w' hw' => ?y7) hS1 ?n7
      case y7 => (obtain ⟨⟨q0, q1, q2, q3⟩, r0, r1, r2, r3⟩ := hw'; go_simp; try (with_reducible rfl))
      simp only [Act.put, List.setIfInBounds_toArray, List.set_cons_zero, List.set_cons_succ]
      refine Ph.take2 (i := 8) (d := some 27) rfl rfl (by kernel_rfl) h12 (fun _ _ _ h => h) rfl (v := ?v8) (fun w' hw' => ?y8) hS1 ?n8
      case y8 => (obtain ⟨q0, q1, q2, q3⟩ := hw'; go_simp; try (with_reducible rfl))
      simp only [Act.put, List.setIfInBounds_toArray, List.set_cons_zero, List.set_cons_succ]
      refine Ph.take2 (i := 9) (d := some 28) rfl rfl (by kernel_rfl) h12 (fun _ _ _ h => h) rfl (v := ?v9) (fun w' hw' => ?y9) hS1 ?n9
      case y9 => (obtain ⟨q0, q1, q2, q3⟩ := hw'; go_simp; try (with_reducible rfl))
      simp only [Act.put, List.setIfInBounds_toArray, List.set_cons_zero, List.set_cons_succ]
      refine Ph.take2 (i := 10) (d := some 29) rfl rfl (by kernel_rfl) h12 (fun _ _ _ h => h) rfl (v := ?v10) (fun w' hw' => ?y10) hS1 ?n10
      case y10 => (obtain ⟨q0, q1, q2, q3⟩ := hw'; go_simp; try (with_reducible rfl))
      simp only [Act.put, List.setIfInBounds_toArray, List.set_cons_zero, List.set_cons_succ]
      refine Ph.take1 (i := 11) (d := some 30) rfl rfl (by kernel_rfl) (fun _ _ _ h => h) rfl (v := ?v11) (fun w' hw' => ?y11) hS1 ?n11
      case y11 => (obtain ⟨⟨q0, q1, q2, q3⟩, r0, r1, r2, r3⟩ := hw'; go_simp; try (with_reducible rfl))
      simp only [Act.put, List.setIfInBounds_toArray, List.set_cons_zero, List.set_cons_succ]
      refine Ph.take2 (i := 12) (d := some 31) rfl rfl (by kernel_rfl) h12 (fun _ _ _ h => h) rfl (v := ?v12) (fun w' hw' => ?y12) hS1 ?n12
      case y12 => (obtain ⟨q0, q1, q2, q3⟩ := hw'; go_simp; try (with_reducible rfl))
      simp only [Act.put, List.setIfInBounds_toArray, List.set_cons_zero, List.set_cons_succ]
      refine Ph.take2 (i := 13) (d := some 32) rfl rfl (by kernel_rfl) h12 (fun _ _ _ h => h) rfl (v := ?v13) (fun w' hw' => ?y13) hS1 ?n13
      case y13 => (obtain ⟨q0, q1, q2, q3⟩ := hw'; go_simp; try (with_reducible rfl))
      simp only [Act.put, List.setIfInBounds_toArray, List.set_cons_zero, List.set_cons_succ]
      refine Ph.take2 (i := 14) (d := some 33) rfl rfl (by kernel_rfl) h12 (fun _ _ _ h => h) rfl (v := ?v14) (fun w' hw' => ?y14) hS1 ?n14
      case y14 => (obtain ⟨q0, q1, q2, q3⟩ := hw'; go_simp; try (with_reducible rfl))
      simp only [Act.put, List.setIfInBounds_toArray, List.set_cons_zero, List.set_cons_succ]
      refine Ph.take1 (i := 15) (d := some 34) rfl rfl (by kernel_rfl) (fun _ _ _ h => h) rfl (v := ?v15) (fun w' hw' => ?y15) hS1 ?n15
      case y15 => (obtain ⟨⟨q0, q1, q2, q3⟩, r0, r1, r2, r3⟩ := hw'; go_simp; try (with_reducible rfl))
      simp only [Act.put, List.setIfInBounds_toArray, List.set_cons_zero, List.set_cons_succ]
      refine Ph.only (i := 16) rfl (by kernel_rfl) rfl (fun K hK => ?_)
      go_simp
      refine (rround_any _ _ _ _ _).mono ?_
      rintro e w' ⟨rfl, rfl⟩
      have hS2 := h12 _ hS1
      refine hK _ _ hS2 ?_
      clear hK K hS1
      try simp only [List.setIfInBounds_toArray, List.set_cons_zero, List.set_cons_succ]
      refine Ph.take2 (i := 17) (d := some 18) rfl rfl (by kernel_rfl) h12 (fun _ _ _ h => h) rfl (v := ?v17) (fun w' hw' => ?y17) hS2 ?n17
      case y17 => (obtain ⟨q0, q1, q2, q3⟩ := hw'; go_simp; try (with_reducible rfl))
      simp only [Act.put, List.setIfInBounds_toArray, List.set_cons_zero, List.set_cons_succ]
      refine Ph.take2 (i := 18) (d := some 36) rfl rfl (by kernel_rfl) h12 (fun _ _ _ h => h) rfl (v := ?v18) (fun w' hw' => ?y18) hS2 ?n18
      case y18 => (obtain ⟨q0, q1, q2, q3⟩ := hw'; go_simp; try (with_reducible rfl))
      simp only [Act.put, List.setIfInBounds_toArray, List.set_cons_zero, List.set_cons_succ]
      refine Ph.take2 (i := 19) (d := some 37) rfl rfl (by kernel_rfl) h12 (fun _ _ _ h => h) rfl (v := ?v19) (fun w' hw' => ?y19) hS2 ?n19
      case y19 => (obtain ⟨q0, q1, q2, q3⟩ := hw'; go_simp; try (with_reducible rfl))
      simp only [Act.put, List.setIfInBounds_toArray, List.set_cons_zero, List.set_cons_succ]
      refine Ph.take2 (i := 20) (d := some 38) rfl rfl (by kernel_rfl) h12 (fun _ _ _ h => h) rfl (v := ?v20) (fun w' hw' => ?y20) hS2 ?n20
      case y20 => (obtain ⟨q0, q1, q2, q3⟩ := hw'; go_simp; try (with_reducible rfl))
      simp only [Act.put, List.setIfInBounds_toArray, List.set_cons_zero, List.set_cons_succ]
      refine Ph.take2 (i := 21) (d := some 39) rfl rfl (by kernel_rfl) h12 (fun _ _ _ h => h) rfl (v := ?v21) (fun w' hw' => ?y21) hS2 ?n21
      case y21 => (obtain ⟨q0, q1, q2, q3⟩ := hw'; go_simp; try (with_reducible rfl))
      simp only [Act.put, List.setIfInBounds_toArray, List.set_cons_zero, List.set_cons_succ]
      refine Ph.take2 (i := 22) (d := some 6) rfl rfl (by kernel_rfl) h12 (fun _ _ _ h => h) rfl (v := ?v22) (fun w' hw' => ?y22) hS2 ?n22
      case y22 => (obtain ⟨q0, q1, q2, q3⟩ := hw'; go_simp; try (with_reducible rfl))
      simp only [Act.put, List.setIfInBounds_toArray, List.set_cons_zero, List.set_cons_succ]
      refine Ph.take2 (i := 23) (d := some 7) rfl rfl (by kernel_rfl) h12 (fun _ _ _ h => h) rfl (v := ?v23) (fun w' hw' => ?y23) hS2 ?n23
      case y23 => (obtain ⟨q0, q1, q2, q3⟩ := hw'; go_simp; try (with_reducible rfl))
      simp only [Act.put, List.setIfInBounds_toArray, List.set_cons_zero, List.set_cons_succ]
      refine Ph.take2 (i := 24) (d := some 8) rfl rfl (by kernel_rfl) h12 (fun _ _ _ h => h) rfl (v := ?v24) (fun w' hw' => ?y24) hS2 ?n24
      case y24 => (obtain ⟨q0, q1, q2, q3⟩ := hw'; go_simp; try (with_reducible rfl))
      simp only [Act.put, List.setIfInBounds_toArray, List.set_cons_zero, List.set_cons_succ]
      refine Ph.take2 (i := 25) (d := some 9) rfl rfl (by kernel_rfl) h12 (fun _ _ _ h => h) rfl (v := ?v25) (fun w' hw' => ?y25) hS2 ?n25
      case y25 => (obtain ⟨q0, q1, q2, q3⟩ := hw'; go_simp; try (with_reducible rfl))
      simp only [Act.put, List.setIfInBounds_toArray, List.set_cons_zero, List.set_cons_succ]
      refine Ph.done (by kernel_rfl) ?_ _
      obtain ⟨z0, hz0⟩ : ∃ z, z = (Qu.qr ⟨Qu.wd s' p0, Qu.wd s' p1, Qu.wd s' p2, Qu.wd s' p3⟩).a := ⟨_, rfl⟩
      obtain ⟨z1, hz1⟩ : ∃ z, z = (Qu.qr ⟨Qu.wd s' p0, Qu.wd s' p1, Qu.wd s' p2, Qu.wd s' p3⟩).b := ⟨_, rfl⟩
      obtain ⟨z2, hz2⟩ : ∃ z, z = (Qu.qr ⟨Qu.wd s' p0, Qu.wd s' p1, Qu.wd s' p2, Qu.wd s' p3⟩).c := ⟨_, rfl⟩
      obtain ⟨z3, hz3⟩ : ∃ z, z = (Qu.qr ⟨Qu.wd s' p0, Qu.wd s' p1, Qu.wd s' p2, Qu.wd s' p3⟩).d := ⟨_, rfl⟩
      simp only [← hz0, ← hz1, ← hz2, ← hz3]
      have HZ := Lib.hid (And.intro hz0 (And.intro hz1 (And.intro hz2 hz3)))
      clear hz0 hz1 hz2 hz3
      have HX1 := Lib.hid HX0.out.drew
      clear HX0 hS2 h12
      generalize W.drew = X at *
      go_wp2_with fail
      have h12 : ∀ w' : World, Pl g p0 p1 p2 p3 w' → Pl g p0 p1 p2 p3 w' := fun _ h => h
      have HX2 := Lib.hid HX1.out.drew
      clear HX1
      have HX1 := HX2
      clear HX2
      refine Ph.region 99 (Pl g p0 p1 p2 p3) (Pl g p0 p1 p2 p3) (by kernel_rfl) ?_
      generalize X.drew = X' at *
      clear X
      obtain ⟨X, hXX⟩ : ∃ X, X = X' := ⟨_, rfl⟩
      subst hXX
      refine Ph.take2 (i := 0) (d := some 40) rfl rfl (by kernel_rfl) h12 (fun _ _ _ h => h) rfl (v := ?vB0) (fun w' hw' => ?yB0) HX1.out.four ?nB0
      case yB0 => (obtain ⟨q0, q1, q2, q3⟩ := hw'; go_simp; try (with_reducible rfl))
      simp only [Act.put, List.setIfInBounds_toArray, List.set_cons_zero, List.set_cons_succ]
      refine Ph.take2 (i := 1) (d := some 41) rfl rfl (by kernel_rfl) h12 (fun _ _ _ h => h) rfl (v := ?vB1) (fun w' hw' => ?yB1) HX1.out.four ?nB1
      case yB1 => (obtain ⟨q0, q1, q2, q3⟩ := hw'; go_simp; try (with_reducible rfl))
      simp only [Act.put, List.setIfInBounds_toArray, List.set_cons_zero, List.set_cons_succ]
      refine Ph.take2 (i := 2) (d := some 42) rfl rfl (by kernel_rfl) h12 (fun _ _ _ h => h) rfl (v := ?vB2) (fun w' hw' => ?yB2) HX1.out.four ?nB2
      case yB2 => (obtain ⟨q0, q1, q2, q3⟩ := hw'; go_simp; try (with_reducible rfl))
      simp only [Act.put, List.setIfInBounds_toArray, List.set_cons_zero, List.set_cons_succ]
      refine Ph.take2 (i := 3) (d := some 43) rfl rfl (by kernel_rfl) h12 (fun _ _ _ h => h) rfl (v := ?vB3) (fun w' hw' => ?yB3) HX1.out.four ?nB3
      case yB3 => (obtain ⟨q0, q1, q2, q3⟩ := hw'; go_simp; try (with_reducible rfl))
      simp only [Act.put, List.setIfInBounds_toArray, List.set_cons_zero, List.set_cons_succ]
      refine Ph.take2 (i := 4) (d := some 44) rfl rfl (by kernel_rfl) h12 (fun _ _ _ h => h) rfl (v := ?vB4) (fun w' hw' => ?yB4) HX1.out.four ?nB4
      case yB4 => (obtain ⟨q0, q1, q2, q3⟩ := hw'; go_simp; try (with_reducible rfl))
      simp only [Act.put, List.setIfInBounds_toArray, List.set_cons_zero, List.set_cons_succ]
      refine Ph.take2 (i := 5) (d := some 45) rfl rfl (by kernel_rfl) h12 (fun _ _ _ h => h) rfl (v := ?vB5) (fun w' hw' => ?yB5) HX1.out.four ?nB5
      case yB5 => (obtain ⟨q0, q1, q2, q3⟩ := hw'; go_simp; try (with_reducible rfl))
      simp only [Act.put, List.setIfInBounds_toArray, List.set_cons_zero, List.set_cons_succ]
      refine Ph.take2 (i := 6) (d := some 46) rfl rfl (by kernel_rfl) h12 (fun _ _ _ h => h) rfl (v := ?vB6) (fun w' hw' => ?yB6) HX1.out.four ?nB6
      case yB6 => (obtain ⟨q0, q1, q2, q3⟩ := hw'; go_simp; try (with_reducible rfl))
      simp only [Act.put, List.setIfInBounds_toArray, List.set_cons_zero, List.set_cons_succ]
      refine Ph.take2 (i := 7) (d := some 47) rfl rfl (by kernel_rfl) h12 (fun _ _ _ h => h) rfl (v := ?vB7) (fun w' hw' => ?yB7) HX1.out.four ?nB7
      case yB7 => (obtain ⟨q0, q1, q2, q3⟩ := hw'; go_simp; try (with_reducible rfl))
      simp only [Act.put, List.setIfInBounds_toArray, List.set_cons_zero, List.set_cons_succ]
      refine Ph.take2 (i := 8) (d := some 48) rfl rfl (by kernel_rfl) h12 (fun _ _ _ h => h) rfl (v := ?vB8) (fun w' hw' => ?yB8) HX1.out.four ?nB8
      case yB8 => (obtain ⟨q0, q1, q2, q3⟩ := hw'; go_simp; try (with_reducible rfl))
      simp only [Act.put, List.setIfInBounds_toArray, List.set_cons_zero, List.set_cons_succ]
      refine Ph.take2 (i := 9) (d := some 49) rfl rfl (by kernel_rfl) h12 (fun _ _ _ h => h) rfl (v := ?vB9) (fun w' hw' => ?yB9) HX1.out.four ?nB9
      case yB9 => (obtain ⟨q0, q1, q2, q3⟩ := hw'; go_simp; try (with_reducible rfl))
      simp only [Act.put, List.setIfInBounds_toArray, List.set_cons_zero, List.set_cons_succ]
      refine Ph.take2 (i := 10) (d := some 50) rfl rfl (by kernel_rfl) h12 (fun _ _ _ h => h) rfl (v := ?vB10) (fun w' hw' => ?yB10) HX1.out.four ?nB10
      case yB10 => (obtain ⟨q0, q1, q2, q3⟩ := hw'; go_simp; try (with_reducible rfl))
      simp only [Act.put, List.setIfInBounds_toArray, List.set_cons_zero, List.set_cons_succ]
      refine Ph.take2 (i := 11) (d := some 51) rfl rfl (by kernel_rfl) h12 (fun _ _ _ h => h) rfl (v := ?vB11) (fun w' hw' => ?yB11) HX1.out.four ?nB11
      case yB11 => (obtain ⟨q0, q1, q2, q3⟩ := hw'; go_simp; try (with_reducible rfl))
      simp only [Act.put, List.setIfInBounds_toArray, List.set_cons_zero, List.set_cons_succ]
      refine Ph.take2 (i := 12) (d := some 52) rfl rfl (by kernel_rfl) h12 (fun _ _ _ h => h) rfl (v := ?vB12) (fun w' hw' => ?yB12) HX1.out.four ?nB12
      case yB12 => (obtain ⟨q0, q1, q2, q3⟩ := hw'; go_simp; try (with_reducible rfl))
      simp only [Act.put, List.setIfInBounds_toArray, List.set_cons_zero, List.set_cons_succ]
      refine Ph.only (i := 13) rfl (by kernel_rfl) rfl (fun K hK => ?_)
      have cc := HX1.out.cell (j := p0) (by first | (rw [c32_size, hs2.out]; exact l0) | (simp only [Array.size_setIfInBounds, c32_size, hs2.out]; exact l0))
      have ff := HX1.out.free p0
      go_simp
      have HX2 := Lib.hid (HX1.out.set hbg.out p0 (.int .u32 (u z0)))
      refine hK _ _ HX2.out.four ?_
      clear hK K HX1 cc ff
      try simp only [List.setIfInBounds_toArray, List.set_cons_zero, List.set_cons_succ]
      generalize hXX : (X.setCell ⟨b, p0, none⟩ (.int .u32 (u z0))) = X' at *
      clear hXX X
      obtain ⟨X, hXX⟩ : ∃ X, X = X' := ⟨_, rfl⟩
      subst hXX
      have HX1 := HX2
      clear HX2
      refine Ph.take2 (i := 14) (d := some 53) rfl rfl (by kernel_rfl) h12 (fun _ _ _ h => h) rfl (v := ?vB14) (fun w' hw' => ?yB14) HX1.out.four ?nB14
      case yB14 => (obtain ⟨q0, q1, q2, q3⟩ := hw'; go_simp; try (with_reducible rfl))
      simp only [Act.put, List.setIfInBounds_toArray, List.set_cons_zero, List.set_cons_succ]
      refine Ph.only (i := 15) rfl (by kernel_rfl) rfl (fun K hK => ?_)
      have cc := HX1.out.cell (j := p1) (by first | (rw [c32_size, hs2.out]; exact l1) | (simp only [Array.size_setIfInBounds, c32_size, hs2.out]; exact l1))
      have ff := HX1.out.free p1
      go_simp
      have HX2 := Lib.hid (HX1.out.set hbg.out p1 (.int .u32 (u z1)))
      refine hK _ _ HX2.out.four ?_
      clear hK K HX1 cc ff
      try simp only [List.setIfInBounds_toArray, List.set_cons_zero, List.set_cons_succ]
      generalize hXX : (X.setCell ⟨b, p1, none⟩ (.int .u32 (u z1))) = X' at *
      clear hXX X
      obtain ⟨X, hXX⟩ : ∃ X, X = X' := ⟨_, rfl⟩
      subst hXX
      have HX1 := HX2
      clear HX2
      refine Ph.take2 (i := 16) (d := some 54) rfl rfl (by kernel_rfl) h12 (fun _ _ _ h => h) rfl (v := ?vB16) (fun w' hw' => ?yB16) HX1.out.four ?nB16
      case yB16 => (obtain ⟨q0, q1, q2, q3⟩ := hw'; go_simp; try (with_reducible rfl))
      simp only [Act.put, List.setIfInBounds_toArray, List.set_cons_zero, List.set_cons_succ]
      refine Ph.only (i := 17) rfl (by kernel_rfl) rfl (fun K hK => ?_)
      have cc := HX1.out.cell (j := p2) (by first | (rw [c32_size, hs2.out]; exact l2) | (simp only [Array.size_setIfInBounds, c32_size, hs2.out]; exact l2))
      have ff := HX1.out.free p2
      go_simp
      have HX2 := Lib.hid (HX1.out.set hbg.out p2 (.int .u32 (u z2)))
      refine hK _ _ HX2.out.four ?_
      clear hK K HX1 cc ff
      try simp only [List.setIfInBounds_toArray, List.set_cons_zero, List.set_cons_succ]
      generalize hXX : (X.setCell ⟨b, p2, none⟩ (.int .u32 (u z2))) = X' at *
      clear hXX X
      obtain ⟨X, hXX⟩ : ∃ X, X = X' := ⟨_, rfl⟩
      subst hXX
      have HX1 := HX2
      clear HX2
      refine Ph.take2 (i := 18) (d := some 55) rfl rfl (by kernel_rfl) h12 (fun _ _ _ h => h) rfl (v := ?vB18) (fun w' hw' => ?yB18) HX1.out.four ?nB18
      case yB18 => (obtain ⟨q0, q1, q2, q3⟩ := hw'; go_simp; try (with_reducible rfl))
      simp only [Act.put, List.setIfInBounds_toArray, List.set_cons_zero, List.set_cons_succ]
      refine Ph.only (i := 19) rfl (by kernel_rfl) rfl (fun K hK => ?_)
      have cc := HX1.out.cell (j := p3) (by first | (rw [c32_size, hs2.out]; exact l3) | (simp only [Array.size_setIfInBounds, c32_size, hs2.out]; exact l3))
      have ff := HX1.out.free p3
      go_simp
      have HX2 := Lib.hid (HX1.out.set hbg.out p3 (.int .u32 (u z3)))
      refine hK _ _ HX2.out.four ?_
      clear hK K HX1 cc ff
      try simp only [List.setIfInBounds_toArray, List.set_cons_zero, List.set_cons_succ]
      generalize hXX : (X.setCell ⟨b, p3, none⟩ (.int .u32 (u z3))) = X' at *
      clear hXX X
      obtain ⟨X, hXX⟩ : ∃ X, X = X' := ⟨_, rfl⟩
      subst hXX
      have HX1 := HX2
      clear HX2
      refine Ph.done (by kernel_rfl) ?_ _
      have hst := HX1.out.st
      simp only [c32_set] at hst
      have hat : Qu.at4 Qu.qr s' (p0, p1, p2, p3) = (((s'.set p0 z0).set p1 z1).set p2 z2).set p3 z3 := by
        obtain ⟨e0, e1, e2, e3⟩ := HZ.out
        rw [e0, e1, e2, e3]; rfl
      rw [← hat] at hst
      have HS := Lib.hid hst
      clear hst hat
      have R1 : Hid (X.heap[w.heap.size + 1]? = some (.cells #[.int .u32 0, .int .u32 0, .int .u32 0, .int .u32 0, .int .u32 0, .int .u32 0, .int .u32 0, .int .u32 0, .int .u32 0, .int .u32 0, .int .u32 0, .int .u32 0, .int .u32 0, .int .u32 0, .int .u32 0, .int .u32 0] 23 (0, 0))) := (HX1.out.gr.block (w.heap.size + 1) (by omega) (by rw [H1.out]; simp)).trans H4.out
      have R2 : Hid (Below w.heap.size w X) := grown_below H5.out HX1.out.gr (by omega) (Nat.le_of_eq H1.out.symm)
      have R3 : Hid (tb < X.heap.size) := Nat.lt_of_lt_of_le hzr HX1.out.gr.size
      have R7 : Hid (X.heap[tb]? = some (.cells tab 66 (0, 0))) := (HX1.out.gr.block tb hzr (by rw [H1.out]; simp; omega)).trans H6.out
      have R4 : Hid (Qu.at4 Qu.qr s' (p0, p1, p2, p3) = ((Qu.places).take (j + 1)).foldl (Qu.at4 Qu.qr) s) := by
        have hl : Qu.places.length = 8 := rfl
        rw [List.take_add_one, List.foldl_append, ← hs1.out, HP.out, List.getD_eq_getElem?_getD, List.getElem?_eq_getElem (by omega)]
        rfl
      have R5 : Hid ((Qu.at4 Qu.qr s' (p0, p1, p2, p3)).length = 16) := (Qu.at4_length _ _ _).trans hs2.out
      have R6 : Hid (X.heap[w.heap.size]? = some (.cells (c32 (Qu.at4 Qu.qr s' (p0, p1, p2, p3))) 23 (0, 0))) := by
        have := HS.out
        rwa [H1.out] at this
      clear HX1 HS HZ H4 H3 H6
      simp only [H1.out, H2.out]
      go_wp2_with fail
      go_roundw
      case rel => exact ⟨j + 1, Qu.at4 Qu.qr s' (p0, p1, p2, p3), by omega, by go_num, R4, R5, R6.out, R1, R7.out, R2.out, R3.out⟩
      case measure => simp [intOf]; omega
    · have hk8 : k = 8 := by omega
      subst hk8
      skip
      have HD : Hid (s' = Qu.dbl s) := hs1.out
      clear hs1
      have hz1 := hh1.out
      clear hh1
      go_wp2_with (first | (refine wpList_load_row rfl 23 (.tmp 1) rfl w.heap.size rfl 23 (c32 s') (0, 0) _ hh Try.underlying23 rfl (by rw [info23, c32_size, hs2.out]) ?_) | (refine wpList_store_row rfl 23 (.tmp 2) _ rfl (w.heap.size + 1) 23 _ (c32 s') rfl rfl hz1 (by rw [info23, c32_size, hs2.out]) (by rw [c32_size, hs2.out]; rfl) (c32_all _) ?_))
      refine bodyPost_ret (v := .agg (c32 s')) (results_cell_row rfl _ _ (w.heap.size + 1) 23 (c32 s') (0, 0) _ rfl (setRow_heap _ _ _ _ _ _ hz1) Try.underlying23 rfl (by rw [info23, c32_size, hs2.out])) rfl ?_
      exact ⟨by rw [HD.out], below_row hbr (by omega) _⟩
end Go.Proofs.Ytdkimnigckpncaa
