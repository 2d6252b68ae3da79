/-
  The walk of the law QuarTurns.
-/
import Derived.Test.YtdkimnigckpncaaL4
namespace Go.Proofs.Ytdkimnigckpncaa
open Go.RowKit
attribute [local go_sem] b_xor

/-- The four words of block b at four places. -/
def Ws (b p0 p1 p2 p3 : Nat) (s : List (BitVec 32)) (w : World) : Prop :=
  w.cell? ⟨b, p0, none⟩ = some (.int .u32 (u (Qu.wd s p0))) ∧ w.cell? ⟨b, p1, none⟩ = some (.int .u32 (u (Qu.wd s p1))) ∧ w.cell? ⟨b, p2, none⟩ = some (.int .u32 (u (Qu.wd s p2))) ∧ w.cell? ⟨b, p3, none⟩ = some (.int .u32 (u (Qu.wd s p3)))
/-- The state's block b; of what was there when the round began nothing has turned but b. -/
structure Fb (wr : World) (b : Nat) (cs : Array Value) (X : World) : Prop where
  gr : wr.grownBy X (some b)
  st : X.heap[b]? = some (.cells cs 23 (0, 0))
section
variable {wr : World} {b : Nat} {cs : Array Value} {X : World}
theorem Fb.drew (h : Fb wr b cs X) : Fb wr b cs X.drew := ⟨⟨h.gr.os, h.gr.tape, h.gr.output, h.gr.size, h.gr.block⟩, h.st⟩
theorem Fb.set (h : Fb wr b cs X) (j : Nat) (v : Value) : Fb wr b (cs.setIfInBounds j v) (X.setCell ⟨b, j, none⟩ v) :=
  ⟨⟨h.gr.os, h.gr.tape, h.gr.output, by simpa [World.setCell] using h.gr.size, fun i hi hne => (heap_setCell_other X ⟨b, j, none⟩ i v (fun e => hne (by rw [e]))).trans (h.gr.block i hi hne)⟩, heap_setCell_same X b j cs 23 v h.st⟩
theorem Fb.cell (h : Fb wr b cs X) {j : Nat} (hj : j < cs.size) : X.cell? ⟨b, j, none⟩ = some cs[j] := by
  rw [cell_of_row X b j cs 23 (0, 0) h.st]; exact Array.getElem?_eq_getElem hj
theorem Fb.free (h : Fb wr b cs X) (j : Nat) : X.frozen? ⟨b, j, none⟩ = false := frozen_of_row X b j cs 23 h.st
theorem Fb.words {p0 p1 p2 p3 : Nat} {s : List (BitVec 32)} (h : Fb wr b (c32 s) X) (hs : s.length = 16) (h0 : p0 < 16) (h1 : p1 < 16) (h2 : p2 < 16) (h3 : p3 < 16) : Ws b p0 p1 p2 p3 s X :=
  ⟨(cell_of_row X b p0 _ 23 (0, 0) h.st).trans (c32_get s p0 (by omega)), (cell_of_row X b p1 _ 23 (0, 0) h.st).trans (c32_get s p1 (by omega)),
    (cell_of_row X b p2 _ 23 (0, 0) h.st).trans (c32_get s p2 (by omega)), (cell_of_row X b p3 _ 23 (0, 0) h.st).trans (c32_get s p3 (by omega))⟩
end

theorem turns_law (s t : List (BitVec 32)) (m : Nat) (by0 : BitVec 32) (hs : s.length = 16) (hm : m < 16) (ht : t = s.set m (Qu.wd s m ^^^ by0)) :
    ∃ B : Bool, decide (Qu.dbl t = Qu.dbl s) = B ∧ (u by0 == 0) = B := by
  have hl : t.length = 16 := by rw [ht, List.length_set, hs]
  by_cases h0 : by0 = 0
  · refine ⟨true, ?_, by rw [h0]; rfl⟩
    have : t = s := by
      rw [ht, h0, show (0 : BitVec 32) = 0#32 from rfl, BitVec.xor_zero]
      refine Qu.ext_wd (by simp) fun i hi => ?_
      rw [Qu.wd_set s m i _ (by omega)]
      split
      · next e => rw [e]
      · rfl
    rw [this]
    simp
  · refine ⟨false, ?_, ?_⟩
    · rw [decide_eq_false_iff_not]
      intro h
      have h1 : t = s := by rw [← Qu.bak_dbl t hl, h, Qu.bak_dbl s hs]
      have h2 : Qu.wd t m = Qu.wd s m := by rw [h1]
      rw [ht, Qu.wd_set s m m _ (by omega), if_pos rfl] at h2
      apply h0
      have h3 := congrArg (fun x => Qu.wd s m ^^^ x) h2
      simp only [← BitVec.xor_assoc, BitVec.xor_self, BitVec.zero_xor] at h3
      exact h3
    · rw [beq_eq_false_iff_ne]
      intro h
      exact h0 (u_inj (y := 0#32) (h.trans rfl))

set_option maxRecDepth 100000 in
set_option maxHeartbeats 4000000 in
theorem turns_any (s : List (BitVec 32)) (hs : s.length = 16) (at0 : Int) (by0 : BitVec 32) (w : World) : Calls Try.prog 6 #[.agg (c32 s), .int .i64 at0, .int .u32 (u by0)] w fun e w' => e = .returned (.bool true) ∧ Below w.heap.size w w' := by
  obtain ⟨m, hm, hnm⟩ := and_mask at0
  have HS := Lib.hid hs
  clear hs
  have HM := Lib.hid hnm
  clear hnm
  go_enter Try.func6, Try.ntmps6
  go_wp2_with (first | (refine wpList_load_row rfl 23 (.tmp 3) rfl w.heap.size rfl 23 (c32 s) (0, 0) _ (heap_alloc_new w _) Try.underlying23 rfl (by rw [info23, c32_size, HS.out]) ?_) |
    (refine wpList_store_whole rfl 23 (.tmp 7) (.tmp 15) rfl (w.heap.size + 1) 23 _ (c32 s) rfl rfl (heap_alloc2_new _ _ _) (by rw [info23, c32_size, HS.out]) (by rw [c32_size, HS.out]; rfl) (c32_all _) ?_; intro w1 h5 gr))
  have h2 : w1.heap[w.heap.size]? = some (.cells (c32 s) 23 (0, 0)) := (gr.block w.heap.size (by simp; omega) (by simp)).trans (heap_alloc2_old w _ _)
  have hb := grown_below (((Below.refl w.heap.size w).alloc (Nat.le_refl _) (.cells (c32 s) 23)).alloc (by simp) _) gr (by simp; omega) (by omega)
  clear gr
  obtain ⟨b, hbb⟩ : ∃ b, b = w.heap.size + 1 := ⟨_, rfl⟩
  rw [← hbb] at h5
  simp only [← hbb]
  have HB := Lib.hid hbb
  clear hbb
  go_loopw [8] (fun i wr => ∃ (k : Nat) (s' : List (BitVec 32)), k ≤ 4 ∧ i = .int .i64 k ∧ Hid (s' = (Qu.places.take (k)).foldl (Qu.at4 Qu.qr) s) ∧ Hid (s'.length = 16) ∧ wr.heap[b]? = some (.cells (c32 s') 23 (0, 0)) ∧ Hid (wr.heap[w.heap.size]? = some (.cells (c32 s) 23 (0, 0))) ∧ Below w.heap.size w wr ∧ b < wr.heap.size) (fun i _ => 4 - (intOf i).toNat)
  case atStart => exact ⟨0, s, by omega, rfl, rfl, HS.out, h5, h2, hb, Blk_lt h5⟩
  case round =>
    obtain ⟨k, s', hk, rfl, hs1, hs2, hh, hh2, hbr, hzr⟩ := hrel
    clear h2 h5 hb
    by_cases hlt : k < 4
    · obtain ⟨p, hp⟩ : ∃ p, p = Qu.places.getD (k) default := ⟨_, rfl⟩
      have HP := Lib.hid hp
      have hf : Qu.Four p := by rw [hp]; exact Qu.places_four _ (places_mem (by omega))
      obtain ⟨p0, p1, p2, p3⟩ := p
      obtain ⟨l0, l1, l2, l3, HF⟩ := hf
      simp only at l0 l1 l2 l3
      clear HF
      have e0 : (k : Int) = (p0 : Int) := by rcases (by omega : k = 0 ∨ k = 1 ∨ k = 2 ∨ k = 3) with rfl | rfl | rfl | rfl <;> (injection hp with a a2; injection a2 with b b2; injection b2 with c d; subst a b c d; rfl)
      have e1 : IntKind.i64.wrap (4 + (k : Int)) = (p1 : Int) := by rcases (by omega : k = 0 ∨ k = 1 ∨ k = 2 ∨ k = 3) with rfl | rfl | rfl | rfl <;> (injection hp with a a2; injection a2 with b b2; injection b2 with c d; subst a b c d; rfl)
      have e2 : IntKind.i64.wrap (8 + (k : Int)) = (p2 : Int) := by rcases (by omega : k = 0 ∨ k = 1 ∨ k = 2 ∨ k = 3) with rfl | rfl | rfl | rfl <;> (injection hp with a a2; injection a2 with b b2; injection b2 with c d; subst a b c d; rfl)
      have e3 : IntKind.i64.wrap (12 + (k : Int)) = (p3 : Int) := by rcases (by omega : k = 0 ∨ k = 1 ∨ k = 2 ∨ k = 3) with rfl | rfl | rfl | rfl <;> (injection hp with a a2; injection a2 with b b2; injection b2 with c d; subst a b c d; rfl)
      have HE0 := Lib.hid e0; have HE1 := Lib.hid e1; have HE2 := Lib.hid e2; have HE3 := Lib.hid e3
      clear e0 e1 e2 e3
      clear hp
      have m0 : (p0 : Int) < 16 := by omega
      have m1 : (p1 : Int) < 16 := by omega
      have m2 : (p2 : Int) < 16 := by omega
      have m3 : (p3 : Int) < 16 := by omega
      have n0 : (0 : Int) ≤ (p0 : Int) := by omega
      have HX := Lib.hid (Fb.mk (World.grownBy.refl wr (some b)) hh)
      have H5 := Lib.hid hbr
      obtain rfl : k = p0 := by have := HE0.out; omega
      clear HE0
      go_wp2_with fail
      have e1 := HE1.out; have e2 := HE2.out; have e3 := HE3.out
      have hS1 := HX.out.drew.words hs2.out l0 l1 l2 l3
      have h12 : ∀ w' : World, Ws b k p1 p2 p3 s' w' → True := fun _ _ => trivial
      refine Ph.region 22 (Ws b k p1 p2 p3 s') (fun _ : World => True) (by kernel_rfl) ?_
      refine Ph.take2 (i := 0) (d := some 21) rfl rfl (by kernel_rfl) h12 (fun _ _ _ h => h) rfl (v := ?va0) (fun w' hw' => ?ya0) hS1 ?na0
      case ya0 => (obtain _ := hw'; go_simp; try (with_reducible rfl))
      simp only [Act.put, List.setIfInBounds_toArray, List.set_cons_zero, List.set_cons_succ]
      refine Ph.take2 (i := 1) (d := some 22) rfl rfl (by kernel_rfl) h12 (fun _ _ _ h => h) rfl (v := ?va1) (fun w' hw' => ?ya1) hS1 ?na1
      case ya1 => (obtain _ := hw'; go_simp; try (with_reducible rfl))
      simp only [Act.put, List.setIfInBounds_toArray, List.set_cons_zero, List.set_cons_succ]
      refine Ph.take2 (i := 2) (d := some 23) rfl rfl (by kernel_rfl) h12 (fun _ _ _ h => h) rfl (v := ?va2) (fun w' hw' => ?ya2) hS1 ?na2
      case ya2 => (obtain _ := hw'; go_simp; try (with_reducible rfl))
      simp only [Act.put, List.setIfInBounds_toArray, List.set_cons_zero, List.set_cons_succ]
      refine Ph.take2 (i := 3) (d := some 24) rfl rfl (by kernel_rfl) h12 (fun _ _ _ h => h) rfl (v := ?va3) (fun w' hw' => ?ya3) hS1 ?na3
      case ya3 => (obtain _ := hw'; go_simp; try (with_reducible rfl))
      simp only [Act.put, List.setIfInBounds_toArray, List.set_cons_zero, List.set_cons_succ]
      refine Ph.take2 (i := 4) (d := some 25) rfl rfl (by kernel_rfl) h12 (fun _ _ _ h => h) rfl (v := ?va4) (fun w' hw' => ?ya4) hS1 ?na4
      case ya4 => (obtain _ := hw'; go_simp; try (with_reducible rfl))
      simp only [Act.put, List.setIfInBounds_toArray, List.set_cons_zero, List.set_cons_succ]
      refine Ph.take2 (i := 5) (d := some 26) rfl rfl (by kernel_rfl) h12 (fun _ _ _ h => h) rfl (v := ?va5) (fun w' hw' => ?ya5) hS1 ?na5
      case ya5 => (obtain _ := hw'; go_simp; try (with_reducible rfl))
      simp only [Act.put, List.setIfInBounds_toArray, List.set_cons_zero, List.set_cons_succ]
      refine Ph.take2 (i := 6) (d := some 27) rfl rfl (by kernel_rfl) h12 (fun _ _ _ h => h) rfl (v := ?va6) (fun w' hw' => ?ya6) hS1 ?na6
      case ya6 => (obtain _ := hw'; go_simp; try (with_reducible rfl))
      simp only [Act.put, List.setIfInBounds_toArray, List.set_cons_zero, List.set_cons_succ]
      refine Ph.take2 (i := 7) (d := some 28) rfl rfl (by kernel_rfl) h12 (fun _ _ _ h => h) rfl (v := ?va7) (fun w' hw' => ?ya7) hS1 ?na7
      case ya7 => (obtain _ := hw'; go_simp; try (with_reducible rfl))
      simp only [Act.put, List.setIfInBounds_toArray, List.set_cons_zero, List.set_cons_succ]
      refine Ph.take2 (i := 8) (d := some 29) rfl rfl (by kernel_rfl) h12 (fun _ _ _ h => h) rfl (v := ?va8) (fun w' hw' => ?ya8) hS1 ?na8
      case ya8 => (obtain _ := hw'; go_simp; try (with_reducible rfl))
      simp only [Act.put, List.setIfInBounds_toArray, List.set_cons_zero, List.set_cons_succ]
      refine Ph.take1 (i := 9) (d := some 30) rfl rfl (by kernel_rfl) (fun _ _ _ h => h) rfl (v := ?va9) (fun w' hw' => ?ya9) hS1 ?na9
      case ya9 => (obtain ⟨r0, r1, r2, r3⟩ := hw'; go_simp; try (with_reducible rfl))
      simp only [Act.put, List.setIfInBounds_toArray, List.set_cons_zero, List.set_cons_succ]
      refine Ph.take2 (i := 10) (d := some 31) rfl rfl (by kernel_rfl) h12 (fun _ _ _ h => h) rfl (v := ?va10) (fun w' hw' => ?ya10) hS1 ?na10
      case ya10 => (obtain _ := hw'; go_simp; try (with_reducible rfl))
      simp only [Act.put, List.setIfInBounds_toArray, List.set_cons_zero, List.set_cons_succ]
      refine Ph.take2 (i := 11) (d := some 32) rfl rfl (by kernel_rfl) h12 (fun _ _ _ h => h) rfl (v := ?va11) (fun w' hw' => ?ya11) hS1 ?na11
      case ya11 => (obtain _ := hw'; go_simp; try (with_reducible rfl))
      simp only [Act.put, List.setIfInBounds_toArray, List.set_cons_zero, List.set_cons_succ]
      refine Ph.take2 (i := 12) (d := some 33) rfl rfl (by kernel_rfl) h12 (fun _ _ _ h => h) rfl (v := ?va12) (fun w' hw' => ?ya12) hS1 ?na12
      case ya12 => (obtain _ := hw'; go_simp; try (with_reducible rfl))
      simp only [Act.put, List.setIfInBounds_toArray, List.set_cons_zero, List.set_cons_succ]
      refine Ph.take1 (i := 13) (d := some 34) rfl rfl (by kernel_rfl) (fun _ _ _ h => h) rfl (v := ?va13) (fun w' hw' => ?ya13) hS1 ?na13
      case ya13 => (obtain ⟨r0, r1, r2, r3⟩ := hw'; go_simp; try (with_reducible rfl))
      simp only [Act.put, List.setIfInBounds_toArray, List.set_cons_zero, List.set_cons_succ]
      refine Ph.take2 (i := 14) (d := some 35) rfl rfl (by kernel_rfl) h12 (fun _ _ _ h => h) rfl (v := ?va14) (fun w' hw' => ?ya14) hS1 ?na14
      case ya14 => (obtain _ := hw'; go_simp; try (with_reducible rfl))
      simp only [Act.put, List.setIfInBounds_toArray, List.set_cons_zero, List.set_cons_succ]
      refine Ph.take2 (i := 15) (d := some 36) rfl rfl (by kernel_rfl) h12 (fun _ _ _ h => h) rfl (v := ?va15) (fun w' hw' => ?ya15) hS1 ?na15
      case ya15 => (obtain _ := hw'; go_simp; try (with_reducible rfl))
      simp only [Act.put, List.setIfInBounds_toArray, List.set_cons_zero, List.set_cons_succ]
      refine Ph.take2 (i := 16) (d := some 37) rfl rfl (by kernel_rfl) h12 (fun _ _ _ h => h) rfl (v := ?va16) (fun w' hw' => ?ya16) hS1 ?na16
      case ya16 => (obtain _ := hw'; go_simp; try (with_reducible rfl))
      simp only [Act.put, List.setIfInBounds_toArray, List.set_cons_zero, List.set_cons_succ]
      refine Ph.take1 (i := 17) (d := some 38) rfl rfl (by kernel_rfl) (fun _ _ _ h => h) rfl (v := ?va17) (fun w' hw' => ?ya17) hS1 ?na17
      case ya17 => (obtain ⟨r0, r1, r2, r3⟩ := hw'; go_simp; try (with_reducible rfl))
      simp only [Act.put, List.setIfInBounds_toArray, List.set_cons_zero, List.set_cons_succ]
      refine Ph.take2 (i := 18) (d := some 39) rfl rfl (by kernel_rfl) h12 (fun _ _ _ h => h) rfl (v := ?va18) (fun w' hw' => ?ya18) hS1 ?na18
      case ya18 => (obtain _ := hw'; go_simp; try (with_reducible rfl))
      simp only [Act.put, List.setIfInBounds_toArray, List.set_cons_zero, List.set_cons_succ]
      refine Ph.take2 (i := 19) (d := some 40) rfl rfl (by kernel_rfl) h12 (fun _ _ _ h => h) rfl (v := ?va19) (fun w' hw' => ?ya19) hS1 ?na19
      case ya19 => (obtain _ := hw'; go_simp; try (with_reducible rfl))
      simp only [Act.put, List.setIfInBounds_toArray, List.set_cons_zero, List.set_cons_succ]
      refine Ph.take2 (i := 20) (d := some 41) rfl rfl (by kernel_rfl) h12 (fun _ _ _ h => h) rfl (v := ?va20) (fun w' hw' => ?ya20) hS1 ?na20
      case ya20 => (obtain _ := hw'; go_simp; try (with_reducible rfl))
      simp only [Act.put, List.setIfInBounds_toArray, List.set_cons_zero, List.set_cons_succ]
      refine Ph.take1 (i := 21) (d := some 42) rfl rfl (by kernel_rfl) (fun _ _ _ h => h) rfl (v := ?va21) (fun w' hw' => ?ya21) hS1 ?na21
      case ya21 => (obtain ⟨r0, r1, r2, r3⟩ := hw'; go_simp; try (with_reducible rfl))
      simp only [Act.put, List.setIfInBounds_toArray, List.set_cons_zero, List.set_cons_succ]
      refine Ph.only (i := 22) rfl (by kernel_rfl) rfl (fun K hK => ?_)
      go_simp
      refine (round_any _ _ _ _ _).mono ?_
      rintro e w' ⟨rfl, rfl⟩
      refine hK _ _ trivial ?_
      clear hK K hS1
      try simp only [List.setIfInBounds_toArray, List.set_cons_zero, List.set_cons_succ]
      refine Ph.take2 (i := 23) (d := some 20) rfl rfl (by kernel_rfl) h12 (fun _ _ _ h => h) rfl (v := ?va23) (fun w' hw' => ?ya23) trivial ?na23
      case ya23 => (obtain _ := hw'; go_simp; try (with_reducible rfl))
      simp only [Act.put, List.setIfInBounds_toArray, List.set_cons_zero, List.set_cons_succ]
      refine Ph.take2 (i := 24) (d := some 44) rfl rfl (by kernel_rfl) h12 (fun _ _ _ h => h) rfl (v := ?va24) (fun w' hw' => ?ya24) trivial ?na24
      case ya24 => (obtain _ := hw'; go_simp; try (with_reducible rfl))
      simp only [Act.put, List.setIfInBounds_toArray, List.set_cons_zero, List.set_cons_succ]
      refine Ph.take2 (i := 25) (d := some 45) rfl rfl (by kernel_rfl) h12 (fun _ _ _ h => h) rfl (v := ?va25) (fun w' hw' => ?ya25) trivial ?na25
      case ya25 => (obtain _ := hw'; go_simp; try (with_reducible rfl))
      simp only [Act.put, List.setIfInBounds_toArray, List.set_cons_zero, List.set_cons_succ]
      refine Ph.take2 (i := 26) (d := some 46) rfl rfl (by kernel_rfl) h12 (fun _ _ _ h => h) rfl (v := ?va26) (fun w' hw' => ?ya26) trivial ?na26
      case ya26 => (obtain _ := hw'; go_simp; try (with_reducible rfl))
      simp only [Act.put, List.setIfInBounds_toArray, List.set_cons_zero, List.set_cons_succ]
      refine Ph.take2 (i := 27) (d := some 47) rfl rfl (by kernel_rfl) h12 (fun _ _ _ h => h) rfl (v := ?va27) (fun w' hw' => ?ya27) trivial ?na27
      case ya27 => (obtain _ := hw'; go_simp; try (with_reducible rfl))
      simp only [Act.put, List.setIfInBounds_toArray, List.set_cons_zero, List.set_cons_succ]
      refine Ph.take2 (i := 28) (d := some 48) rfl rfl (by kernel_rfl) h12 (fun _ _ _ h => h) rfl (v := ?va28) (fun w' hw' => ?ya28) trivial ?na28
      case ya28 => (obtain _ := hw'; go_simp; try (with_reducible rfl))
      simp only [Act.put, List.setIfInBounds_toArray, List.set_cons_zero, List.set_cons_succ]
      obtain ⟨z0, hz0⟩ : ∃ z, z = (Qu.qr ⟨Qu.wd s' k, Qu.wd s' p1, Qu.wd s' p2, Qu.wd s' p3⟩).a := ⟨_, rfl⟩
      obtain ⟨z1, hz1⟩ : ∃ z, z = (Qu.qr ⟨Qu.wd s' k, Qu.wd s' p1, Qu.wd s' p2, Qu.wd s' p3⟩).b := ⟨_, rfl⟩
      obtain ⟨z2, hz2⟩ : ∃ z, z = (Qu.qr ⟨Qu.wd s' k, Qu.wd s' p1, Qu.wd s' p2, Qu.wd s' p3⟩).c := ⟨_, rfl⟩
      obtain ⟨z3, hz3⟩ : ∃ z, z = (Qu.qr ⟨Qu.wd s' k, Qu.wd s' p1, Qu.wd s' p2, Qu.wd s' p3⟩).d := ⟨_, rfl⟩
      simp only [← hz0, ← hz1, ← hz2, ← hz3]
      have HZ := Lib.hid (And.intro hz0 (And.intro hz1 (And.intro hz2 hz3)))
      clear hz0 hz1 hz2 hz3
      have HX1 := Lib.hid HX.out.drew
      clear HX
      generalize wr.drew = X at *
      refine Ph.only (i := 29) rfl (by kernel_rfl) rfl (fun K hK => ?_)
      have cc := HX1.out.cell (j := k) (by first | (rw [c32_size, hs2.out]; exact l0) | (simp only [Array.size_setIfInBounds, c32_size, hs2.out]; exact l0))
      have ff := HX1.out.free k
      go_simp
      have HX2 := Lib.hid (HX1.out.set k (.int .u32 (u z0)))
      refine hK _ _ trivial ?_
      clear hK K HX1 cc ff
      try simp only [List.setIfInBounds_toArray, List.set_cons_zero, List.set_cons_succ]
      generalize hXX : (X.setCell ⟨b, k, none⟩ (.int .u32 (u z0))) = X' at *
      clear hXX X
      obtain ⟨X, hXX⟩ : ∃ X, X = X' := ⟨_, rfl⟩
      subst hXX
      have HX1 := HX2
      clear HX2
      refine Ph.take2 (i := 30) (d := some 49) rfl rfl (by kernel_rfl) h12 (fun _ _ _ h => h) rfl (v := ?va30) (fun w' hw' => ?ya30) trivial ?na30
      case ya30 => (obtain _ := hw'; go_simp; try (with_reducible rfl))
      simp only [Act.put, List.setIfInBounds_toArray, List.set_cons_zero, List.set_cons_succ]
      refine Ph.only (i := 31) rfl (by kernel_rfl) rfl (fun K hK => ?_)
      have cc := HX1.out.cell (j := p1) (by first | (rw [c32_size, hs2.out]; exact l1) | (simp only [Array.size_setIfInBounds, c32_size, hs2.out]; exact l1))
      have ff := HX1.out.free p1
      go_simp
      have HX2 := Lib.hid (HX1.out.set p1 (.int .u32 (u z1)))
      refine hK _ _ trivial ?_
      clear hK K HX1 cc ff
      try simp only [List.setIfInBounds_toArray, List.set_cons_zero, List.set_cons_succ]
      generalize hXX : (X.setCell ⟨b, p1, none⟩ (.int .u32 (u z1))) = X' at *
      clear hXX X
      obtain ⟨X, hXX⟩ : ∃ X, X = X' := ⟨_, rfl⟩
      subst hXX
      have HX1 := HX2
      clear HX2
      refine Ph.take2 (i := 32) (d := some 50) rfl rfl (by kernel_rfl) h12 (fun _ _ _ h => h) rfl (v := ?va32) (fun w' hw' => ?ya32) trivial ?na32
      case ya32 => (obtain _ := hw'; go_simp; try (with_reducible rfl))
      simp only [Act.put, List.setIfInBounds_toArray, List.set_cons_zero, List.set_cons_succ]
      refine Ph.only (i := 33) rfl (by kernel_rfl) rfl (fun K hK => ?_)
      have cc := HX1.out.cell (j := p2) (by first | (rw [c32_size, hs2.out]; exact l2) | (simp only [Array.size_setIfInBounds, c32_size, hs2.out]; exact l2))
      have ff := HX1.out.free p2
      go_simp
      have HX2 := Lib.hid (HX1.out.set p2 (.int .u32 (u z2)))
      refine hK _ _ trivial ?_
      clear hK K HX1 cc ff
      try simp only [List.setIfInBounds_toArray, List.set_cons_zero, List.set_cons_succ]
      generalize hXX : (X.setCell ⟨b, p2, none⟩ (.int .u32 (u z2))) = X' at *
      clear hXX X
      obtain ⟨X, hXX⟩ : ∃ X, X = X' := ⟨_, rfl⟩
      subst hXX
      have HX1 := HX2
      clear HX2
      refine Ph.take2 (i := 34) (d := some 51) rfl rfl (by kernel_rfl) h12 (fun _ _ _ h => h) rfl (v := ?va34) (fun w' hw' => ?ya34) trivial ?na34
      case ya34 => (obtain _ := hw'; go_simp; try (with_reducible rfl))
      simp only [Act.put, List.setIfInBounds_toArray, List.set_cons_zero, List.set_cons_succ]
      refine Ph.only (i := 35) rfl (by kernel_rfl) rfl (fun K hK => ?_)
      have cc := HX1.out.cell (j := p3) (by first | (rw [c32_size, hs2.out]; exact l3) | (simp only [Array.size_setIfInBounds, c32_size, hs2.out]; exact l3))
      have ff := HX1.out.free p3
      go_simp
      have HX2 := Lib.hid (HX1.out.set p3 (.int .u32 (u z3)))
      refine hK _ _ trivial ?_
      clear hK K HX1 cc ff
      try simp only [List.setIfInBounds_toArray, List.set_cons_zero, List.set_cons_succ]
      generalize hXX : (X.setCell ⟨b, p3, none⟩ (.int .u32 (u z3))) = X' at *
      clear hXX X
      obtain ⟨X, hXX⟩ : ∃ X, X = X' := ⟨_, rfl⟩
      subst hXX
      have HX1 := HX2
      clear HX2
      refine Ph.done (by kernel_rfl) ?_ _
      clear e1 e2 e3
      have hst := HX1.out.st
      simp only [c32_set] at hst
      have hat : Qu.at4 Qu.qr s' (k, p1, p2, p3) = (((s'.set k z0).set p1 z1).set p2 z2).set p3 z3 := by
        obtain ⟨f0, f1, f2, f3⟩ := HZ.out
        rw [f0, f1, f2, f3]; rfl
      rw [← hat] at hst
      have HS6 := Lib.hid hst
      clear hst hat
      have R1 : Hid (X.heap[w.heap.size]? = some (.cells (c32 s) 23 (0, 0))) := (HX1.out.gr.block w.heap.size (Blk_lt hh2.out) (by rw [HB.out]; simp)).trans hh2.out
      have R2 : Hid (Below w.heap.size w X) := grown_below H5.out HX1.out.gr (by have := HB.out; omega) (by have := HB.out; omega)
      have R3 : Hid (b < X.heap.size) := Nat.lt_of_lt_of_le hzr HX1.out.gr.size
      have R4 : Hid (Qu.at4 Qu.qr s' (k, p1, p2, p3) = (Qu.places.take ((k + 1))).foldl (Qu.at4 Qu.qr) s) := by
        have hl : Qu.places.length = 8 := rfl
        show _ = (Qu.places.take (k + 1)).foldl (Qu.at4 Qu.qr) s
        rw [List.take_add_one, List.foldl_append, ← hs1.out, HP.out, List.getD_eq_getElem?_getD, List.getElem?_eq_getElem (by omega)]
        rfl
      have R5 : Hid ((Qu.at4 Qu.qr s' (k, p1, p2, p3)).length = 16) := (Qu.at4_length _ _ _).trans hs2.out
      clear HX1 HZ hh hbr hh2
      go_wp2_with fail
      go_roundw
      case rel => first | exact ⟨k + 1, Qu.at4 Qu.qr s' (k, p1, p2, p3), by omega, by go_num, R4, R5, HS6.out, R1, R2.out, R3.out⟩ | ((repeat apply Exists.intro); exact ⟨⟨k + 1, Qu.at4 Qu.qr s' (k, p1, p2, p3), by omega, by go_num, R4, R5, HS6.out, R1, R2.out, R3.out⟩, rfl⟩)
      case measure => simp [intOf]; omega
    · have hk4 : k = 4 := by omega
      subst hk4
      have h5 := hh
      have h2 := hh2
      have hb := hbr
      have HS5 := hs2
      have HE5 := hs1
      obtain ⟨t5, ht5⟩ : ∃ t5, t5 = s' := ⟨_, rfl⟩
      subst ht5
      clear hh hh2 hbr hs1 hs2 hlt hk hzr
      go_wp2_with fail
      go_loopw [9] (fun i wr => ∃ (k : Nat) (s' : List (BitVec 32)), k ≤ 4 ∧ i = .int .i64 k ∧ Hid (s' = (Qu.places.take (4 + k)).foldl (Qu.at4 Qu.qr) s) ∧ Hid (s'.length = 16) ∧ wr.heap[b]? = some (.cells (c32 s') 23 (0, 0)) ∧ Hid (wr.heap[w.heap.size]? = some (.cells (c32 s) 23 (0, 0))) ∧ Below w.heap.size w wr ∧ b < wr.heap.size) (fun i _ => 4 - (intOf i).toNat)
      case atStart => exact ⟨0, t5, by omega, rfl, HE5, HS5, h5, h2, hb, Blk_lt h5⟩
      case round =>
        obtain ⟨k, s', hk, rfl, hs1, hs2, hh, hh2, hbr, hzr⟩ := hrel
        clear h2 h5 hb
        by_cases hlt : k < 4
        · obtain ⟨p, hp⟩ : ∃ p, p = Qu.places.getD (4 + k) default := ⟨_, rfl⟩
          have HP := Lib.hid hp
          have hf : Qu.Four p := by rw [hp]; exact Qu.places_four _ (places_mem (by omega))
          obtain ⟨p0, p1, p2, p3⟩ := p
          obtain ⟨l0, l1, l2, l3, HF⟩ := hf
          simp only at l0 l1 l2 l3
          clear HF
          have e0 : (k : Int) = (p0 : Int) := by rcases (by omega : k = 0 ∨ k = 1 ∨ k = 2 ∨ k = 3) with rfl | rfl | rfl | rfl <;> (injection hp with a a2; injection a2 with b b2; injection b2 with c d; subst a b c d; rfl)
          have e1 : 4 + ((k : Int) + 1) % 4 = (p1 : Int) := by rcases (by omega : k = 0 ∨ k = 1 ∨ k = 2 ∨ k = 3) with rfl | rfl | rfl | rfl <;> (injection hp with a a2; injection a2 with b b2; injection b2 with c d; subst a b c d; rfl)
          have e2 : 8 + ((k : Int) + 2) % 4 = (p2 : Int) := by rcases (by omega : k = 0 ∨ k = 1 ∨ k = 2 ∨ k = 3) with rfl | rfl | rfl | rfl <;> (injection hp with a a2; injection a2 with b b2; injection b2 with c d; subst a b c d; rfl)
          have e3 : 12 + ((k : Int) + 3) % 4 = (p3 : Int) := by rcases (by omega : k = 0 ∨ k = 1 ∨ k = 2 ∨ k = 3) with rfl | rfl | rfl | rfl <;> (injection hp with a a2; injection a2 with b b2; injection b2 with c d; subst a b c d; rfl)
          have HE0 := Lib.hid e0; have HE1 := Lib.hid e1; have HE2 := Lib.hid e2; have HE3 := Lib.hid e3
          clear e0 e1 e2 e3
          clear hp
          have m0 : (p0 : Int) < 16 := by omega
          have m1 : (p1 : Int) < 16 := by omega
          have m2 : (p2 : Int) < 16 := by omega
          have m3 : (p3 : Int) < 16 := by omega
          have n0 : (0 : Int) ≤ (p0 : Int) := by omega
          have HX := Lib.hid (Fb.mk (World.grownBy.refl wr (some b)) hh)
          have H5 := Lib.hid hbr
          obtain rfl : k = p0 := by have := HE0.out; omega
          clear HE0
          go_wp2_with fail
          simp only [HE1.out, HE2.out, HE3.out]
          have hS1 := HX.out.drew.words hs2.out l0 l1 l2 l3
          have h12 : ∀ w' : World, Ws b k p1 p2 p3 s' w' → True := fun _ _ => trivial
          refine Ph.region 16 (Ws b k p1 p2 p3 s') (fun _ : World => True) (by kernel_rfl) ?_
          refine Ph.take2 (i := 0) (d := some 70) rfl rfl (by kernel_rfl) h12 (fun _ _ _ h => h) rfl (v := ?vb0) (fun w' hw' => ?yb0) hS1 ?nb0
          case yb0 => (obtain _ := hw'; go_simp; try (with_reducible rfl))
          simp only [Act.put, List.setIfInBounds_toArray, List.set_cons_zero, List.set_cons_succ]
          refine Ph.take2 (i := 1) (d := some 71) rfl rfl (by kernel_rfl) h12 (fun _ _ _ h => h) rfl (v := ?vb1) (fun w' hw' => ?yb1) hS1 ?nb1
          case yb1 => (obtain _ := hw'; go_simp; try (with_reducible rfl))
          simp only [Act.put, List.setIfInBounds_toArray, List.set_cons_zero, List.set_cons_succ]
          refine Ph.take2 (i := 2) (d := some 72) rfl rfl (by kernel_rfl) h12 (fun _ _ _ h => h) rfl (v := ?vb2) (fun w' hw' => ?yb2) hS1 ?nb2
          case yb2 => (obtain _ := hw'; go_simp; try (with_reducible rfl))
          simp only [Act.put, List.setIfInBounds_toArray, List.set_cons_zero, List.set_cons_succ]
          refine Ph.take2 (i := 3) (d := some 73) rfl rfl (by kernel_rfl) h12 (fun _ _ _ h => h) rfl (v := ?vb3) (fun w' hw' => ?yb3) hS1 ?nb3
          case yb3 => (obtain _ := hw'; go_simp; try (with_reducible rfl))
          simp only [Act.put, List.setIfInBounds_toArray, List.set_cons_zero, List.set_cons_succ]
          refine Ph.take2 (i := 4) (d := some 74) rfl rfl (by kernel_rfl) h12 (fun _ _ _ h => h) rfl (v := ?vb4) (fun w' hw' => ?yb4) hS1 ?nb4
          case yb4 => (obtain _ := hw'; go_simp; try (with_reducible rfl))
          simp only [Act.put, List.setIfInBounds_toArray, List.set_cons_zero, List.set_cons_succ]
          refine Ph.take2 (i := 5) (d := some 75) rfl rfl (by kernel_rfl) h12 (fun _ _ _ h => h) rfl (v := ?vb5) (fun w' hw' => ?yb5) hS1 ?nb5
          case yb5 => (obtain _ := hw'; go_simp; try (with_reducible rfl))
          simp only [Act.put, List.setIfInBounds_toArray, List.set_cons_zero, List.set_cons_succ]
          refine Ph.take1 (i := 6) (d := some 76) rfl rfl (by kernel_rfl) (fun _ _ _ h => h) rfl (v := ?vb6) (fun w' hw' => ?yb6) hS1 ?nb6
          case yb6 => (obtain ⟨r0, r1, r2, r3⟩ := hw'; go_simp; try (with_reducible rfl))
          simp only [Act.put, List.setIfInBounds_toArray, List.set_cons_zero, List.set_cons_succ]
          refine Ph.take2 (i := 7) (d := some 77) rfl rfl (by kernel_rfl) h12 (fun _ _ _ h => h) rfl (v := ?vb7) (fun w' hw' => ?yb7) hS1 ?nb7
          case yb7 => (obtain _ := hw'; go_simp; try (with_reducible rfl))
          simp only [Act.put, List.setIfInBounds_toArray, List.set_cons_zero, List.set_cons_succ]
          refine Ph.take2 (i := 8) (d := some 78) rfl rfl (by kernel_rfl) h12 (fun _ _ _ h => h) rfl (v := ?vb8) (fun w' hw' => ?yb8) hS1 ?nb8
          case yb8 => (obtain _ := hw'; go_simp; try (with_reducible rfl))
          simp only [Act.put, List.setIfInBounds_toArray, List.set_cons_zero, List.set_cons_succ]
          refine Ph.take1 (i := 9) (d := some 79) rfl rfl (by kernel_rfl) (fun _ _ _ h => h) rfl (v := ?vb9) (fun w' hw' => ?yb9) hS1 ?nb9
          case yb9 => (obtain ⟨r0, r1, r2, r3⟩ := hw'; go_simp; try (with_reducible rfl))
          simp only [Act.put, List.setIfInBounds_toArray, List.set_cons_zero, List.set_cons_succ]
          refine Ph.take2 (i := 10) (d := some 80) rfl rfl (by kernel_rfl) h12 (fun _ _ _ h => h) rfl (v := ?vb10) (fun w' hw' => ?yb10) hS1 ?nb10
          case yb10 => (obtain _ := hw'; go_simp; try (with_reducible rfl))
          simp only [Act.put, List.setIfInBounds_toArray, List.set_cons_zero, List.set_cons_succ]
          refine Ph.take2 (i := 11) (d := some 81) rfl rfl (by kernel_rfl) h12 (fun _ _ _ h => h) rfl (v := ?vb11) (fun w' hw' => ?yb11) hS1 ?nb11
          case yb11 => (obtain _ := hw'; go_simp; try (with_reducible rfl))
          simp only [Act.put, List.setIfInBounds_toArray, List.set_cons_zero, List.set_cons_succ]
          refine Ph.take1 (i := 12) (d := some 82) rfl rfl (by kernel_rfl) (fun _ _ _ h => h) rfl (v := ?vb12) (fun w' hw' => ?yb12) hS1 ?nb12
          case yb12 => (obtain ⟨r0, r1, r2, r3⟩ := hw'; go_simp; try (with_reducible rfl))
          simp only [Act.put, List.setIfInBounds_toArray, List.set_cons_zero, List.set_cons_succ]
          refine Ph.take2 (i := 13) (d := some 83) rfl rfl (by kernel_rfl) h12 (fun _ _ _ h => h) rfl (v := ?vb13) (fun w' hw' => ?yb13) hS1 ?nb13
          case yb13 => (obtain _ := hw'; go_simp; try (with_reducible rfl))
          simp only [Act.put, List.setIfInBounds_toArray, List.set_cons_zero, List.set_cons_succ]
          refine Ph.take2 (i := 14) (d := some 84) rfl rfl (by kernel_rfl) h12 (fun _ _ _ h => h) rfl (v := ?vb14) (fun w' hw' => ?yb14) hS1 ?nb14
          case yb14 => (obtain _ := hw'; go_simp; try (with_reducible rfl))
          simp only [Act.put, List.setIfInBounds_toArray, List.set_cons_zero, List.set_cons_succ]
          refine Ph.take1 (i := 15) (d := some 85) rfl rfl (by kernel_rfl) (fun _ _ _ h => h) rfl (v := ?vb15) (fun w' hw' => ?yb15) hS1 ?nb15
          case yb15 => (obtain ⟨r0, r1, r2, r3⟩ := hw'; go_simp; try (with_reducible rfl))
          simp only [Act.put, List.setIfInBounds_toArray, List.set_cons_zero, List.set_cons_succ]
          refine Ph.only (i := 16) rfl (by kernel_rfl) rfl (fun K hK => ?_)
          go_simp
          refine (round_any _ _ _ _ _).mono ?_
          rintro e w' ⟨rfl, rfl⟩
          refine hK _ _ trivial ?_
          clear hK K hS1
          try simp only [List.setIfInBounds_toArray, List.set_cons_zero, List.set_cons_succ]
          refine Ph.take2 (i := 17) (d := some 69) rfl rfl (by kernel_rfl) h12 (fun _ _ _ h => h) rfl (v := ?vb17) (fun w' hw' => ?yb17) trivial ?nb17
          case yb17 => (obtain _ := hw'; go_simp; try (with_reducible rfl))
          simp only [Act.put, List.setIfInBounds_toArray, List.set_cons_zero, List.set_cons_succ]
          refine Ph.take2 (i := 18) (d := some 87) rfl rfl (by kernel_rfl) h12 (fun _ _ _ h => h) rfl (v := ?vb18) (fun w' hw' => ?yb18) trivial ?nb18
          case yb18 => (obtain _ := hw'; go_simp; try (with_reducible rfl))
          simp only [Act.put, List.setIfInBounds_toArray, List.set_cons_zero, List.set_cons_succ]
          refine Ph.take2 (i := 19) (d := some 88) rfl rfl (by kernel_rfl) h12 (fun _ _ _ h => h) rfl (v := ?vb19) (fun w' hw' => ?yb19) trivial ?nb19
          case yb19 => (obtain _ := hw'; go_simp; try (with_reducible rfl))
          simp only [Act.put, List.setIfInBounds_toArray, List.set_cons_zero, List.set_cons_succ]
          refine Ph.take2 (i := 20) (d := some 89) rfl rfl (by kernel_rfl) h12 (fun _ _ _ h => h) rfl (v := ?vb20) (fun w' hw' => ?yb20) trivial ?nb20
          case yb20 => (obtain _ := hw'; go_simp; try (with_reducible rfl))
          simp only [Act.put, List.setIfInBounds_toArray, List.set_cons_zero, List.set_cons_succ]
          refine Ph.take2 (i := 21) (d := some 90) rfl rfl (by kernel_rfl) h12 (fun _ _ _ h => h) rfl (v := ?vb21) (fun w' hw' => ?yb21) trivial ?nb21
          case yb21 => (obtain _ := hw'; go_simp; try (with_reducible rfl))
          simp only [Act.put, List.setIfInBounds_toArray, List.set_cons_zero, List.set_cons_succ]
          refine Ph.take2 (i := 22) (d := some 91) rfl rfl (by kernel_rfl) h12 (fun _ _ _ h => h) rfl (v := ?vb22) (fun w' hw' => ?yb22) trivial ?nb22
          case yb22 => (obtain _ := hw'; go_simp; try (with_reducible rfl))
          simp only [Act.put, List.setIfInBounds_toArray, List.set_cons_zero, List.set_cons_succ]
          obtain ⟨z0, hz0⟩ : ∃ z, z = (Qu.qr ⟨Qu.wd s' k, Qu.wd s' p1, Qu.wd s' p2, Qu.wd s' p3⟩).a := ⟨_, rfl⟩
          obtain ⟨z1, hz1⟩ : ∃ z, z = (Qu.qr ⟨Qu.wd s' k, Qu.wd s' p1, Qu.wd s' p2, Qu.wd s' p3⟩).b := ⟨_, rfl⟩
          obtain ⟨z2, hz2⟩ : ∃ z, z = (Qu.qr ⟨Qu.wd s' k, Qu.wd s' p1, Qu.wd s' p2, Qu.wd s' p3⟩).c := ⟨_, rfl⟩
          obtain ⟨z3, hz3⟩ : ∃ z, z = (Qu.qr ⟨Qu.wd s' k, Qu.wd s' p1, Qu.wd s' p2, Qu.wd s' p3⟩).d := ⟨_, rfl⟩
          simp only [← hz0, ← hz1, ← hz2, ← hz3]
          have HZ := Lib.hid (And.intro hz0 (And.intro hz1 (And.intro hz2 hz3)))
          clear hz0 hz1 hz2 hz3
          have HX1 := Lib.hid HX.out.drew
          clear HX
          generalize wr.drew = X at *
          refine Ph.only (i := 23) rfl (by kernel_rfl) rfl (fun K hK => ?_)
          have cc := HX1.out.cell (j := k) (by first | (rw [c32_size, hs2.out]; exact l0) | (simp only [Array.size_setIfInBounds, c32_size, hs2.out]; exact l0))
          have ff := HX1.out.free k
          go_simp
          have HX2 := Lib.hid (HX1.out.set k (.int .u32 (u z0)))
          refine hK _ _ trivial ?_
          clear hK K HX1 cc ff
          try simp only [List.setIfInBounds_toArray, List.set_cons_zero, List.set_cons_succ]
          generalize hXX : (X.setCell ⟨b, k, none⟩ (.int .u32 (u z0))) = X' at *
          clear hXX X
          obtain ⟨X, hXX⟩ : ∃ X, X = X' := ⟨_, rfl⟩
          subst hXX
          have HX1 := HX2
          clear HX2
          refine Ph.take2 (i := 24) (d := some 92) rfl rfl (by kernel_rfl) h12 (fun _ _ _ h => h) rfl (v := ?vb24) (fun w' hw' => ?yb24) trivial ?nb24
          case yb24 => (obtain _ := hw'; go_simp; try (with_reducible rfl))
          simp only [Act.put, List.setIfInBounds_toArray, List.set_cons_zero, List.set_cons_succ]
          refine Ph.only (i := 25) rfl (by kernel_rfl) rfl (fun K hK => ?_)
          have cc := HX1.out.cell (j := p1) (by first | (rw [c32_size, hs2.out]; exact l1) | (simp only [Array.size_setIfInBounds, c32_size, hs2.out]; exact l1))
          have ff := HX1.out.free p1
          go_simp
          have HX2 := Lib.hid (HX1.out.set p1 (.int .u32 (u z1)))
          refine hK _ _ trivial ?_
          clear hK K HX1 cc ff
          try simp only [List.setIfInBounds_toArray, List.set_cons_zero, List.set_cons_succ]
          generalize hXX : (X.setCell ⟨b, p1, none⟩ (.int .u32 (u z1))) = X' at *
          clear hXX X
          obtain ⟨X, hXX⟩ : ∃ X, X = X' := ⟨_, rfl⟩
          subst hXX
          have HX1 := HX2
          clear HX2
          refine Ph.take2 (i := 26) (d := some 93) rfl rfl (by kernel_rfl) h12 (fun _ _ _ h => h) rfl (v := ?vb26) (fun w' hw' => ?yb26) trivial ?nb26
          case yb26 => (obtain _ := hw'; go_simp; try (with_reducible rfl))
          simp only [Act.put, List.setIfInBounds_toArray, List.set_cons_zero, List.set_cons_succ]
          refine Ph.only (i := 27) rfl (by kernel_rfl) rfl (fun K hK => ?_)
          have cc := HX1.out.cell (j := p2) (by first | (rw [c32_size, hs2.out]; exact l2) | (simp only [Array.size_setIfInBounds, c32_size, hs2.out]; exact l2))
          have ff := HX1.out.free p2
          go_simp
          have HX2 := Lib.hid (HX1.out.set p2 (.int .u32 (u z2)))
          refine hK _ _ trivial ?_
          clear hK K HX1 cc ff
          try simp only [List.setIfInBounds_toArray, List.set_cons_zero, List.set_cons_succ]
          generalize hXX : (X.setCell ⟨b, p2, none⟩ (.int .u32 (u z2))) = X' at *
          clear hXX X
          obtain ⟨X, hXX⟩ : ∃ X, X = X' := ⟨_, rfl⟩
          subst hXX
          have HX1 := HX2
          clear HX2
          refine Ph.take2 (i := 28) (d := some 94) rfl rfl (by kernel_rfl) h12 (fun _ _ _ h => h) rfl (v := ?vb28) (fun w' hw' => ?yb28) trivial ?nb28
          case yb28 => (obtain _ := hw'; go_simp; try (with_reducible rfl))
          simp only [Act.put, List.setIfInBounds_toArray, List.set_cons_zero, List.set_cons_succ]
          refine Ph.only (i := 29) rfl (by kernel_rfl) rfl (fun K hK => ?_)
          have cc := HX1.out.cell (j := p3) (by first | (rw [c32_size, hs2.out]; exact l3) | (simp only [Array.size_setIfInBounds, c32_size, hs2.out]; exact l3))
          have ff := HX1.out.free p3
          go_simp
          have HX2 := Lib.hid (HX1.out.set p3 (.int .u32 (u z3)))
          refine hK _ _ trivial ?_
          clear hK K HX1 cc ff
          try simp only [List.setIfInBounds_toArray, List.set_cons_zero, List.set_cons_succ]
          generalize hXX : (X.setCell ⟨b, p3, none⟩ (.int .u32 (u z3))) = X' at *
          clear hXX X
          obtain ⟨X, hXX⟩ : ∃ X, X = X' := ⟨_, rfl⟩
          subst hXX
          have HX1 := HX2
          clear HX2
          refine Ph.done (by kernel_rfl) ?_ _
          have hst := HX1.out.st
          simp only [c32_set] at hst
          have hat : Qu.at4 Qu.qr s' (k, p1, p2, p3) = (((s'.set k z0).set p1 z1).set p2 z2).set p3 z3 := by
            obtain ⟨f0, f1, f2, f3⟩ := HZ.out
            rw [f0, f1, f2, f3]; rfl
          rw [← hat] at hst
          have HS6 := Lib.hid hst
          clear hst hat
          have R1 : Hid (X.heap[w.heap.size]? = some (.cells (c32 s) 23 (0, 0))) := (HX1.out.gr.block w.heap.size (Blk_lt hh2.out) (by rw [HB.out]; simp)).trans hh2.out
          have R2 : Hid (Below w.heap.size w X) := grown_below H5.out HX1.out.gr (by have := HB.out; omega) (by have := HB.out; omega)
          have R3 : Hid (b < X.heap.size) := Nat.lt_of_lt_of_le hzr HX1.out.gr.size
          have R4 : Hid (Qu.at4 Qu.qr s' (k, p1, p2, p3) = (Qu.places.take (4 + (k + 1))).foldl (Qu.at4 Qu.qr) s) := by
            have hl : Qu.places.length = 8 := rfl
            show _ = (Qu.places.take (4 + k + 1)).foldl (Qu.at4 Qu.qr) s
            rw [List.take_add_one, List.foldl_append, ← hs1.out, HP.out, List.getD_eq_getElem?_getD, List.getElem?_eq_getElem (by omega)]
            rfl
          have R5 : Hid ((Qu.at4 Qu.qr s' (k, p1, p2, p3)).length = 16) := (Qu.at4_length _ _ _).trans hs2.out
          clear HX1 HZ hh hbr hh2
          go_wp2_with fail
          go_roundw
          case rel => first | exact ⟨k + 1, Qu.at4 Qu.qr s' (k, p1, p2, p3), by omega, by go_num, R4, R5, HS6.out, R1, R2.out, R3.out⟩ | ((repeat apply Exists.intro); exact ⟨⟨k + 1, Qu.at4 Qu.qr s' (k, p1, p2, p3), by omega, by go_num, R4, R5, HS6.out, R1, R2.out, R3.out⟩, rfl⟩)
          case measure => simp [intOf]; omega
        · have hk4 : k = 4 := by omega
          subst hk4
          have HD : Hid (s' = Qu.dbl s) := hs1.out
          have o0 := hh2.out
          clear hs1 HE5 HS5 hlt hk hh2
          go_wp2_with (first | (refine wpList_load_row rfl 23 (.tmp 3) rfl w.heap.size rfl 23 (c32 s) (0, 0) _ o0 Try.underlying23 rfl (by rw [info23, c32_size, HS.out]) ?_) |
            (refine wpList_store_whole rfl 23 (.tmp 14) (.tmp 95) rfl wr.heap.size 23 _ (c32 s) rfl rfl (heap_alloc_new _ _) (by rw [info23, c32_size, HS.out]) (by rw [c32_size, HS.out]; rfl) (c32_all _) ?_; intro w4 h8 g4; have hnm := HM.out; have hm16 : (m : Int) < 16 := by omega
             have cg := (cell_of_row w4 wr.heap.size m _ _ _ h8).trans (c32_get s m (by rw [HS.out]; exact hm)); have fg := frozen_of_row w4 wr.heap.size m _ _ h8))
          have H8 := heap_setCell_same w4 wr.heap.size m (c32 s) 23 (.int .u32 (u (Qu.wd s m ^^^ by0))) h8
          rw [c32_set] at H8
          have o0' := (heap_setCell_other w4 ⟨wr.heap.size, m, none⟩ w.heap.size (.int .u32 (u (Qu.wd s m ^^^ by0))) (by have := Blk_lt o0; simp; omega)).trans ((new_keep g4 (Blk_lt o0)).trans o0)
          have hh' := (heap_setCell_other w4 ⟨wr.heap.size, m, none⟩ b (.int .u32 (u (Qu.wd s m ^^^ by0))) (by simp; omega)).trans ((new_keep g4 hzr).trans hh)
          have hb' := (new_below hbr (by have := HB.out; omega) g4).setCell (p := ⟨wr.heap.size, m, none⟩) (by have := HB.out; simp; omega) (.int .u32 (u (Qu.wd s m ^^^ by0)))
          obtain ⟨t, ht⟩ : ∃ t, t = s.set m (Qu.wd s m ^^^ by0) := ⟨_, rfl⟩
          rw [← ht] at H8
          clear cg fg h8 g4 hnm hm16 o0 hh hbr
          generalize w4.setCell ⟨wr.heap.size, m, none⟩ (.int .u32 (u (Qu.wd s m ^^^ by0))) = Y at *
          obtain ⟨g8, hg8⟩ : ∃ g8, g8 = wr.heap.size := ⟨_, rfl⟩
          rw [← hg8] at H8 hzr
          simp only [← hg8]
          have HT : Hid (t.length = 16) := by show _ = _; rw [ht, List.length_set]; exact HS.out
          have HB8 : Hid (g8 < Y.heap.size) := Blk_lt H8
          obtain ⟨B, hB1, hB2⟩ := turns_law s t m by0 HS.out hm ht
          have e1 := eqin_self (Qu.dbl s) ((Qu.dbl_length s).trans HS.out)
          have e2 : ∀ W, (Op.equalIn 10000 23 (.agg (c32 (Qu.dbl t))) (.agg (c32 (Qu.dbl s)))).run Try.prog W = .ok B W := fun W => by rw [eqin_any _ _ ((Qu.dbl_length t).trans HT.out) ((Qu.dbl_length s).trans HS.out), hB1]
          rw [HD.out] at hh'
          have HY : Hid (g8 + 1 ≤ Y.heap.size) := HB8
          have HX := Lib.hid (Below.refl (g8 + 1) Y)
          have HF := Lib.hid hb'
          have SY0 := Lib.hid o0'
          have SY1 := Lib.hid hh'
          have SY2 := Lib.hid H8
          have HL := HB.out
          have lN : w.heap.size < g8 + 1 := by omega
          have lb : b < g8 + 1 := by omega
          clear hb' o0' hh' H8 ht hg8 HB8 HL hB1 hs2
          obtain ⟨X, hX⟩ : ∃ X, X = Y := ⟨_, rfl⟩
          have HX : Hid (Below (g8 + 1) Y X) := by rw [hX]; exact HX.out
          rw [← hX]
          clear hX
          have h12 : ∀ w' : World, (fun w' : World => w'.heap[w.heap.size]? = some (.cells (c32 s) 23 (0, 0)) ∧ w'.heap[b]? = some (.cells (c32 (Qu.dbl s)) 23 (0, 0)) ∧ w'.heap[g8]? = some (.cells (c32 t) 23 (0, 0))) w' → (fun w' : World => w'.heap[w.heap.size]? = some (.cells (c32 s) 23 (0, 0)) ∧ w'.heap[b]? = some (.cells (c32 (Qu.dbl s)) 23 (0, 0)) ∧ w'.heap[g8]? = some (.cells (c32 t) 23 (0, 0))) w' := fun _ h => h
          have HX := Lib.hid HX.out.drew
          refine Ph.region 99 (fun w' : World => w'.heap[w.heap.size]? = some (.cells (c32 s) 23 (0, 0)) ∧ w'.heap[b]? = some (.cells (c32 (Qu.dbl s)) 23 (0, 0)) ∧ w'.heap[g8]? = some (.cells (c32 t) 23 (0, 0))) (fun w' : World => w'.heap[w.heap.size]? = some (.cells (c32 s) 23 (0, 0)) ∧ w'.heap[b]? = some (.cells (c32 (Qu.dbl s)) 23 (0, 0)) ∧ w'.heap[g8]? = some (.cells (c32 t) 23 (0, 0))) (by kernel_rfl) ?_
          refine Ph.take2 (i := 0) (d := some 105) rfl rfl (by kernel_rfl) h12 (fun _ _ _ h => h) rfl (v := .agg (c32 s)) (fun w' hw' => ?yc0) (⟨held HX.out lN SY0.out, held HX.out lb SY1.out, held HX.out (Nat.lt_succ_self _) SY2.out⟩) ?nc0
          case yc0 => exact yield_load_row 23 (.tmp 3) rfl (w.heap.size) rfl 23 (c32 s) (0, 0) _ hw'.1 Try.underlying23 rfl (by rw [info23, c32_size, HS.out])
          simp only [Act.put, List.setIfInBounds_toArray, List.set_cons_zero, List.set_cons_succ]
          refine Ph.take2 (i := 2) (d := some 107) rfl rfl (by kernel_rfl) h12 (fun _ _ _ h => h) rfl (v := .agg (c32 (Qu.dbl s))) (fun w' hw' => ?yc2) (⟨held HX.out lN SY0.out, held HX.out lb SY1.out, held HX.out (Nat.lt_succ_self _) SY2.out⟩) ?nc2
          case yc2 => exact yield_load_row 23 (.tmp 7) rfl b rfl 23 (c32 (Qu.dbl s)) (0, 0) _ hw'.2.1 Try.underlying23 rfl (by rw [info23, c32_size, Qu.dbl_length, HS.out])
          simp only [Act.put, List.setIfInBounds_toArray, List.set_cons_zero, List.set_cons_succ]
          refine Ph.only (i := 1) rfl (by kernel_rfl) rfl (fun K hK => ?_)
          go_simp
          refine (double_any s HS.out _).mono ?_
          rintro e X' ⟨rfl, hb⟩
          have HX := Lib.hid (on HX.out HY.out hb)
          clear hb
          refine hK _ _ (⟨held HX.out lN SY0.out, held HX.out lb SY1.out, held HX.out (Nat.lt_succ_self _) SY2.out⟩) ?_
          clear hK K
          try simp only [List.setIfInBounds_toArray, List.set_cons_zero, List.set_cons_succ]
          refine Ph.take2 (i := 3) (d := some 108) rfl rfl (by kernel_rfl) h12 (fun _ _ _ h => h) rfl (v := ?vc3) (fun w' hw' => ?yc3) (⟨held HX.out lN SY0.out, held HX.out lb SY1.out, held HX.out (Nat.lt_succ_self _) SY2.out⟩) ?nc3
          case yc3 => (obtain _ := hw'; go_simp; try (with_reducible rfl))
          simp only [Act.put, List.setIfInBounds_toArray, List.set_cons_zero, List.set_cons_succ]
          refine Ph.take2 (i := 4) (d := some 109) rfl rfl (by kernel_rfl) h12 (fun _ _ _ h => h) rfl (v := ?vc4) (fun w' hw' => ?yc4) (⟨held HX.out lN SY0.out, held HX.out lb SY1.out, held HX.out (Nat.lt_succ_self _) SY2.out⟩) ?nc4
          case yc4 => (obtain _ := hw'; go_simp; try (with_reducible rfl))
          simp only [Act.put, List.setIfInBounds_toArray, List.set_cons_zero, List.set_cons_succ]
          refine Ph.take2 (i := 5) (d := some 110) rfl rfl (by kernel_rfl) h12 (fun _ _ _ h => h) rfl (v := .agg (c32 t)) (fun w' hw' => ?yc5) (⟨held HX.out lN SY0.out, held HX.out lb SY1.out, held HX.out (Nat.lt_succ_self _) SY2.out⟩) ?nc5
          case yc5 => exact yield_load_row 23 (.tmp 14) rfl g8 rfl 23 (c32 t) (0, 0) _ hw'.2.2 Try.underlying23 rfl (by rw [info23, c32_size, HT.out])
          simp only [Act.put, List.setIfInBounds_toArray, List.set_cons_zero, List.set_cons_succ]
          refine Ph.take2 (i := 7) (d := some 112) rfl rfl (by kernel_rfl) h12 (fun _ _ _ h => h) rfl (v := .agg (c32 (Qu.dbl s))) (fun w' hw' => ?yc7) (⟨held HX.out lN SY0.out, held HX.out lb SY1.out, held HX.out (Nat.lt_succ_self _) SY2.out⟩) ?nc7
          case yc7 => exact yield_load_row 23 (.tmp 7) rfl b rfl 23 (c32 (Qu.dbl s)) (0, 0) _ hw'.2.1 Try.underlying23 rfl (by rw [info23, c32_size, Qu.dbl_length, HS.out])
          simp only [Act.put, List.setIfInBounds_toArray, List.set_cons_zero, List.set_cons_succ]
          refine Ph.take2 (i := 9) (d := some 114) rfl rfl (by kernel_rfl) h12 (fun _ _ _ h => h) rfl (v := ?vc9) (fun w' hw' => ?yc9) (⟨held HX.out lN SY0.out, held HX.out lb SY1.out, held HX.out (Nat.lt_succ_self _) SY2.out⟩) ?nc9
          case yc9 => (obtain _ := hw'; go_simp; try (with_reducible rfl))
          simp only [Act.put, List.setIfInBounds_toArray, List.set_cons_zero, List.set_cons_succ]
          refine Ph.take2 (i := 10) (d := some 115) rfl rfl (by kernel_rfl) h12 (fun _ _ _ h => h) rfl (v := ?vc10) (fun w' hw' => ?yc10) (⟨held HX.out lN SY0.out, held HX.out lb SY1.out, held HX.out (Nat.lt_succ_self _) SY2.out⟩) ?nc10
          case yc10 => (obtain _ := hw'; go_simp; try (with_reducible rfl))
          simp only [Act.put, List.setIfInBounds_toArray, List.set_cons_zero, List.set_cons_succ]
          refine Ph.only (i := 6) rfl (by kernel_rfl) rfl (fun K hK => ?_)
          go_simp
          refine (double_any t HT.out _).mono ?_
          rintro e X' ⟨rfl, hb⟩
          have HX := Lib.hid (on HX.out HY.out hb)
          clear hb
          refine hK _ _ (⟨held HX.out lN SY0.out, held HX.out lb SY1.out, held HX.out (Nat.lt_succ_self _) SY2.out⟩) ?_
          clear hK K
          try simp only [List.setIfInBounds_toArray, List.set_cons_zero, List.set_cons_succ]
          refine Ph.take2 (i := 8) (d := some 113) rfl rfl (by kernel_rfl) h12 (fun _ _ _ h => h) rfl (v := ?vc8) (fun w' hw' => ?yc8) (⟨held HX.out lN SY0.out, held HX.out lb SY1.out, held HX.out (Nat.lt_succ_self _) SY2.out⟩) ?nc8
          case yc8 => (obtain _ := hw'; go_simp; try (with_reducible rfl))
          simp only [Act.put, List.setIfInBounds_toArray, List.set_cons_zero, List.set_cons_succ]
          refine Ph.take2 (i := 11) (d := some 116) rfl rfl (by kernel_rfl) h12 (fun _ _ _ h => h) rfl (v := ?vc11) (fun w' hw' => ?yc11) (⟨held HX.out lN SY0.out, held HX.out lb SY1.out, held HX.out (Nat.lt_succ_self _) SY2.out⟩) ?nc11
          case yc11 => (obtain _ := hw'; go_simp; try (with_reducible rfl))
          simp only [Act.put, List.setIfInBounds_toArray, List.set_cons_zero, List.set_cons_succ]
          refine Ph.take2 (i := 12) (d := some 117) rfl rfl (by kernel_rfl) h12 (fun _ _ _ h => h) rfl (v := ?vc12) (fun w' hw' => ?yc12) (⟨held HX.out lN SY0.out, held HX.out lb SY1.out, held HX.out (Nat.lt_succ_self _) SY2.out⟩) ?nc12
          case yc12 => (obtain _ := hw'; go_simp; try (with_reducible rfl))
          simp only [Act.put, List.setIfInBounds_toArray, List.set_cons_zero, List.set_cons_succ]
          refine Ph.take2 (i := 13) (d := some 118) rfl rfl (by kernel_rfl) h12 (fun _ _ _ h => h) rfl (v := ?vc13) (fun w' hw' => ?yc13) (⟨held HX.out lN SY0.out, held HX.out lb SY1.out, held HX.out (Nat.lt_succ_self _) SY2.out⟩) ?nc13
          case yc13 => (obtain _ := hw'; go_simp; try (with_reducible rfl))
          simp only [Act.put, List.setIfInBounds_toArray, List.set_cons_zero, List.set_cons_succ]
          refine Ph.only (i := 14) rfl (by kernel_rfl) rfl (fun K hK => ?_)
          go_simp
          refine (awake2_any _).mono ?_
          rintro e X' ⟨rfl, hb⟩
          have HX := Lib.hid (on HX.out HY.out hb)
          clear hb
          refine hK _ _ (⟨held HX.out lN SY0.out, held HX.out lb SY1.out, held HX.out (Nat.lt_succ_self _) SY2.out⟩) ?_
          clear hK K
          try simp only [List.setIfInBounds_toArray, List.set_cons_zero, List.set_cons_succ]
          refine Ph.take2 (i := 15) (d := some 120) rfl rfl (by kernel_rfl) h12 (fun _ _ _ h => h) rfl (v := ?vc15) (fun w' hw' => ?yc15) (⟨held HX.out lN SY0.out, held HX.out lb SY1.out, held HX.out (Nat.lt_succ_self _) SY2.out⟩) ?nc15
          case yc15 => (obtain _ := hw'; go_simp; try (with_reducible rfl))
          simp only [Act.put, List.setIfInBounds_toArray, List.set_cons_zero, List.set_cons_succ]
          refine Ph.take2 (i := 16) (d := some 6) rfl rfl (by kernel_rfl) h12 (fun _ _ _ h => h) rfl (v := ?vc16) (fun w' hw' => ?yc16) (⟨held HX.out lN SY0.out, held HX.out lb SY1.out, held HX.out (Nat.lt_succ_self _) SY2.out⟩) ?nc16
          case yc16 => (obtain _ := hw'; go_simp; try (with_reducible rfl))
          simp only [Act.put, List.setIfInBounds_toArray, List.set_cons_zero, List.set_cons_succ]
          refine Ph.done (by kernel_rfl) ?_ _
          go_wp2_with fail
          go_ret
          exact ⟨rfl, HF.out.trans (HX.out.mono (by omega))⟩
end Go.Proofs.Ytdkimnigckpncaa
