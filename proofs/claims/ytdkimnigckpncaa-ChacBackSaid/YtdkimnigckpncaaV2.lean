/-
  The walk of a block of the stream: the program's own.
-/
import Derived.Test.YtdkimnigckpncaaV
import Derived.Test.YtdkimnigckpncaaW3
import Derived.Test.YtdkimnigckpncaaP
namespace Go.Proofs.Ytdkimnigckpncaa
open Go.RowKit
attribute [local go_sem] w_add

/-- What lies in the blocks while a block of the stream is made: the key, the nonce, the result's cell, the state. -/
structure Bl (w : World) (key nonce : List (BitVec 8)) (s : List (BitVec 32)) (X : World) : Prop where
  ky : X.heap[w.heap.size]? = some (.cells (c8 key) 31 (0, 0))
  no : X.heap[w.heap.size + 1]? = some (.cells (c8 nonce) 35 (0, 0))
  re : X.heap[w.heap.size + 1 + 1]? = some (.cells (c8 (List.replicate 64 0#8)) 36 (0, 0))
  st : X.heap[w.heap.size + 1 + 1 + 1]? = some (.cells (c32 s) 23 (0, 0))
  bl : Below w.heap.size w X
  sz : w.heap.size + 1 + 1 + 1 < X.heap.size

section
variable {w X Y : World} {key nonce : List (BitVec 8)} {s : List (BitVec 32)}
theorem Bl.new (w : World) (key nonce : List (BitVec 8)) (z s : Array Value) (hz : z = c8 (List.replicate 64 0#8)) (hs : s = c32 Ch.st0) :
    Bl w key nonce Ch.st0 ((((w.alloc (.cells (c8 key) 31)).alloc (.cells (c8 nonce) 35)).alloc (.cells z 36)).alloc (.cells s 23)) := by
  subst hz hs
  refine ⟨?_, ?_, ?_, ?_, ?_, by simp⟩
  · rw [Below.heap_alloc _ _ _ (by simp; omega), Below.heap_alloc _ _ _ (by simp; omega), Below.heap_alloc _ _ _ (by simp), heap_alloc_new]
  · rw [Below.heap_alloc _ _ _ (by simp), Below.heap_alloc _ _ _ (by simp)]
    exact heap_alloc2_new _ _ _
  · rw [Below.heap_alloc _ _ _ (by simp)]
    have := heap_alloc_new ((w.alloc (.cells (c8 key) 31)).alloc (.cells (c8 nonce) 35)) (.cells (c8 (List.replicate 64 0#8)) 36)
    simpa using this
  · have := heap_alloc_new (((w.alloc (.cells (c8 key) 31)).alloc (.cells (c8 nonce) 35)).alloc (.cells (c8 (List.replicate 64 0#8)) 36)) (.cells (c32 Ch.st0) 23)
    simpa using this
  · exact ((((Below.refl _ _).alloc (Nat.le_refl _) _).alloc (by simp) _).alloc (by simp; omega) _).alloc (by simp; omega) _
theorem Bl.set (h : Bl w key nonce s X) (j : Nat) (x : BitVec 32) : Bl w key nonce (s.set j x) (X.setCell ⟨w.heap.size + 1 + 1 + 1, j, none⟩ (.int .u32 (u x))) := by
  have ho : ∀ g, g ≠ w.heap.size + 1 + 1 + 1 → (X.setCell ⟨w.heap.size + 1 + 1 + 1, j, none⟩ (.int .u32 (u x))).heap[g]? = X.heap[g]? := fun g hg => heap_setCell_other X ⟨_, j, none⟩ g _ hg
  refine ⟨(ho _ (by omega)).trans h.ky, (ho _ (by omega)).trans h.no, (ho _ (by omega)).trans h.re, ?_, ?_, by simpa [World.setCell] using h.sz⟩
  · rw [← c32_set]; exact heap_setCell_same X _ j (c32 s) 23 _ h.st
  · exact h.bl.trans ⟨rfl, rfl, rfl, by simp [World.setCell], fun g hg => ho g (by omega)⟩
theorem Bl.cell (h : Bl w key nonce s X) {j : Nat} (hj : j < s.length) : X.cell? ⟨w.heap.size + 1 + 1 + 1, j, none⟩ = some (.int .u32 (u (Qu.wd s j))) :=
  (cell_of_row X _ j _ 23 (0, 0) h.st).trans (c32_get s j hj)
theorem Bl.free (h : Bl w key nonce s X) (j : Nat) : X.frozen? ⟨w.heap.size + 1 + 1 + 1, j, none⟩ = false := frozen_of_row X _ j _ 23 h.st
theorem Bl.later (h : Bl w key nonce s X) (hb : Below X.heap.size X Y) : Bl w key nonce s Y := by
  have h0 := h.sz
  have h1 := hb.size
  exact ⟨(hb.block _ (by omega)).trans h.ky, (hb.block _ (by omega)).trans h.no, (hb.block _ (by omega)).trans h.re, (hb.block _ (by omega)).trans h.st, h.bl.trans (hb.mono (by omega)), by omega⟩
theorem Bl.over (h : Bl w key nonce s X) {B : Nat} (hB : w.heap.size + 1 + 1 + 1 < B) (hb : Below B X Y) : Bl w key nonce s Y := by
  have h0 := h.sz
  have h1 := hb.size
  exact ⟨(hb.block _ (by omega)).trans h.ky, (hb.block _ (by omega)).trans h.no, (hb.block _ (by omega)).trans h.re, (hb.block _ (by omega)).trans h.st, h.bl.trans (hb.mono (by omega)), by omega⟩
theorem Bl.aside (h : Bl w key nonce s X) {g : Nat} (hg : w.heap.size + 1 + 1 + 1 < g) (hb : X.grownBy Y (some g)) : Bl w key nonce s Y := by
  have h0 := h.sz
  have h1 := hb.size
  have hk : ∀ i, i < w.heap.size + 1 + 1 + 1 + 1 → Y.heap[i]? = X.heap[i]? := fun i hi => hb.block i (by omega) (by simp; omega)
  exact ⟨(hk _ (by omega)).trans h.ky, (hk _ (by omega)).trans h.no, (hk _ (by omega)).trans h.re, (hk _ (by omega)).trans h.st, grown_below h.bl hb (by omega) (by omega), by omega⟩
end

/-- Two words can be read. -/
def Two (b tb k : Nat) (s t : List (BitVec 32)) (w : World) : Prop :=
  w.cell? ⟨b, k, none⟩ = some (.int .u32 (u (Qu.wd s k))) ∧ w.cell? ⟨tb, k, none⟩ = some (.int .u32 (u (Qu.wd t k)))
theorem own_read {W : World} {base n : Nat} {v : Value} {xs : List Value} (h : W.ownsRow base 5 1 v n xs) (hn : 0 < n) :
    ∃ g cap, v = .slice (some ⟨g, 0, none⟩) n cap ∧ base ≤ g ∧ ∀ j x, xs[j]? = some x → W.cell? ((⟨g, 0, none⟩ : Addr).add j) = some x := by
  have hc : ∀ {g : Nat}, v.ownBlock = some g → ∀ j u, xs[j]? = some u → W.cell? ((⟨g, 0, none⟩ : Addr).add j) = some u := fun hg => h.cells hg
  rcases h.2 with ⟨_, h0⟩ | ⟨g, cap, _, rfl, hb, _⟩
  · omega
  · exact ⟨g, cap, rfl, hb, hc rfl⟩
theorem w4_eq (l : List (BitVec 8)) (k : Nat) : (Ch.ge (((l.drop (4 * k)).take 4).take 8)).setWidth 32 = Ch.w4 l k := by
  rw [List.take_take]; rfl

set_option maxRecDepth 100000 in
set_option maxHeartbeats 4000000 in
theorem block_any (key nonce : List (BitVec 8)) (hk : key.length = 32) (hn : nonce.length = 12) (c : BitVec 32) (w : World) : Calls Try.prog 25 #[.agg (c8 key), .agg (c8 nonce), .int .u32 (u c)] w fun e w' => e = .returned (.agg (c8 (Ch.block key nonce c))) ∧ Below w.heap.size w w' := by
  go_enter Try.func25, Try.ntmps25
  go_wp2_with fail
  have HK := Lib.hid hk; have HN := Lib.hid hn
  clear hk hn
  go_loopw [14] (fun i wr => ∃ (k : Nat) (s' : List (BitVec 32)), k ≤ 8 ∧ (i = .int .i64 k) ∧ Hid (s' = Ch.fil key 4 k Ch.st0) ∧ Hid (s'.length = 16) ∧ Hid (Bl w key nonce s' wr)) (fun i _ => 8 - (intOf i).toNat)
  case atStart => exact ⟨0, Ch.st0, by omega, rfl, rfl, rfl, Bl.new w key nonce _ _ (by kernel_rfl) (by kernel_rfl)⟩
  case round =>
    obtain ⟨k, s', hk, rfl, hs1, hs2, HB⟩ := hrel
    by_cases hlt : k < 8
    · have hk8 : (k : Int) < 8 := by omega
      have a1 : (4 : Int) + k < 16 := by omega
      have hsl := fun W => sl_lh Try.underlying31 W w.heap.size (4 * k) (4 * k + 4) (4 * (k : Int)) (4 * (k : Int) + 4) (by omega) (by omega) (by omega) (by omega) (by omega)
      have e4 : 4 * k + 4 - 4 * k = 4 := by omega
      rw [e4] at hsl
      clear e4
      go_wp2_with fail
      refine (get_any _ _ _ ((key.drop (4 * k)).take 4) (by simp [HK.out]; omega) (by omega) _ (rd_c8 HB.out.ky (4 * k) 4 (by rw [HK.out]; omega))).mono ?_
      rintro e w1 ⟨rfl, rfl⟩
      have hcv := c_64_32 (Ch.ge (((key.drop (4 * k)).take 4).take 8))
      have cc := HB.out.cell (j := 4 + k) (by rw [hs2.out]; omega)
      have ff := HB.out.free (4 + k)
      have e5 : ((4 : Int) + (k : Int)).toNat = 4 + k := by omega
      go_wp2_with fail
      go_roundw
      case rel => exact ⟨k + 1, s'.set (4 + k) (Ch.w4 key k), by omega, by go_num, by show _ = _; rw [Ch.fil, ← hs1.out], by show _ = _; rw [List.length_set]; exact hs2.out, by rw [w4_eq]; exact HB.out.set _ _⟩
      case measure => simp [intOf]; omega
    · have hk8 : k = 8 := by omega
      subst hk8
      have cc := HB.out.cell (j := 12) (by rw [hs2.out]; omega)
      have ff := HB.out.free 12
      go_wp2_with fail
      have HB2 := Lib.hid (HB.out.set 12 c)
      have hz1 : Hid ((s'.set 12 c) = (Ch.fil key 4 8 Ch.st0).set 12 c) := by show _ = _; rw [hs1.out]
      have hz2 : Hid ((s'.set 12 c).length = 16) := by show _ = _; rw [List.length_set]; exact hs2.out
      clear HB cc ff hs1 hs2
      generalize hsg : s'.set 12 c = s at *
      clear hsg s'
      generalize hwg : wr.setCell { block := w.heap.size + 1 + 1 + 1, off := 12, spot := none } (.int .u32 (u c)) = wq at *
      clear hwg wr
      go_loopw [31] (fun i wr => ∃ (k : Nat) (s' : List (BitVec 32)), k ≤ 3 ∧ (i = .int .i64 k) ∧ Hid (s' = Ch.fil nonce 13 k s) ∧ Hid (s'.length = 16) ∧ Hid (Bl w key nonce s' wr)) (fun i _ => 3 - (intOf i).toNat)
      case atStart => exact ⟨0, s, by omega, rfl, rfl, hz2, HB2⟩
      case round =>
        obtain ⟨k, s', hk, rfl, hs1, hs2, HB⟩ := hrel
        by_cases hlt : k < 3
        · have hk8 : (k : Int) < 3 := by omega
          have a1 : (13 : Int) + k < 16 := by omega
          have hsl := fun W => sl_lh Try.underlying35 W (w.heap.size + 1) (4 * k) (4 * k + 4) (4 * (k : Int)) (4 * (k : Int) + 4) (by omega) (by omega) (by omega) (by omega) (by omega)
          have e4 : 4 * k + 4 - 4 * k = 4 := by omega
          rw [e4] at hsl
          clear e4
          go_wp2_with fail
          refine (get_any _ _ _ ((nonce.drop (4 * k)).take 4) (by simp [HN.out]; omega) (by omega) _ (rd_c8 HB.out.no (4 * k) 4 (by rw [HN.out]; omega))).mono ?_
          rintro e w1 ⟨rfl, rfl⟩
          have hcv := c_64_32 (Ch.ge (((nonce.drop (4 * k)).take 4).take 8))
          have cc := HB.out.cell (j := 13 + k) (by rw [hs2.out]; omega)
          have ff := HB.out.free (13 + k)
          have e5 : ((13 : Int) + (k : Int)).toNat = 13 + k := by omega
          go_wp2_with fail
          go_roundw
          case rel => (repeat apply Exists.intro); exact ⟨⟨k + 1, s'.set (13 + k) (Ch.w4 nonce k), by omega, by go_num, by show _ = _; rw [Ch.fil, ← hs1.out], by show _ = _; rw [List.length_set]; exact hs2.out, by rw [w4_eq]; exact HB.out.set _ _⟩, rfl⟩
          case measure => simp [intOf]; omega
        · have hk3 : k = 3 := by omega
          subst hk3
          have hs3 : Hid (s' = Ch.start key nonce c) := by show _ = _; rw [hs1.out, hz1.out]; exact Ch.filled key nonce c
          clear hs1 hz1 hz2 HB2
          have hst := HB.out.st
          go_wp2_with (first | (refine wpList_load_row rfl 23 (.tmp 7) rfl (w.heap.size + 1 + 1 + 1) rfl 23 (c32 s') (0, 0) _ hst Try.underlying23 rfl (by rw [info23, c32_size, hs2.out]) ?_) | (refine wpList_store_whole rfl 23 (.tmp 10) (.tmp 46) rfl wr.heap.size 23 _ (c32 s') rfl rfl (heap_alloc_new _ _) (by rw [info23, c32_size, hs2.out]) (by rw [c32_size, hs2.out]; rfl) (c32_all _) ?_; intro w2 hT gr))
          have hbb := HB.out.sz
          have hg1 : Hid (Bl w key nonce s' w2) := HB.out.later (new_below (Below.refl _ _) (by omega) gr)
          obtain ⟨tb, htb⟩ : ∃ tb, tb = wr.heap.size := ⟨_, rfl⟩
          rw [← htb] at hT hbb
          have hz2 : tb < w2.heap.size := Blk_lt hT
          simp only [← htb]
          clear gr hst HB htb wr
          go_loopw [47] (fun i wr => ∃ (k : Nat) (t : List (BitVec 32)), k ≤ 10 ∧ (i = .int .i64 k) ∧ Hid (t = Ch.rep Qu.dbl k s') ∧ Hid (t.length = 16) ∧ Hid (Bl w key nonce s' wr) ∧ wr.heap[tb]? = some (.cells (c32 t) 23 (0, 0)) ∧ tb < wr.heap.size) (fun i _ => 10 - (intOf i).toNat)
          case atStart => exact ⟨0, s', by omega, rfl, rfl, hs2, hg1, hT, hz2⟩
          case round =>
            obtain ⟨k, t, hk, rfl, ht1, ht2, HB, hH, hzr⟩ := hrel
            clear hg1 hT hz2
            by_cases hlt : k < 10
            · have hk8 : (k : Int) < 10 := by omega
              go_wp2_with (refine wpList_load_row rfl 23 (.tmp 10) rfl tb rfl 23 (c32 t) (0, 0) _ hH Try.underlying23 rfl (by rw [info23, c32_size, ht2.out]) ?_)
              refine (double_any _ ht2.out _).mono ?_
              rintro e w1 ⟨rfl, hb1⟩
              have HB1 := Lib.hid (HB.out.later hb1)
              have hH1 := (hb1.block tb hzr).trans hH
              have hzs := hb1.size
              have hd2 : (Qu.dbl t).length = 16 := (Qu.dbl_length t).trans ht2.out
              clear hH HB
              go_wp2_with (refine wpList_store_whole rfl 23 (.tmp 10) (.tmp 50) rfl tb 23 _ (c32 (Qu.dbl t)) rfl rfl hH1 (by rw [info23, c32_size, hd2]) (by rw [c32_size, c32_size, hd2, ht2.out]) (c32_all _) ?_; intro w3 hT gr)
              have R1 : Hid (Bl w key nonce s' w3) := HB1.out.aside hbb gr
              have R2 : tb < w3.heap.size := by have := gr.size; omega
              clear gr hH1 HB1
              go_wp2_with fail
              go_roundw
              case rel => exact ⟨k + 1, Qu.dbl t, by omega, by go_num, by show _ = _; rw [Ch.rep, ← ht1.out], hd2, R1, hT, R2⟩
              case measure => simp [intOf]; omega
            · have hk10 : k = 10 := by omega
              subst hk10
              go_wp2_with fail
              obtain ⟨ob, hob⟩ : ∃ ob, ob = wr.heap.size := ⟨_, rfl⟩
              have HB1 := Lib.hid (HB.out.later ((Below.refl _ _).alloc (Nat.le_refl wr.heap.size) (.cells (c8 (Ch.outs s' t 0)) 36)))
              have hH1 := (Below.heap_alloc wr (.cells (c8 (Ch.outs s' t 0)) 36) _ hzr).trans hH
              have hO1 := heap_alloc_new wr (.cells (c8 (Ch.outs s' t 0)) 36)
              have hz5 : ob < (wr.alloc (.cells (c8 (Ch.outs s' t 0)) 36)).heap.size := by rw [hob]; simp
              rw [← hob] at hO1 hzr
              simp only [← hob]
              clear HB hH hob
              go_loopw [52] (fun i wr => ∃ (k : Nat), k ≤ 16 ∧ (i = .int .i64 k) ∧ Hid (Bl w key nonce s' wr) ∧ Hid (wr.heap[tb]? = some (.cells (c32 t) 23 (0, 0))) ∧ Hid (wr.heap[ob]? = some (.cells (c8 (Ch.outs s' t k)) 36 (0, 0))) ∧ ob < wr.heap.size) (fun i _ => 16 - (intOf i).toNat)
              case atStart => exact ⟨0, by omega, rfl, HB1, hH1, hO1, hz5⟩
              case round =>
                obtain ⟨k, hk, rfl, HB, hH, hO, hz5⟩ := hrel
                clear HB1 hH1 hO1
                by_cases hlt : k < 16
                · have hk8 : (k : Int) < 16 := by omega
                  go_wp2_with fail
                  have hsl := fun W => sl_l Try.underlying36 W ob (4 * k) (4 * (k : Int)) (by omega) (by omega)
                  have hS : Two (w.heap.size + 1 + 1 + 1) tb k s' t wr.drew :=
                    ⟨HB.out.cell (by rw [hs2.out]; omega), (cell_of_row wr tb k _ 23 (0, 0) hH.out).trans (c32_get t k (by rw [ht2.out]; omega))⟩
                  have hcv := c_32_64 (Qu.wd s' k + Qu.wd t k)
                  have hwr : IntKind.i64.wrap (4 * (k : Int)) = 4 * (k : Int) := by rw [IntKind.wrap_i64]; omega
                  refine Ph.region 99 (Two (w.heap.size + 1 + 1 + 1) tb k s' t) (Two (w.heap.size + 1 + 1 + 1) tb k s' t) (by kernel_rfl) ?_
                  refine Ph.take2 (i := 0) (d := some 55) rfl rfl (by kernel_rfl) (fun _ h => h) (fun _ _ _ h => h) rfl (v := ?v0) (fun w' hw' => ?y0) hS ?n0
                  case y0 => (obtain ⟨q0, q1⟩ := hw'; go_simp; try (with_reducible rfl))
                  simp only [Act.put, List.setIfInBounds_toArray, List.set_cons_zero, List.set_cons_succ]
                  refine Ph.take2 (i := 1) (d := some 56) rfl rfl (by kernel_rfl) (fun _ h => h) (fun _ _ _ h => h) rfl (v := ?v1) (fun w' hw' => ?y1) hS ?n1
                  case y1 => (obtain ⟨q0, q1⟩ := hw'; go_simp; try (with_reducible rfl))
                  simp only [Act.put, List.setIfInBounds_toArray, List.set_cons_zero, List.set_cons_succ]
                  refine Ph.take2 (i := 2) (d := some 57) rfl rfl (by kernel_rfl) (fun _ h => h) (fun _ _ _ h => h) rfl (v := ?v2) (fun w' hw' => ?y2) hS ?n2
                  case y2 => (obtain ⟨q0, q1⟩ := hw'; go_simp; try (with_reducible rfl))
                  simp only [Act.put, List.setIfInBounds_toArray, List.set_cons_zero, List.set_cons_succ]
                  refine Ph.take2 (i := 3) (d := some 58) rfl rfl (by kernel_rfl) (fun _ h => h) (fun _ _ _ h => h) rfl (v := ?v3) (fun w' hw' => ?y3) hS ?n3
                  case y3 => (obtain ⟨q0, q1⟩ := hw'; go_simp; try (with_reducible rfl))
                  simp only [Act.put, List.setIfInBounds_toArray, List.set_cons_zero, List.set_cons_succ]
                  refine Ph.take2 (i := 4) (d := some 59) rfl rfl (by kernel_rfl) (fun _ h => h) (fun _ _ _ h => h) rfl (v := ?v4) (fun w' hw' => ?y4) hS ?n4
                  case y4 => (obtain ⟨q0, q1⟩ := hw'; go_simp; try (with_reducible rfl))
                  simp only [Act.put, List.setIfInBounds_toArray, List.set_cons_zero, List.set_cons_succ]
                  refine Ph.take2 (i := 5) (d := some 60) rfl rfl (by kernel_rfl) (fun _ h => h) (fun _ _ _ h => h) rfl (v := ?v5) (fun w' hw' => ?y5) hS ?n5
                  case y5 => (obtain ⟨q0, q1⟩ := hw'; go_simp; try (with_reducible rfl))
                  simp only [Act.put, List.setIfInBounds_toArray, List.set_cons_zero, List.set_cons_succ]
                  refine Ph.take2 (i := 6) (d := some 61) rfl rfl (by kernel_rfl) (fun _ h => h) (fun _ _ _ h => h) rfl (v := ?v6) (fun w' hw' => ?y6) hS ?n6
                  case y6 => (obtain ⟨q0, q1⟩ := hw'; go_simp; try (with_reducible rfl))
                  simp only [Act.put, List.setIfInBounds_toArray, List.set_cons_zero, List.set_cons_succ]
                  refine Ph.take2 (i := 7) (d := some 62) rfl rfl (by kernel_rfl) (fun _ h => h) (fun _ _ _ h => h) rfl (v := ?v7) (fun w' hw' => ?y7) hS ?n7
                  case y7 => (obtain ⟨q0, q1⟩ := hw'; go_simp; try (with_reducible rfl))
                  simp only [Act.put, List.setIfInBounds_toArray, List.set_cons_zero, List.set_cons_succ]
                  refine Ph.take2 (i := 8) (d := some 63) rfl rfl (by kernel_rfl) (fun _ h => h) (fun _ _ _ h => h) rfl (v := ?v8) (fun w' hw' => ?y8) hS ?n8
                  case y8 => (obtain ⟨q0, q1⟩ := hw'; go_simp; try (with_reducible rfl))
                  simp only [Act.put, List.setIfInBounds_toArray, List.set_cons_zero, List.set_cons_succ]
                  refine Ph.take2 (i := 9) (d := some 64) rfl rfl (by kernel_rfl) (fun _ h => h) (fun _ _ _ h => h) rfl (v := ?v9) (fun w' hw' => ?y9) hS ?n9
                  case y9 => (obtain ⟨q0, q1⟩ := hw'; go_simp; try (with_reducible rfl))
                  simp only [Act.put, List.setIfInBounds_toArray, List.set_cons_zero, List.set_cons_succ]
                  refine Ph.take2 (i := 10) (d := some 65) rfl rfl (by kernel_rfl) (fun _ h => h) (fun _ _ _ h => h) rfl (v := ?v10) (fun w' hw' => ?y10) hS ?n10
                  case y10 => (obtain ⟨q0, q1⟩ := hw'; go_simp; try (with_reducible rfl))
                  simp only [Act.put, List.setIfInBounds_toArray, List.set_cons_zero, List.set_cons_succ]
                  refine Ph.only (i := 11) rfl (by kernel_rfl) rfl (fun K hK => ?_)
                  go_simp
                  refine (put_any _ 4 (by omega) _).mono ?_
                  rintro e w1 ⟨v, rfl, hown, hb1⟩
                  have hb1 : Below wr.heap.size wr w1 := ((Below.refl wr.heap.size wr).drew).trans hb1
                  have hzs := hb1.size
                  have HB1 := Lib.hid (HB.out.later hb1)
                  have hH1 := Lib.hid ((hb1.block tb (by omega)).trans hH.out)
                  have hO1 := (hb1.block ob (by omega)).trans hO.out
                  have hS2 : Two (w.heap.size + 1 + 1 + 1) tb k s' t w1 :=
                    ⟨HB1.out.cell (by rw [hs2.out]; omega), (cell_of_row w1 tb k _ 23 (0, 0) hH1.out).trans (c32_get t k (by rw [ht2.out]; omega))⟩
                  refine hK _ _ hS2 ?_
                  clear hK K hS HB hH hO
                  try simp only [List.setIfInBounds_toArray, List.set_cons_zero, List.set_cons_succ]
                  obtain ⟨g, cap, rfl, hg, hrd⟩ := own_read hown (by omega)
                  refine Ph.only (i := 12) rfl (by kernel_rfl) rfl (fun K hK => ?_)
                  refine wp_copy_splice rfl (.tmp 57) (.tmp 66) 32 32 rfl 5 Try.underlying32 (by kernel_rfl) (some ⟨ob, 4 * k, none⟩) (some ⟨g, 0, none⟩) (64 - 4 * k) (64 - 4 * k) 4 cap rfl rfl
                    ob (4 * k) ((Ch.outs s' t k).map cell8) 36 hO1 ((Ch.word s' t k).map cell8) (by rw [List.length_map, Ch.word_length]; exact (Nat.min_eq_left (by omega)).symm) (fun _ => ⟨rfl, _, rfl, hrd⟩)
                    (by simp [Ch.word_length, Ch.outs_length s' t k (by omega)]; omega) (cell8_one _) ob w1 (Below.refl _ _) (Nat.le_refl _) ?_
                  intro w2 hg2 hb2
                  have hzs2 := hb2.size
                  have HB2 := Lib.hid (HB1.out.over (by omega) hb2)
                  have hH2 := Lib.hid ((hb2.block tb (by omega)).trans hH1.out)
                  have hO2 : Hid (w2.heap[ob]? = some (.cells (c8 (Ch.outs s' t (k + 1))) 36 (0, 0))) := by
                    show _ = _
                    rw [hg2.out, splice_map, Ch.outs_next s' t k (by omega)]; rfl
                  have hS3 : Two (w.heap.size + 1 + 1 + 1) tb k s' t w2 :=
                    ⟨HB2.out.cell (by rw [hs2.out]; omega), (cell_of_row w2 tb k _ 23 (0, 0) hH2.out).trans (c32_get t k (by rw [ht2.out]; omega))⟩
                  have hz6 : ob < w2.heap.size := by omega
                  clear HB1 hH1 hO1 hb2 hg2 hb1 hown hrd
                  refine hK _ _ hS3 ?_
                  clear hK K hS2 hS3
                  refine Ph.done (by kernel_rfl) ?_ _
                  try simp only [List.setIfInBounds_toArray, List.set_cons_zero, List.set_cons_succ]
                  go_wp2_with fail
                  go_roundw
                  case rel => first | exact ⟨k + 1, by omega, by go_num, HB2, hH2, hO2, hz6⟩ | ((repeat apply Exists.intro); exact ⟨⟨k + 1, by omega, by go_num, HB2, hH2, hO2, hz6⟩, rfl⟩)
                  case measure => simp [intOf]; omega
                · have hk16 : k = 16 := by omega
                  subst hk16
                  have hl : (Ch.outs s' t 16).length = 64 := Ch.outs_length s' t 16 (Nat.le_refl _)
                  have hre := HB.out.re
                  have hO1 := hO.out
                  go_wp2_with (first | (refine wpList_load_row rfl 36 (.tmp 11) rfl ob rfl 36 (c8 (Ch.outs s' t 16)) (0, 0) _ hO1 Try.underlying36 rfl (by rw [info36, c8_size, hl]) ?_) | (refine wpList_store_row rfl 36 (.tmp 6) (.tmp 69) rfl (w.heap.size + 1 + 1) 36 _ (c8 (Ch.outs s' t 16)) rfl rfl hre (by rw [info36, c8_size, hl]) (by rw [c8_size, c8_size, hl]; rfl) (c8_all _) ?_))
                  refine bodyPost_ret (v := .agg (c8 (Ch.outs s' t 16))) (results_cell_row rfl _ _ (w.heap.size + 1 + 1) 36 (c8 (Ch.outs s' t 16)) (0, 0) _ rfl (setRow_heap _ _ _ _ _ _ hre) Try.underlying36 rfl (by rw [info36, c8_size, hl])) rfl ?_
                  refine ⟨?_, below_row HB.out.bl (by omega) _⟩
                  rw [ht1.out, hs3.out, Ch.outs_all]
end Go.Proofs.Ytdkimnigckpncaa
