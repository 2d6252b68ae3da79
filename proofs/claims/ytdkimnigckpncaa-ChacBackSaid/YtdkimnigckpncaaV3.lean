/-
  The walk of a block of the stream: the document's.
-/
import Derived.Test.YtdkimnigckpncaaV2
import Derived.Test.YtdkimnigckpncaaW5
namespace Go.Proofs.Ytdkimnigckpncaa
open Go.RowKit
attribute [local go_sem] w_add
theorem c_32_8 (x : BitVec 32) : IntKind.u8.wrap (u x) = u (x.setWidth 8) := by
  unfold u
  rw [wr8, BitVec.toNat_ofNat, BitVec.toNat_setWidth]
namespace Ch
open Qu (W wd dbl)
theorem low8 (x : W) (n : Nat) : ((x.setWidth 64) >>> n).setWidth 8 = (x >>> n).setWidth 8 := by
  apply BitVec.eq_of_toNat_eq
  have := x.isLt
  simp only [BitVec.toNat_setWidth, BitVec.toNat_ushiftRight]
  rw [Nat.mod_eq_of_lt (a := x.toNat) (by omega)]
/-- The bytes written so far, within one word. -/
def part (s t : List W) (k : Nat) : Nat → List Y
  | 0 => outs s t k
  | j + 1 => (part s t k j).set (4 * k + j) (((wd t k + wd s k) >>> (8 * j)).setWidth 8)
theorem part_length (s t : List W) (k : Nat) : ∀ j, (part s t k j).length = (outs s t k).length
  | 0 => rfl
  | j + 1 => by rw [part, List.length_set, part_length s t k j]
theorem set4 (A : List Y) (m : Nat) (b0 b1 b2 b3 : Y) : ((((A ++ List.replicate (4 + m) 0#8).set A.length b0).set (A.length + 1) b1).set (A.length + 2) b2).set (A.length + 3) b3 = A ++ ([b0, b1, b2, b3] ++ List.replicate m 0#8) := by
  have e : List.replicate (4 + m) (0#8) = 0#8 :: 0#8 :: 0#8 :: 0#8 :: List.replicate m 0#8 := by
    rw [Nat.add_comm]; rfl
  rw [e]
  simp
theorem part_all (s t : List W) (k : Nat) (hk : k < 16) : part s t k 4 = outs s t (k + 1) := by
  have e : ((List.range k).flatMap fun i => word s t i).length = 4 * k := outs_pre s t k
  have e2 : 64 - 4 * k = 4 + (64 - 4 * (k + 1)) := by omega
  have h := set4 ((List.range k).flatMap fun i => word s t i) (64 - 4 * (k + 1)) (((wd t k + wd s k) >>> (8 * 0)).setWidth 8) (((wd t k + wd s k) >>> (8 * 1)).setWidth 8) (((wd t k + wd s k) >>> (8 * 2)).setWidth 8) (((wd t k + wd s k) >>> (8 * 3)).setWidth 8)
  rw [e, ← e2] at h
  show ((((outs s t k).set (4 * k + 0) _).set (4 * k + 1) _).set (4 * k + 2) _).set (4 * k + 3) _ = _
  unfold outs
  rw [Nat.add_zero, h, List.range_succ, List.flatMap_append, List.append_assoc]
  congr 1
  simp only [List.flatMap_cons, List.flatMap_nil, List.append_nil, word]
  congr 1
  rw [BitVec.add_comm (wd t k)]
  simp only [pu, low8, List.nil_append, List.cons_append]
end Ch

set_option maxRecDepth 100000 in
set_option maxHeartbeats 4000000 in
theorem rblock_any (key nonce : List (BitVec 8)) (hk : key.length = 32) (hn : nonce.length = 12) (c : BitVec 32) (w : World) : Calls Try.prog 29 #[.agg (c8 key), .agg (c8 nonce), .int .u32 (u c)] w fun e w' => e = .returned (.agg (c8 (Ch.block key nonce c))) ∧ Below w.heap.size w w' := by
  go_enter Try.func29, Try.ntmps29
  go_wp2_with fail
  have HK := Lib.hid hk; have HN := Lib.hid hn
  clear hk hn
  go_loopw [8] (fun i wr => ∃ (k : Nat) (s' : List (BitVec 32)), k ≤ 8 ∧ (i = .int .i64 k) ∧ Hid (s' = Ch.fil key 4 k Ch.st0) ∧ Hid (s'.length = 16) ∧ Hid (Bl w key nonce s' wr)) (fun i _ => 8 - (intOf i).toNat)
  case atStart => exact ⟨0, Ch.st0, by omega, rfl, rfl, rfl, Bl.new w key nonce _ _ (by kernel_rfl) (by kernel_rfl)⟩
  case round =>
    obtain ⟨k, s', hk, rfl, hs1, hs2, HB⟩ := hrel
    by_cases hlt : k < 8
    · have hk8 : (k : Int) < 8 := by omega
      have a1 : (4 : Int) + k < 16 := by omega
      have hsl := fun W => sl_lh Try.underlying31 W w.heap.size (4 * k) (4 * k + 4) (4 * (k : Int)) (4 * (k : Int) + 4) (by omega) (by omega) (by omega) (by omega) (by omega)
      have e4 : 4 * k + 4 - 4 * k = 4 := by omega
      rw [e4] at hsl
      clear e4
      go_wp2_with fail
      refine (rget_any _ _ _ ((key.drop (4 * k)).take 4) (by simp [HK.out]; omega) (by omega) _ (rd_c8 HB.out.ky (4 * k) 4 (by rw [HK.out]; omega))).mono ?_
      rintro e w1 ⟨rfl, rfl⟩
      have hcv := c_64_32 (Ch.ge (((key.drop (4 * k)).take 4).take 8))
      have cc := HB.out.cell (j := 4 + k) (by rw [hs2.out]; omega)
      have ff := HB.out.free (4 + k)
      have e5 : ((4 : Int) + (k : Int)).toNat = 4 + k := by omega
      go_wp2_with fail
      go_roundw
      case rel => exact ⟨k + 1, s'.set (4 + k) (Ch.w4 key k), by omega, by go_num, by show _ = _; rw [Ch.fil, ← hs1.out], by show _ = _; rw [List.length_set]; exact hs2.out, by rw [w4_eq]; exact HB.out.set _ _⟩
      case measure => simp [intOf]; omega
    · have hk8 : k = 8 := by omega
      subst hk8
      have cc := HB.out.cell (j := 12) (by rw [hs2.out]; omega)
      have ff := HB.out.free 12
      go_wp2_with fail
      have HB2 := Lib.hid (HB.out.set 12 c)
      have hz1 : Hid ((s'.set 12 c) = (Ch.fil key 4 8 Ch.st0).set 12 c) := by show _ = _; rw [hs1.out]
      have hz2 : Hid ((s'.set 12 c).length = 16) := by show _ = _; rw [List.length_set]; exact hs2.out
      clear HB cc ff hs1 hs2
      generalize hsg : s'.set 12 c = s at *
      clear hsg s'
      generalize hwg : wr.setCell { block := w.heap.size + 1 + 1 + 1, off := 12, spot := none } (.int .u32 (u c)) = wq at *
      clear hwg wr
      go_loopw [9] (fun i wr => ∃ (k : Nat) (s' : List (BitVec 32)), k ≤ 3 ∧ (i = .int .i64 k) ∧ Hid (s' = Ch.fil nonce 13 k s) ∧ Hid (s'.length = 16) ∧ Hid (Bl w key nonce s' wr)) (fun i _ => 3 - (intOf i).toNat)
      case atStart => exact ⟨0, s, by omega, rfl, rfl, hz2, HB2⟩
      case round =>
        obtain ⟨k, s', hk, rfl, hs1, hs2, HB⟩ := hrel
        by_cases hlt : k < 3
        · have hk8 : (k : Int) < 3 := by omega
          have a1 : (13 : Int) + k < 16 := by omega
          have hsl := fun W => sl_lh Try.underlying35 W (w.heap.size + 1) (4 * k) (4 * k + 4) (4 * (k : Int)) (4 * (k : Int) + 4) (by omega) (by omega) (by omega) (by omega) (by omega)
          have e4 : 4 * k + 4 - 4 * k = 4 := by omega
          rw [e4] at hsl
          clear e4
          go_wp2_with fail
          refine (rget_any _ _ _ ((nonce.drop (4 * k)).take 4) (by simp [HN.out]; omega) (by omega) _ (rd_c8 HB.out.no (4 * k) 4 (by rw [HN.out]; omega))).mono ?_
          rintro e w1 ⟨rfl, rfl⟩
          have hcv := c_64_32 (Ch.ge (((nonce.drop (4 * k)).take 4).take 8))
          have cc := HB.out.cell (j := 13 + k) (by rw [hs2.out]; omega)
          have ff := HB.out.free (13 + k)
          have e5 : ((13 : Int) + (k : Int)).toNat = 13 + k := by omega
          go_wp2_with fail
          go_roundw
          case rel => (repeat apply Exists.intro); exact ⟨⟨k + 1, s'.set (13 + k) (Ch.w4 nonce k), by omega, by go_num, by show _ = _; rw [Ch.fil, ← hs1.out], by show _ = _; rw [List.length_set]; exact hs2.out, by rw [w4_eq]; exact HB.out.set _ _⟩, rfl⟩
          case measure => simp [intOf]; omega
        · have hk3 : k = 3 := by omega
          subst hk3
          have hs3 : Hid (s' = Ch.start key nonce c) := by show _ = _; rw [hs1.out, hz1.out]; exact Ch.filled key nonce c
          clear hs1 hz1 hz2 HB2
          have hst := HB.out.st
          go_wp2_with (first | (refine wpList_load_row rfl 23 (.tmp 7) rfl (w.heap.size + 1 + 1 + 1) rfl 23 (c32 s') (0, 0) _ hst Try.underlying23 rfl (by rw [info23, c32_size, hs2.out]) ?_) | (refine wpList_store_whole rfl 23 (.tmp 10) (.tmp 49) rfl wr.heap.size 23 _ (c32 s') rfl rfl (heap_alloc_new _ _) (by rw [info23, c32_size, hs2.out]) (by rw [c32_size, hs2.out]; rfl) (c32_all _) ?_; intro w2 hT gr))
          have hbb := HB.out.sz
          have hg1 : Hid (Bl w key nonce s' w2) := HB.out.later (new_below (Below.refl _ _) (by omega) gr)
          obtain ⟨tb, htb⟩ : ∃ tb, tb = wr.heap.size := ⟨_, rfl⟩
          rw [← htb] at hT hbb
          have hz2 : tb < w2.heap.size := Blk_lt hT
          simp only [← htb]
          clear gr hst HB htb wr
          go_loopw [11] (fun i wr => ∃ (k : Nat) (t : List (BitVec 32)), k ≤ 10 ∧ (i = .int .i64 k) ∧ Hid (t = Ch.rep Qu.dbl k s') ∧ Hid (t.length = 16) ∧ Hid (Bl w key nonce s' wr) ∧ wr.heap[tb]? = some (.cells (c32 t) 23 (0, 0)) ∧ tb < wr.heap.size) (fun i _ => 10 - (intOf i).toNat)
          case atStart => exact ⟨0, s', by omega, rfl, rfl, hs2, hg1, hT, hz2⟩
          case round =>
            obtain ⟨k, t, hk, rfl, ht1, ht2, HB, hH, hzr⟩ := hrel
            clear hg1 hT hz2
            by_cases hlt : k < 10
            · have hk8 : (k : Int) < 10 := by omega
              go_wp2_with (refine wpList_load_row rfl 23 (.tmp 10) rfl tb rfl 23 (c32 t) (0, 0) _ hH Try.underlying23 rfl (by rw [info23, c32_size, ht2.out]) ?_)
              refine (rdouble_any _ ht2.out _).mono ?_
              rintro e w1 ⟨rfl, hb1⟩
              have HB1 := Lib.hid (HB.out.later hb1)
              have hH1 := (hb1.block tb hzr).trans hH
              have hzs := hb1.size
              have hd2 : (Qu.dbl t).length = 16 := (Qu.dbl_length t).trans ht2.out
              clear hH HB
              go_wp2_with (refine wpList_store_whole rfl 23 (.tmp 10) (.tmp 55) rfl tb 23 _ (c32 (Qu.dbl t)) rfl rfl hH1 (by rw [info23, c32_size, hd2]) (by rw [c32_size, c32_size, hd2, ht2.out]) (c32_all _) ?_; intro w3 hT gr)
              have R1 : Hid (Bl w key nonce s' w3) := HB1.out.aside hbb gr
              have R2 : tb < w3.heap.size := by have := gr.size; omega
              clear gr hH1 HB1
              go_wp2_with fail
              go_roundw
              case rel => exact ⟨k + 1, Qu.dbl t, by omega, by go_num, by show _ = _; rw [Ch.rep, ← ht1.out], hd2, R1, hT, R2⟩
              case measure => simp [intOf]; omega
            · have hk10 : k = 10 := by omega
              subst hk10
              go_wp2_with fail
              obtain ⟨ob, hob⟩ : ∃ ob, ob = wr.heap.size := ⟨_, rfl⟩
              have HB1 := Lib.hid (HB.out.later ((Below.refl _ _).alloc (Nat.le_refl wr.heap.size) (.cells (c8 (Ch.outs s' t 0)) 36)))
              have hH1 := (Below.heap_alloc wr (.cells (c8 (Ch.outs s' t 0)) 36) _ hzr).trans hH
              have hO1 := heap_alloc_new wr (.cells (c8 (Ch.outs s' t 0)) 36)
              have hz5 : ob < (wr.alloc (.cells (c8 (Ch.outs s' t 0)) 36)).heap.size := by rw [hob]; simp
              rw [← hob] at hO1 hzr
              simp only [← hob]
              clear HB hH hob
              go_loopw [13] (fun i wr => ∃ (k : Nat), k ≤ 16 ∧ (i = .int .i64 k) ∧ Hid (Bl w key nonce s' wr) ∧ Hid (wr.heap[tb]? = some (.cells (c32 t) 23 (0, 0))) ∧ Hid (wr.heap[ob]? = some (.cells (c8 (Ch.outs s' t k)) 36 (0, 0))) ∧ ob < wr.heap.size) (fun i _ => 16 - (intOf i).toNat)
              case atStart => exact ⟨0, by omega, rfl, HB1, hH1, hO1, hz5⟩
              case round =>
                obtain ⟨k, hk, rfl, HB, hH, hO, hz5⟩ := hrel
                clear HB1 hH1 hO1
                by_cases hlt : k < 16
                · have hk8 : (k : Int) < 16 := by omega
                  go_wp2_with fail
                  have hS : Two (w.heap.size + 1 + 1 + 1) tb k s' t wr.drew :=
                    ⟨HB.out.cell (by rw [hs2.out]; omega), (cell_of_row wr tb k _ 23 (0, 0) hH.out).trans (c32_get t k (by rw [ht2.out]; omega))⟩
                  refine Ph.region 99 (Two (w.heap.size + 1 + 1 + 1) tb k s' t) (Two (w.heap.size + 1 + 1 + 1) tb k s' t) (by kernel_rfl) ?_
                  refine Ph.take2 (i := 0) (d := some 60) rfl rfl (by kernel_rfl) (fun _ h => h) (fun _ _ _ h => h) rfl (v := ?v0) (fun w' hw' => ?y0) hS ?n0
                  case y0 => (obtain ⟨q0, q1⟩ := hw'; go_simp; try (with_reducible rfl))
                  simp only [Act.put, List.setIfInBounds_toArray, List.set_cons_zero, List.set_cons_succ]
                  refine Ph.take2 (i := 1) (d := some 61) rfl rfl (by kernel_rfl) (fun _ h => h) (fun _ _ _ h => h) rfl (v := ?v1) (fun w' hw' => ?y1) hS ?n1
                  case y1 => (obtain ⟨q0, q1⟩ := hw'; go_simp; try (with_reducible rfl))
                  simp only [Act.put, List.setIfInBounds_toArray, List.set_cons_zero, List.set_cons_succ]
                  refine Ph.take2 (i := 2) (d := some 62) rfl rfl (by kernel_rfl) (fun _ h => h) (fun _ _ _ h => h) rfl (v := ?v2) (fun w' hw' => ?y2) hS ?n2
                  case y2 => (obtain ⟨q0, q1⟩ := hw'; go_simp; try (with_reducible rfl))
                  simp only [Act.put, List.setIfInBounds_toArray, List.set_cons_zero, List.set_cons_succ]
                  refine Ph.take2 (i := 3) (d := some 63) rfl rfl (by kernel_rfl) (fun _ h => h) (fun _ _ _ h => h) rfl (v := ?v3) (fun w' hw' => ?y3) hS ?n3
                  case y3 => (obtain ⟨q0, q1⟩ := hw'; go_simp; try (with_reducible rfl))
                  simp only [Act.put, List.setIfInBounds_toArray, List.set_cons_zero, List.set_cons_succ]
                  refine Ph.take2 (i := 4) (d := some 64) rfl rfl (by kernel_rfl) (fun _ h => h) (fun _ _ _ h => h) rfl (v := ?v4) (fun w' hw' => ?y4) hS ?n4
                  case y4 => (obtain ⟨q0, q1⟩ := hw'; go_simp; try (with_reducible rfl))
                  simp only [Act.put, List.setIfInBounds_toArray, List.set_cons_zero, List.set_cons_succ]
                  refine Ph.take2 (i := 5) (d := some 65) rfl rfl (by kernel_rfl) (fun _ h => h) (fun _ _ _ h => h) rfl (v := ?v5) (fun w' hw' => ?y5) hS ?n5
                  case y5 => (obtain ⟨q0, q1⟩ := hw'; go_simp; try (with_reducible rfl))
                  simp only [Act.put, List.setIfInBounds_toArray, List.set_cons_zero, List.set_cons_succ]
                  refine Ph.take2 (i := 6) (d := some 66) rfl rfl (by kernel_rfl) (fun _ h => h) (fun _ _ _ h => h) rfl (v := ?v6) (fun w' hw' => ?y6) hS ?n6
                  case y6 => (obtain ⟨q0, q1⟩ := hw'; go_simp; try (with_reducible rfl))
                  simp only [Act.put, List.setIfInBounds_toArray, List.set_cons_zero, List.set_cons_succ]
                  refine Ph.take2 (i := 7) (d := some 14) rfl rfl (by kernel_rfl) (fun _ h => h) (fun _ _ _ h => h) rfl (v := ?v7) (fun w' hw' => ?y7) hS ?n7
                  case y7 => (obtain ⟨q0, q1⟩ := hw'; go_simp; try (with_reducible rfl))
                  simp only [Act.put, List.setIfInBounds_toArray, List.set_cons_zero, List.set_cons_succ]
                  refine Ph.done (by kernel_rfl) ?_ _
                  have HB1 := Lib.hid (HB.out.later (Below.refl _ wr).drew)
                  have hH1 : Hid (wr.drew.heap[tb]? = some (.cells (c32 t) 23 (0, 0))) := hH.out
                  have hO1 : Hid (wr.drew.heap[ob]? = some (.cells (c8 (Ch.part s' t k 0)) 36 (0, 0))) := hO.out
                  have hz6 : ob < wr.drew.heap.size := hz5
                  clear HB hH hO hz5 hS
                  generalize wr.drew = wq at *
                  clear wr
                  go_wp2_with fail
                  go_loopw [15] (fun i wr => ∃ (j : Nat), j ≤ 4 ∧ (i = .int .i64 j) ∧ Hid (Bl w key nonce s' wr) ∧ Hid (wr.heap[tb]? = some (.cells (c32 t) 23 (0, 0))) ∧ Hid (wr.heap[ob]? = some (.cells (c8 (Ch.part s' t k j)) 36 (0, 0))) ∧ ob < wr.heap.size) (fun i _ => 4 - (intOf i).toNat)
                  case atStart => exact ⟨0, by omega, rfl, HB1, hH1, hO1, hz6⟩
                  case round =>
                    obtain ⟨j, hj, rfl, HB, hH, hO, hz5⟩ := hrel
                    clear HB1 hH1 hO1 hz6
                    by_cases hjt : j < 4
                    · have hj4 : (j : Int) < 4 := by omega
                      have hl : (Ch.part s' t k j).length = 64 := (Ch.part_length s' t k j).trans (Ch.outs_length s' t k (by omega))
                      have hw : IntKind.u64.wrap (8 * (j : Int)) = 8 * (j : Int) := by rw [IntKind.wrap_u64]; omega
                      have h32 : min (8 * j) 32 = 8 * j := by omega
                      have hsh := d_shr (Qu.wd t k + Qu.wd s' k) (8 * j)
                      have hcv := c_32_8 ((Qu.wd t k + Qu.wd s' k) >>> (8 * j))
                      have hb64 : (4 : Int) * k + j < 64 := by omega
                      have cc := cell_c8 hO.out (4 * k + j) (by omega)
                      have ff := frozen_of_row _ ob (4 * k + j) _ 36 hO.out
                      have e5 : ((4 : Int) * (k : Int) + (j : Int)).toNat = 4 * k + j := by omega
                      go_wp2_with fail
                      have hgr : wr.grownBy (wr.setCell ⟨ob, 4 * k + j, none⟩ (.int .u8 (u (((Qu.wd t k + Qu.wd s' k) >>> (8 * j)).setWidth 8)))) (some ob) :=
                        ⟨rfl, rfl, rfl, by simp [World.setCell], fun i _ hne => heap_setCell_other wr ⟨ob, _, none⟩ i _ (fun e => hne (by rw [e]))⟩
                      have R1 := Lib.hid (HB.out.aside (by omega) hgr)
                      have R2 := Lib.hid ((heap_setCell_other wr ⟨ob, 4 * k + j, none⟩ tb (.int .u8 (u (((Qu.wd t k + Qu.wd s' k) >>> (8 * j)).setWidth 8))) (by show tb ≠ ob; omega)).trans hH.out)
                      have R3 : Hid ((wr.setCell ⟨ob, 4 * k + j, none⟩ (.int .u8 (u (((Qu.wd t k + Qu.wd s' k) >>> (8 * j)).setWidth 8)))).heap[ob]? = some (.cells (c8 (Ch.part s' t k (j + 1))) 36 (0, 0))) := by
                        show _ = _
                        rw [Ch.part, ← c8_set]; exact heap_setCell_same wr ob _ _ 36 _ hO.out
                      have R4 : ob < (wr.setCell ⟨ob, 4 * k + j, none⟩ (.int .u8 (u (((Qu.wd t k + Qu.wd s' k) >>> (8 * j)).setWidth 8)))).heap.size := Nat.lt_of_lt_of_le hz5 hgr.size
                      go_roundw
                      case rel => first | exact ⟨j + 1, by omega, by go_num, R1, R2, R3, R4⟩ | ((repeat apply Exists.intro); exact ⟨⟨j + 1, by omega, by go_num, R1, R2, R3, R4⟩, rfl⟩)
                      case measure => simp [intOf]; omega
                    · have hj4 : j = 4 := by omega
                      subst hj4
                      have R3 : Hid (wr.heap[ob]? = some (.cells (c8 (Ch.outs s' t (k + 1))) 36 (0, 0))) := by
                        show _ = _
                        rw [← Ch.part_all s' t k (by omega)]; exact hO.out
                      clear hO
                      go_wp2_with fail
                      go_roundw
                      case rel => first | exact ⟨k + 1, by omega, by go_num, HB, hH, R3, hz5⟩ | ((repeat apply Exists.intro); exact ⟨⟨k + 1, by omega, by go_num, HB, hH, R3, hz5⟩, rfl⟩)
                      case measure => simp [intOf]; omega
                · have hk16 : k = 16 := by omega
                  subst hk16
                  have hl : (Ch.outs s' t 16).length = 64 := Ch.outs_length s' t 16 (Nat.le_refl _)
                  have hre := HB.out.re
                  have hO1 := hO.out
                  go_wp2_with (first | (refine wpList_load_row rfl 36 (.tmp 12) rfl ob rfl 36 (c8 (Ch.outs s' t 16)) (0, 0) _ hO1 Try.underlying36 rfl (by rw [info36, c8_size, hl]) ?_) | (refine wpList_store_row rfl 36 (.tmp 6) (.tmp 82) rfl (w.heap.size + 1 + 1) 36 _ (c8 (Ch.outs s' t 16)) rfl rfl hre (by rw [info36, c8_size, hl]) (by rw [c8_size, c8_size, hl]; rfl) (c8_all _) ?_))
                  refine bodyPost_ret (v := .agg (c8 (Ch.outs s' t 16))) (results_cell_row rfl _ _ (w.heap.size + 1 + 1) 36 (c8 (Ch.outs s' t 16)) (0, 0) _ rfl (setRow_heap _ _ _ _ _ _ hre) Try.underlying36 rfl (by rw [info36, c8_size, hl])) rfl ?_
                  refine ⟨?_, below_row HB.out.bl (by omega) _⟩
                  rw [ht1.out, hs3.out, Ch.outs_all]
end Go.Proofs.Ytdkimnigckpncaa
