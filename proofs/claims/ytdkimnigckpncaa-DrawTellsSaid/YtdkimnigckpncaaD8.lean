/-
  The walk of the document's draw out of a key's stream.
-/
import Derived.Test.YtdkimnigckpncaaD5
namespace Go.Proofs.Ytdkimnigckpncaa
open Go.RowKit

set_option maxRecDepth 100000 in
set_option maxHeartbeats 1000000 in
theorem streamed_any (key : List (BitVec 8)) (hk : key.length = 32) (x : BitVec 64) (w : World) :
    Calls Try.prog 40 #[.agg (c8 key), .int .u64 (u x)] w fun e w' => e = .returned (.int .u32 (u (Ch.sp key x))) ∧ Below w.heap.size w w' := by
  have HK := Lib.hid hk
  clear hk
  have hd := q_div x
  have hx0 : 0 ≤ u x := by unfold u; omega
  go_enter Try.func40, Try.ntmps40
  go_wp2_with fail
  have hKy := Lib.hid ((Below.heap_alloc (w.alloc (.cells (c8 key) 31)) (.cells (c8 (List.replicate 12 0#8)) 35) w.heap.size (by simp)).trans (heap_alloc_new w (.cells (c8 key) 31)))
  have hO := Lib.hid (heap_alloc_new (w.alloc (.cells (c8 key) 31)) (.cells (c8 (List.replicate 12 0#8)) 35))
  have hb0 : Below w.heap.size w ((w.alloc (.cells (c8 key) 31)).alloc (.cells (c8 (List.replicate 12 0#8)) 35)) := ((Below.refl _ _).alloc (Nat.le_refl _) _).alloc (by simp) _
  have hz0 : w.heap.size + 1 < ((w.alloc (.cells (c8 key) 31)).alloc (.cells (c8 (List.replicate 12 0#8)) 35)).heap.size := by simp
  have e1 : (w.alloc (.cells (c8 key) 31)).heap.size = w.heap.size + 1 := by simp
  rw [e1] at hO
  clear e1
  obtain ⟨kb, hkb⟩ : ∃ kb, kb = w.heap.size := ⟨_, rfl⟩
  rw [← hkb] at hO hz0 hb0 hKy
  simp only [← hkb]
  obtain ⟨nb, hnb⟩ : ∃ nb, nb = kb + 1 := ⟨_, rfl⟩
  rw [← hnb] at hO hz0
  simp only [← hnb]
  obtain ⟨wa, hwa⟩ : ∃ wa, wa = (w.alloc (.cells (c8 key) 31)).alloc (.cells (c8 (List.replicate 12 0#8)) 35) := ⟨_, rfl⟩
  rw [← hwa] at hO hz0 hb0 hKy
  have hB0 := Lib.hid hb0
  clear hb0
  show Code.wp _ _ _ _ ((w.alloc (.cells (c8 key) 31)).alloc (.cells (c8 (List.replicate 12 0#8)) 35))
  rw [← hwa]
  have HNB := Lib.hid hkb
  have hkn : kb < nb := by omega
  clear hwa hkb hnb
  have e1 : Try.prog.arrayLen 35 = 12 := by simp [Program.arrayLen, Try.underlying35]
  have e2 : Try.prog.elem 35 = 5 := by simp [Program.elem, Try.underlying35]
  have hsl : ∀ W, (Instr.sliceAt 35 (.pointer (some ⟨nb, 0, none⟩)) none none none).run Try.prog W = .ok (.slice (some ⟨nb, 0, none⟩) 12 12) W := by
    intro W
    rw [run_sliceAt_array_all W 35 ⟨nb, 0, none⟩ (by rw [e1, e2]; exact Try.underlying35), e1, e2, size5]
    simp [slicedAt, Addr.add]
  clear e1 e2
  refine Ph.region 99 (fun _ => True) (fun _ => True) (by kernel_rfl) ?_
  refine Ph.take2 (i := 0) (d := some 8) rfl rfl (by kernel_rfl) (fun _ h => h) (fun _ _ _ h => h) rfl (v := ?vA0) (fun w' hw' => ?yA0) trivial ?nA0
  case yA0 => (go_simp; try (with_reducible rfl))
  simp only [Act.put, List.setIfInBounds_toArray, List.set_cons_zero, List.set_cons_succ]
  refine Ph.take2 (i := 1) (d := some 9) rfl rfl (by kernel_rfl) (fun _ h => h) (fun _ _ _ h => h) rfl (v := ?vA1) (fun w' hw' => ?yA1) trivial ?nA1
  case yA1 => (go_simp; try (with_reducible rfl))
  simp only [Act.put, List.setIfInBounds_toArray, List.set_cons_zero, List.set_cons_succ]
  refine Ph.take2 (i := 2) (d := some 10) rfl rfl (by kernel_rfl) (fun _ h => h) (fun _ _ _ h => h) rfl (v := ?vA2) (fun w' hw' => ?yA2) trivial ?nA2
  case yA2 => (go_simp; try (with_reducible rfl))
  simp only [Act.put, List.setIfInBounds_toArray, List.set_cons_zero, List.set_cons_succ]
  refine Ph.only (i := 3) rfl (by kernel_rfl) rfl (fun K hK => ?_)
  go_simp
  refine (rput_any (x / 16#64) 8 (by omega) _).mono ?_
  rintro e w1 ⟨v, rfl, hown, hb1⟩
  have hb1 : Below wa.heap.size wa w1 := ((Below.refl wa.heap.size wa).drew).trans hb1
  have hO1 := (hb1.block nb hz0).trans hO.out
  have hK1 := Lib.hid ((hb1.block kb (by omega)).trans hKy.out)
  have hB1 := Lib.hid (hB0.out.trans (hb1.mono (by omega)))
  have hzs := hb1.size
  have hz1 : nb < w1.heap.size := by omega
  refine hK _ _ trivial ?_
  clear hK K hO hB0 hKy
  try simp only [List.setIfInBounds_toArray, List.set_cons_zero, List.set_cons_succ]
  obtain ⟨g, cap, rfl, hg, hrd⟩ := own_read hown (by omega)
  refine Ph.only (i := 4) rfl (by kernel_rfl) rfl (fun K hK => ?_)
  refine wp_copy_splice rfl (.tmp 8) (.tmp 11) 32 32 rfl 5 Try.underlying32 (by kernel_rfl) (some ⟨nb, 0, none⟩) (some ⟨g, 0, none⟩) 12 12 8 cap rfl rfl
    nb 0 ((List.replicate 12 0#8).map cell8) 35 hO1 ((Ch.pu (x / 16#64) 8).map cell8) (by rw [List.length_map, Ch.pu_length]; rfl) (fun _ => ⟨rfl, _, rfl, hrd⟩)
    (by simp [Ch.pu_length]) (cell8_one _) nb w1 (Below.refl _ _) (Nat.le_refl _) ?_
  intro w2 hg2 hb2
  have hO2 : Hid (w2.heap[nb]? = some (.cells (c8 (Ch.non (x / 16#64))) 35 (0, 0))) := by
    show _ = _
    rw [hg2.out, splice_map, Ch.non_splice]; rfl
  have hK2 := Lib.hid ((hb2.block kb hkn).trans hK1.out)
  have hB2 := Lib.hid (hB1.out.trans (hb2.mono (by omega)))
  have hzt := hb2.size
  have hz2 : nb < w2.heap.size := by omega
  change K (Act.put _ (some 12) _) w2
  simp only [Act.put, List.setIfInBounds_toArray, List.set_cons_zero, List.set_cons_succ]
  refine hK _ _ trivial ?_
  clear hK K hO1 hb2 hg2 hb1 hown hrd hK1 hB1 hzs hzt hz1
  refine Ph.done (by kernel_rfl) ?_ _
  try simp only [List.setIfInBounds_toArray, List.set_cons_zero, List.set_cons_succ]
  clear hsl hd
  have hnl := Ch.non_length (x / 16#64)
  have HN := Lib.hid hnl
  clear hnl
  have hno : ∃ no, no = Ch.non (x / 16#64) := ⟨_, rfl⟩
  obtain ⟨no, hno⟩ := hno
  rw [← hno] at hO2 HN
  have HNO := Lib.hid hno
  clear hno
  have hblk := rblock_any key no HK.out HN.out 0#32 w2
  have hz0 : u 0#32 = 0 := rfl
  rw [hz0] at hblk
  clear hz0
  have HBK := Lib.hid hblk
  clear hblk
  go_wp2_with (first | (refine wpList_load_row rfl 31 (.tmp 2) rfl kb rfl 31 (c8 key) (0, 0) _ hK2.out Try.underlying31 rfl (by rw [info31, c8_size, HK.out]) ?_) | (refine wpList_load_row rfl 35 (.tmp 5) rfl nb rfl 35 (c8 no) (0, 0) _ hO2.out Try.underlying35 rfl (by rw [info35, c8_size, HN.out]) ?_))
  refine HBK.out.mono ?_
  rintro e w3 ⟨rfl, hb3⟩
  have hB3 := Lib.hid (hB2.out.trans (hb3.mono (by omega)))
  have hzs := hb3.size
  have hbl := Lib.hid (Ch.block_length key no 0#32)
  have hsp : Hid (Ch.sp key x = Ch.w4 (Ch.block key no 0#32) (x.toNat % 16)) := by show _ = _; rw [HNO.out]; rfl
  clear HNO hO2 hK2 hB2 hb3 HBK
  generalize Ch.block key no 0#32 = bk at *
  have hT0 := heap_alloc_new w3 (.cells (c8 (List.replicate 64 0#8)) 36)
  go_wp2_with (refine wpList_store_whole rfl 36 (.tmp 6) (.tmp 15) rfl w3.heap.size 36 _ (c8 bk) rfl rfl (heap_alloc_new _ _) (by rw [info36, c8_size, hbl.out]) (by rw [c8_size, hbl.out]; rfl) (c8_all _) ?_; intro w5 hT gr)
  have HT := Lib.hid hT
  have hB5 := Lib.hid (new_below hB3.out (by omega) gr)
  obtain ⟨bb, hbb⟩ : ∃ bb, bb = w3.heap.size := ⟨_, rfl⟩
  rw [← hbb] at HT
  simp only [← hbb]
  clear hbb hT gr hT0 hB3
  have hq := q_rem x
  have hq16 : x.toNat % 16 < 16 := by omega
  generalize x.toNat % 16 = q at *
  have hsl := fun W => sl_lhk Try.underlying36 .u64 .u64 W bb (4 * q) (4 * q + 4) (4 * (u x % 16)) (4 * (u x % 16) + 4) (by omega) (by omega) (by omega) (by omega) (by omega)
  have e4 : 4 * q + 4 - 4 * q = 4 := by omega
  rw [e4] at hsl
  clear e4 hq
  go_wp2_with fail
  rw [hsl]
  go_wp2_with fail
  refine (rget_any _ _ _ ((bk.drop (4 * q)).take 4) (by simp [hbl.out]; omega) (by omega) _ (rd_c8 HT.out (4 * q) 4 (by rw [hbl.out]; omega))).mono ?_
  rintro e w6 ⟨rfl, rfl⟩
  have hcv := c_64_32 (Ch.ge (((bk.drop (4 * q)).take 4).take 8))
  go_wp2_with fail
  go_ret
  exact ⟨by rw [hsp.out, ← w4_eq]; rfl, by rw [← HNB.out]; exact hB5.out⟩
end Go.Proofs.Ytdkimnigckpncaa
