/-
  The walk of the law ChacBounds.
-/
import Derived.Test.YtdkimnigckpncaaX4
import Derived.Test.YtdkimnigckpncaaL8a
namespace Go.Proofs.Ytdkimnigckpncaa
open Go.RowKit

theorem sub_top (b : BitVec 32) (h : b.toNat ≤ 7) : (4294967295#32 - b).toNat = 4294967295 - b.toNat := by
  have e : (4294967295#32).toNat = 4294967295 := rfl
  rw [BitVec.toNat_sub_of_le (by rw [BitVec.le_def, e]; omega), e]
theorem room_top (c : BitVec 32) (m t : Nat) (h : t ≤ 7) (hc : c.toNat = 4294967295 - t) : Ch.room c m = decide ((m + 63) / 64 ≤ t + 1) := by
  unfold Ch.room
  rw [hc]
  congr 1
  rw [eq_iff_iff]
  omega
set_option maxRecDepth 100000 in
set_option maxHeartbeats 4000000 in
theorem cbounds_any (key nonce : List (BitVec 8)) (hk : key.length = 32) (hn : nonce.length = 12) (back : BitVec 32) (n : Int) (w : World) :
    Calls Try.prog 8 #[.agg (c8 key), .agg (c8 nonce), .int .u32 (u back), .int .i64 n] w fun e w' => e = .returned (.bool true) ∧ Below w.heap.size w w' := by
  have HK := Lib.hid hk; have HN := Lib.hid hn
  clear hk hn
  obtain ⟨m, hm, hnm⟩ := and_masked n 1023 (by omega)
  have e1023 : ((1023 : Nat) : Int) = 1023 := rfl
  rw [e1023] at hnm
  clear e1023
  have e7 := b_and32 back 7#32
  have u7 : u 7#32 = 7 := rfl
  rw [u7] at e7
  have hb7 : (back &&& 7#32).toNat ≤ 7 := by rw [BitVec.toNat_and]; exact Nat.and_le_right
  generalize back &&& 7#32 = b at *
  have hub : u b = (b.toNat : Int) := rfl
  have ec := w_sub 4294967295#32 b
  have em := m_sub 4294967295#32 b
  have uc : u 4294967295#32 = 4294967295 := rfl
  rw [uc] at ec em
  have hmk := make_n m (by omega) m rfl
  have htn := sub_top b hb7
  have hrm : Ch.room (4294967295#32 - b) m = decide ((m + 63) / 64 ≤ b.toNat + 1) := room_top _ m _ hb7 htn
  rw [hub] at e7 ec em
  generalize 4294967295#32 - b = c at *
  have HUC := Lib.hid uc
  clear u7 htn hub uc
  generalize b.toNat = t at *
  obtain ⟨r, hr⟩ : ∃ r, r = Ch.room c m := ⟨_, rfl⟩
  rw [← hr] at hrm
  have HR := Lib.hid hr.symm
  clear hr
  cases r
  · have hle : ¬ ((m : Int) + 63) / 64 ≤ (t : Int) + 1 := by
      have := of_decide_eq_false hrm.symm
      omega
    have hd : decide (((m : Int) + 63) / 64 ≤ (t : Int) + 1) = false := by simpa using hle
    clear hrm
    go_enter Try.func8, Try.ntmps8
    go_wp2_with fail
    have HX := Lib.hid (Xl.new w key nonce)
    refine Ph.region 99 (Kn w key nonce) (Kn w key nonce) (by kernel_rfl) ?_
    have hS := HX.out.drew.kn
    have HX0 := Lib.hid HX.out.drew
    clear HX
    generalize World.drew ((w.alloc (.cells (c8 key) 31)).alloc (.cells (c8 nonce) 35)) = w0 at *
    refine Ph.take2 (i := 0) (d := some 18) rfl rfl (by kernel_rfl) (fun _ h => h) (fun _ _ _ h => h) rfl (v := .agg (c8 key)) (fun w' hw' => yield_load_row 31 (.tmp 4) rfl w.heap.size rfl 31 (c8 key) (0, 0) _ hw'.1 Try.underlying31 rfl (by rw [info31, c8_size, HK.out])) hS ?nA0
    simp only [Act.put, List.setIfInBounds_toArray, List.set_cons_zero, List.set_cons_succ]
    refine Ph.take2 (i := 1) (d := some 19) rfl rfl (by kernel_rfl) (fun _ h => h) (fun _ _ _ h => h) rfl (v := .agg (c8 nonce)) (fun w' hw' => yield_load_row 35 (.tmp 5) rfl (w.heap.size + 1) rfl 35 (c8 nonce) (0, 0) _ hw'.2 Try.underlying35 rfl (by rw [info35, c8_size, HN.out])) hS ?nA1
    simp only [Act.put, List.setIfInBounds_toArray, List.set_cons_zero, List.set_cons_succ]
    refine Ph.take2 (i := 2) (d := some 20) rfl rfl (by kernel_rfl) (fun _ h => h) (fun _ _ _ h => h) rfl (v := ?vA2) (fun w' hw' => ?yA2) hS ?nA2
    case yA2 => (go_simp; try (with_reducible rfl))
    simp only [Act.put, List.setIfInBounds_toArray, List.set_cons_zero, List.set_cons_succ]
    refine Ph.take2 (i := 3) (d := some 21) rfl rfl (by kernel_rfl) (fun _ h => h) (fun _ _ _ h => h) rfl (v := ?vA3) (fun w' hw' => ?yA3) hS ?nA3
    case yA3 => (go_simp; try (with_reducible rfl))
    simp only [Act.put, List.setIfInBounds_toArray, List.set_cons_zero, List.set_cons_succ]
    refine Ph.take2 (i := 4) (d := some 22) rfl rfl (by kernel_rfl) (fun _ h => h) (fun _ _ _ h => h) rfl (v := ?vA4) (fun w' hw' => ?yA4) hS ?nA4
    case yA4 => (go_simp; try (with_reducible rfl))
    simp only [Act.put, List.setIfInBounds_toArray, List.set_cons_zero, List.set_cons_succ]
    refine Ph.only (i := 5) rfl (by kernel_rfl) rfl (fun K hK => ?_)
    go_simp
    have HX := Lib.hid (HX0.out.over (B := w0.heap.size) HX0.out.sz ((Below.refl _ _).alloc (Nat.le_refl _) (.cells (c8 (Ch.Z m)) 5)))
    have hI : Hid (IsB (w0.alloc (.cells (c8 (Ch.Z m)) 5)) (some ⟨w0.heap.size, 0, none⟩) m m (Ch.Z m)) := ⟨by simp [Ch.Z], rd_all (heap_alloc_new w0 (.cells (c8 (Ch.Z m)) 5)), fun h => (by cases h), Nat.le_refl _, by unfold maxLen; omega⟩
    have hS1 := HX.out.kn
    refine hK _ _ hS1 ?_
    clear hK K hS HX0
    obtain ⟨zb, hzb⟩ : ∃ zb, zb = w0.heap.size := ⟨_, rfl⟩
    rw [← hzb] at hI
    simp only [← hzb]
    clear hzb
    generalize w0.alloc (.cells (c8 (Ch.Z m)) 5) = w1 at *
    try simp only [List.setIfInBounds_toArray, List.set_cons_zero, List.set_cons_succ]
    refine Ph.only (i := 6) rfl (by kernel_rfl) rfl (fun K hK => ?_)
    go_simp
    refine (xor_out key nonce HK.out HN.out _ hI.out (by omega) HR.out).mono ?_
    rintro e w2 ⟨hb2, rfl⟩
    have HX2 := Lib.hid (HX.out.later hb2)
    have hS := HX2.out.kn
    refine hK _ _ hS ?_
    clear hK K hS1 HX
    have HX := HX2
    clear HX2 hb2 hI
    try simp only [List.setIfInBounds_toArray, List.set_cons_zero, List.set_cons_succ]
    refine Ph.take2 (i := 7) (d := some 17) rfl rfl (by kernel_rfl) (fun _ h => h) (fun _ _ _ h => h) rfl (v := ?vA7) (fun w' hw' => ?yA7) hS ?nA7
    case yA7 => (go_simp; try (with_reducible rfl))
    simp only [Act.put, List.setIfInBounds_toArray, List.set_cons_zero, List.set_cons_succ]
    refine Ph.take2 (i := 8) (d := some 25) rfl rfl (by kernel_rfl) (fun _ h => h) (fun _ _ _ h => h) rfl (v := ?vA8) (fun w' hw' => ?yA8) hS ?nA8
    case yA8 => (go_simp; try (with_reducible rfl))
    simp only [Act.put, List.setIfInBounds_toArray, List.set_cons_zero, List.set_cons_succ]
    refine Ph.take2 (i := 9) (d := some 26) rfl rfl (by kernel_rfl) (fun _ h => h) (fun _ _ _ h => h) rfl (v := ?vA9) (fun w' hw' => ?yA9) hS ?nA9
    case yA9 => (go_simp; try (with_reducible rfl))
    simp only [Act.put, List.setIfInBounds_toArray, List.set_cons_zero, List.set_cons_succ]
    refine Ph.take2 (i := 10) (d := some 9) rfl rfl (by kernel_rfl) (fun _ h => h) (fun _ _ _ h => h) rfl (v := ?vA10) (fun w' hw' => ?yA10) hS ?nA10
    case yA10 => (go_simp; try (with_reducible rfl))
    simp only [Act.put, List.setIfInBounds_toArray, List.set_cons_zero, List.set_cons_succ]
    refine Ph.take2 (i := 11) (d := some 10) rfl rfl (by kernel_rfl) (fun _ h => h) (fun _ _ _ h => h) rfl (v := ?vA11) (fun w' hw' => ?yA11) hS ?nA11
    case yA11 => (go_simp; try (with_reducible rfl))
    simp only [Act.put, List.setIfInBounds_toArray, List.set_cons_zero, List.set_cons_succ]
    refine Ph.done (by kernel_rfl) ?_ _
    clear hS
    go_wp2_with (first | (refine wpList_load_row rfl 31 (.tmp 4) rfl w.heap.size rfl 31 (c8 key) (0, 0) _ HX.out.ky Try.underlying31 rfl (by rw [info31, c8_size, HK.out]) ?_) | (refine wpList_load_row rfl 35 (.tmp 5) rfl (w.heap.size + 1) rfl 35 (c8 nonce) (0, 0) _ HX.out.no Try.underlying35 rfl (by rw [info35, c8_size, HN.out]) ?_))
    have hx := xor_in key nonce HK.out HN.out 4294967295#32 (IsB.none w2) (by omega) (by decide)
    rw [HUC.out] at hx
    refine hx.mono ?_
    clear hx
    rintro e w3 ⟨hb3, A2, cp2, rfl, -⟩
    have HX3 := Lib.hid (HX.out.later hb3)
    clear HX hb3
    go_wp2_with fail
    refine (awake3_any _).mono ?_
    rintro e w4 ⟨rfl, hb4⟩
    have hbl1 := Lib.hid HX3.out.bl
    have HB4 := Lib.hid (hbl1.out.trans (hb4.mono hbl1.out.size))
    clear hb4
    go_wp2_with fail
    go_ret
    exact ⟨rfl, HB4.out⟩
  · have hle : ((m : Int) + 63) / 64 ≤ (t : Int) + 1 := by
      have := of_decide_eq_true hrm.symm
      omega
    have hd : decide (((m : Int) + 63) / 64 ≤ (t : Int) + 1) = true := by simpa using hle
    clear hrm
    go_enter Try.func8, Try.ntmps8
    go_wp2_with fail
    have HX := Lib.hid (Xl.new w key nonce)
    refine Ph.region 99 (Kn w key nonce) (Kn w key nonce) (by kernel_rfl) ?_
    have hS := HX.out.drew.kn
    have HX0 := Lib.hid HX.out.drew
    clear HX
    generalize World.drew ((w.alloc (.cells (c8 key) 31)).alloc (.cells (c8 nonce) 35)) = w0 at *
    refine Ph.take2 (i := 0) (d := some 18) rfl rfl (by kernel_rfl) (fun _ h => h) (fun _ _ _ h => h) rfl (v := .agg (c8 key)) (fun w' hw' => yield_load_row 31 (.tmp 4) rfl w.heap.size rfl 31 (c8 key) (0, 0) _ hw'.1 Try.underlying31 rfl (by rw [info31, c8_size, HK.out])) hS ?nB0
    simp only [Act.put, List.setIfInBounds_toArray, List.set_cons_zero, List.set_cons_succ]
    refine Ph.take2 (i := 1) (d := some 19) rfl rfl (by kernel_rfl) (fun _ h => h) (fun _ _ _ h => h) rfl (v := .agg (c8 nonce)) (fun w' hw' => yield_load_row 35 (.tmp 5) rfl (w.heap.size + 1) rfl 35 (c8 nonce) (0, 0) _ hw'.2 Try.underlying35 rfl (by rw [info35, c8_size, HN.out])) hS ?nB1
    simp only [Act.put, List.setIfInBounds_toArray, List.set_cons_zero, List.set_cons_succ]
    refine Ph.take2 (i := 2) (d := some 20) rfl rfl (by kernel_rfl) (fun _ h => h) (fun _ _ _ h => h) rfl (v := ?vB2) (fun w' hw' => ?yB2) hS ?nB2
    case yB2 => (go_simp; try (with_reducible rfl))
    simp only [Act.put, List.setIfInBounds_toArray, List.set_cons_zero, List.set_cons_succ]
    refine Ph.take2 (i := 3) (d := some 21) rfl rfl (by kernel_rfl) (fun _ h => h) (fun _ _ _ h => h) rfl (v := ?vB3) (fun w' hw' => ?yB3) hS ?nB3
    case yB3 => (go_simp; try (with_reducible rfl))
    simp only [Act.put, List.setIfInBounds_toArray, List.set_cons_zero, List.set_cons_succ]
    refine Ph.take2 (i := 4) (d := some 22) rfl rfl (by kernel_rfl) (fun _ h => h) (fun _ _ _ h => h) rfl (v := ?vB4) (fun w' hw' => ?yB4) hS ?nB4
    case yB4 => (go_simp; try (with_reducible rfl))
    simp only [Act.put, List.setIfInBounds_toArray, List.set_cons_zero, List.set_cons_succ]
    refine Ph.only (i := 5) rfl (by kernel_rfl) rfl (fun K hK => ?_)
    go_simp
    have HX := Lib.hid (HX0.out.over (B := w0.heap.size) HX0.out.sz ((Below.refl _ _).alloc (Nat.le_refl _) (.cells (c8 (Ch.Z m)) 5)))
    have hI : Hid (IsB (w0.alloc (.cells (c8 (Ch.Z m)) 5)) (some ⟨w0.heap.size, 0, none⟩) m m (Ch.Z m)) := ⟨by simp [Ch.Z], rd_all (heap_alloc_new w0 (.cells (c8 (Ch.Z m)) 5)), fun h => (by cases h), Nat.le_refl _, by unfold maxLen; omega⟩
    have hS1 := HX.out.kn
    refine hK _ _ hS1 ?_
    clear hK K hS HX0
    obtain ⟨zb, hzb⟩ : ∃ zb, zb = w0.heap.size := ⟨_, rfl⟩
    rw [← hzb] at hI
    simp only [← hzb]
    clear hzb
    generalize w0.alloc (.cells (c8 (Ch.Z m)) 5) = w1 at *
    try simp only [List.setIfInBounds_toArray, List.set_cons_zero, List.set_cons_succ]
    refine Ph.only (i := 6) rfl (by kernel_rfl) rfl (fun K hK => ?_)
    go_simp
    refine (xor_in key nonce HK.out HN.out _ hI.out (by omega) HR.out).mono ?_
    rintro e w2 ⟨hb2, A1, cp1, rfl, hI1⟩
    have HX2 := Lib.hid (HX.out.later hb2)
    have hS := HX2.out.kn
    refine hK _ _ hS ?_
    clear hK K hS1 HX
    have HX := HX2
    clear HX2 hb2 hI hI1
    try simp only [List.setIfInBounds_toArray, List.set_cons_zero, List.set_cons_succ]
    refine Ph.take2 (i := 7) (d := some 17) rfl rfl (by kernel_rfl) (fun _ h => h) (fun _ _ _ h => h) rfl (v := ?vB7) (fun w' hw' => ?yB7) hS ?nB7
    case yB7 => (go_simp; try (with_reducible rfl))
    simp only [Act.put, List.setIfInBounds_toArray, List.set_cons_zero, List.set_cons_succ]
    refine Ph.take2 (i := 8) (d := some 25) rfl rfl (by kernel_rfl) (fun _ h => h) (fun _ _ _ h => h) rfl (v := ?vB8) (fun w' hw' => ?yB8) hS ?nB8
    case yB8 => (go_simp; try (with_reducible rfl))
    simp only [Act.put, List.setIfInBounds_toArray, List.set_cons_zero, List.set_cons_succ]
    refine Ph.take2 (i := 9) (d := some 26) rfl rfl (by kernel_rfl) (fun _ h => h) (fun _ _ _ h => h) rfl (v := ?vB9) (fun w' hw' => ?yB9) hS ?nB9
    case yB9 => (go_simp; try (with_reducible rfl))
    simp only [Act.put, List.setIfInBounds_toArray, List.set_cons_zero, List.set_cons_succ]
    refine Ph.take2 (i := 10) (d := some 9) rfl rfl (by kernel_rfl) (fun _ h => h) (fun _ _ _ h => h) rfl (v := ?vB10) (fun w' hw' => ?yB10) hS ?nB10
    case yB10 => (go_simp; try (with_reducible rfl))
    simp only [Act.put, List.setIfInBounds_toArray, List.set_cons_zero, List.set_cons_succ]
    refine Ph.take2 (i := 11) (d := some 10) rfl rfl (by kernel_rfl) (fun _ h => h) (fun _ _ _ h => h) rfl (v := ?vB11) (fun w' hw' => ?yB11) hS ?nB11
    case yB11 => (go_simp; try (with_reducible rfl))
    simp only [Act.put, List.setIfInBounds_toArray, List.set_cons_zero, List.set_cons_succ]
    refine Ph.done (by kernel_rfl) ?_ _
    clear hS
    go_wp2_with (first | (refine wpList_load_row rfl 31 (.tmp 4) rfl w.heap.size rfl 31 (c8 key) (0, 0) _ HX.out.ky Try.underlying31 rfl (by rw [info31, c8_size, HK.out]) ?_) | (refine wpList_load_row rfl 35 (.tmp 5) rfl (w.heap.size + 1) rfl 35 (c8 nonce) (0, 0) _ HX.out.no Try.underlying35 rfl (by rw [info35, c8_size, HN.out]) ?_))
    have hx := xor_in key nonce HK.out HN.out 4294967295#32 (IsB.none w2) (by omega) (by decide)
    rw [HUC.out] at hx
    refine hx.mono ?_
    clear hx
    rintro e w3 ⟨hb3, A2, cp2, rfl, -⟩
    have HX3 := Lib.hid (HX.out.later hb3)
    clear HX hb3
    go_wp2_with fail
    refine (awake3_any _).mono ?_
    rintro e w4 ⟨rfl, hb4⟩
    have hbl1 := Lib.hid HX3.out.bl
    have HB4 := Lib.hid (hbl1.out.trans (hb4.mono hbl1.out.size))
    clear hb4
    go_wp2_with fail
    go_ret
    exact ⟨rfl, HB4.out⟩
end Go.Proofs.Ytdkimnigckpncaa
