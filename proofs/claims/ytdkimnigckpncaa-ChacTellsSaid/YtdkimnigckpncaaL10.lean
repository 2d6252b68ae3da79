/-
  The walk of the law ChacTells.
-/
import Derived.Test.YtdkimnigckpncaaX3
namespace Go.Proofs.Ytdkimnigckpncaa
open Go.RowKit

set_option maxRecDepth 100000 in
set_option maxHeartbeats 4000000 in
theorem ctells_any (key nonce : List (BitVec 8)) (hk : key.length = 32) (hn : nonce.length = 12) (c : BitVec 32) (A : Option Addr) (n cap : Nat) (l : List (BitVec 8)) (w : World) (h : IsB w A n cap l) :
    Calls Try.prog 10 #[.agg (c8 key), .agg (c8 nonce), .int .u32 (u c), .slice A n cap] w fun e w' => e = .returned (.bool true) ∧ Below w.heap.size w w' := by
  have HK := Lib.hid hk; have HN := Lib.hid hn; have HI := Lib.hid h
  clear hk hn h
  by_cases h7 : (700 : Int) < (n : Int)
  · go_enter Try.func10, Try.ntmps10
    go_wp2_with fail
    have hb0 : Below w.heap.size w ((w.alloc (.cells (c8 key) 31)).alloc (.cells (c8 nonce) 35)) := ((Below.refl _ _).alloc (Nat.le_refl _) _).alloc (by simp) _
    refine (awake3_any _).mono ?_
    rintro e w1 ⟨rfl, hb1⟩
    go_wp2_with fail
    go_ret
    exact ⟨rfl, hb0.trans (hb1.mono (by simp; omega))⟩
  · go_enter Try.func10, Try.ntmps10
    go_wp2_with fail
    have hn7 : n ≤ 700 := by omega
    have HX := Lib.hid (Xl.new w key nonce)
    have HI0 := Lib.hid (HI.out.later (((Below.refl _ _).alloc (Nat.le_refl _) (.cells (c8 key) 31)).alloc (by simp) (.cells (c8 nonce) 35)))
    clear HI h7
    go_loopw [2, 9] (fun cv i wr => ∃ (k : Nat) (c' : BitVec 32), k ≤ 2 ∧ cv = .int .u32 (u c') ∧ (i = .int .i64 k) ∧ Hid (Xl w key nonce wr) ∧ Hid (IsB wr A n cap l)) (fun _ i _ => 2 - (intOf i).toNat)
    case atStart => exact ⟨0, c, by omega, rfl, rfl, HX, HI0⟩
    case round =>
      obtain ⟨k, c', hk, rfl, rfl, HX, HI⟩ := hrel
      clear HI0
      by_cases hlt : k < 2
      · have hk8 : (k : Int) < 2 := by omega
        have e7 := b_and32 c' 7#32
        have u7 : u 7#32 = 7 := rfl
        rw [u7] at e7
        have ec := w_sub 4294967295#32 (c' &&& 7#32)
        have em := m_sub 4294967295#32 (c' &&& 7#32)
        have uc : u 4294967295#32 = 4294967295 := rfl
        rw [uc] at ec em
        clear u7 uc
        by_cases hroom : Ch.room c' n = true
        · have HR := Lib.hid hroom
          clear hroom
          go_wp2_with (first | (refine wpList_load_row rfl 31 (.tmp 4) rfl w.heap.size rfl 31 (c8 key) (0, 0) _ HX.out.ky Try.underlying31 rfl (by rw [info31, c8_size, HK.out]) ?_) | (refine wpList_load_row rfl 35 (.tmp 5) rfl (w.heap.size + 1) rfl 35 (c8 nonce) (0, 0) _ HX.out.no Try.underlying35 rfl (by rw [info35, c8_size, HN.out]) ?_))
          refine (xor_in key nonce HK.out HN.out _ HI.out (by omega) HR.out).mono ?_
          rintro e w1 ⟨hb1, A1, cp1, rfl, hI1⟩
          have HX1 := Lib.hid (HX.out.later hb1); have HI' := Lib.hid (HI.out.later hb1)
          clear HX HI
          have HX := HX1; have HI := HI'; have HI1 := Lib.hid hI1
          clear HX1 HI' hb1 hI1
          go_wp2_with (first | (refine wpList_load_row rfl 31 (.tmp 4) rfl w.heap.size rfl 31 (c8 key) (0, 0) _ HX.out.ky Try.underlying31 rfl (by rw [info31, c8_size, HK.out]) ?_) | (refine wpList_load_row rfl 35 (.tmp 5) rfl (w.heap.size + 1) rfl 35 (c8 nonce) (0, 0) _ HX.out.no Try.underlying35 rfl (by rw [info35, c8_size, HN.out]) ?_))
          refine (rxor_in key nonce HK.out HN.out _ HI.out (by omega) HR.out).mono ?_
          rintro e w2 ⟨hb1, A2, cp2, rfl, hI2⟩
          have HX1 := Lib.hid (HX.out.later hb1); have HI' := Lib.hid (HI.out.later hb1); have HI1' := Lib.hid (HI1.out.later hb1)
          clear HX HI HI1
          have HX := HX1; have HI := HI'; have HI1 := HI1'; have HI2 := Lib.hid hI2
          clear HX1 HI' HI1' hb1 hI2
          go_wp2_with fail
          refine Ph.region 99 (Kn w key nonce) (Kn w key nonce) (by kernel_rfl) ?_
          have hS := HX.out.drew.kn
          refine Ph.take2 (i := 0) (d := some 38) rfl rfl (by kernel_rfl) (fun _ h => h) (fun _ _ _ h => h) rfl (v := .agg (c8 key)) (fun w' hw' => yield_load_row 31 (.tmp 4) rfl w.heap.size rfl 31 (c8 key) (0, 0) _ hw'.1 Try.underlying31 rfl (by rw [info31, c8_size, HK.out])) hS ?n0
          simp only [Act.put, List.setIfInBounds_toArray, List.set_cons_zero, List.set_cons_succ]
          refine Ph.take2 (i := 1) (d := some 39) rfl rfl (by kernel_rfl) (fun _ h => h) (fun _ _ _ h => h) rfl (v := .agg (c8 nonce)) (fun w' hw' => yield_load_row 35 (.tmp 5) rfl (w.heap.size + 1) rfl 35 (c8 nonce) (0, 0) _ hw'.2 Try.underlying35 rfl (by rw [info35, c8_size, HN.out])) hS ?n1
          simp only [Act.put, List.setIfInBounds_toArray, List.set_cons_zero, List.set_cons_succ]
          refine Ph.take2 (i := 2) (d := some 40) rfl rfl (by kernel_rfl) (fun _ h => h) (fun _ _ _ h => h) rfl (v := ?v2) (fun w' hw' => ?y2) hS ?n2
          case y2 => (go_simp; try (with_reducible rfl))
          simp only [Act.put, List.setIfInBounds_toArray, List.set_cons_zero, List.set_cons_succ]
          refine Ph.take2 (i := 4) (d := some 42) rfl rfl (by kernel_rfl) (fun _ h => h) (fun _ _ _ h => h) rfl (v := .agg (c8 key)) (fun w' hw' => yield_load_row 31 (.tmp 4) rfl w.heap.size rfl 31 (c8 key) (0, 0) _ hw'.1 Try.underlying31 rfl (by rw [info31, c8_size, HK.out])) hS ?n4
          simp only [Act.put, List.setIfInBounds_toArray, List.set_cons_zero, List.set_cons_succ]
          refine Ph.take2 (i := 5) (d := some 43) rfl rfl (by kernel_rfl) (fun _ h => h) (fun _ _ _ h => h) rfl (v := .agg (c8 nonce)) (fun w' hw' => yield_load_row 35 (.tmp 5) rfl (w.heap.size + 1) rfl 35 (c8 nonce) (0, 0) _ hw'.2 Try.underlying35 rfl (by rw [info35, c8_size, HN.out])) hS ?n5
          simp only [Act.put, List.setIfInBounds_toArray, List.set_cons_zero, List.set_cons_succ]
          refine Ph.take2 (i := 6) (d := some 44) rfl rfl (by kernel_rfl) (fun _ h => h) (fun _ _ _ h => h) rfl (v := ?v6) (fun w' hw' => ?y6) hS ?n6
          case y6 => (go_simp; try (with_reducible rfl))
          simp only [Act.put, List.setIfInBounds_toArray, List.set_cons_zero, List.set_cons_succ]
          refine Ph.only (i := 3) rfl (by kernel_rfl) rfl (fun K hK => ?_)
          go_simp
          refine (block_any key nonce HK.out HN.out _ _).mono ?_
          rintro e wa ⟨rfl, hba⟩
          have hSa := ((HX.out.drew).later hba).kn
          have HXa := Lib.hid ((HX.out.drew).later hba)
          have hbba : Below w2.drew.heap.size w2.drew wa := hba
          refine hK _ _ hSa ?_
          clear hK K
          try simp only [List.setIfInBounds_toArray, List.set_cons_zero, List.set_cons_succ]
          refine Ph.only (i := 7) rfl (by kernel_rfl) rfl (fun K hK => ?_)
          go_simp
          refine (rblock_any key nonce HK.out HN.out _ _).mono ?_
          rintro e wb ⟨rfl, hbb⟩
          have hSb := ((HXa.out).later hbb).kn
          have HXb := Lib.hid ((HXa.out).later hbb)
          have hbbb : Below wa.heap.size wa wb := hbb
          refine hK _ _ hSb ?_
          clear hK K
          try simp only [List.setIfInBounds_toArray, List.set_cons_zero, List.set_cons_succ]
          have hbl := Ch.block_length key nonce c'
          generalize Ch.block key nonce c' = bk at *
          have heq := eqin36 bk bk hbl hbl
          simp only [decide_true] at heq
          refine Ph.take2 (i := 8) (d := some 46) rfl rfl (by kernel_rfl) (fun _ h => h) (fun _ _ _ h => h) rfl (v := .bool false) (fun w' hw' => ?y8) hSb ?n8
          case y8 => (have gg := guard36; go_simp; try (with_reducible rfl))
          simp only [Act.put, List.setIfInBounds_toArray, List.set_cons_zero, List.set_cons_succ]
          refine Ph.take2 (i := 9) (d := some 47) rfl rfl (by kernel_rfl) (fun _ h => h) (fun _ _ _ h => h) rfl (v := ?v9) (fun w' hw' => ?y9) hSb ?n9
          case y9 => (go_simp; try (with_reducible rfl))
          simp only [Act.put, List.setIfInBounds_toArray, List.set_cons_zero, List.set_cons_succ]
          refine Ph.take2 (i := 10) (d := some 48) rfl rfl (by kernel_rfl) (fun _ h => h) (fun _ _ _ h => h) rfl (v := ?v10) (fun w' hw' => ?y10) hSb ?n10
          case y10 => (go_simp; try (with_reducible rfl))
          simp only [Act.put, List.setIfInBounds_toArray, List.set_cons_zero, List.set_cons_succ]
          refine Ph.take2 (i := 11) (d := some 49) rfl rfl (by kernel_rfl) (fun _ h => h) (fun _ _ _ h => h) rfl (v := ?v11) (fun w' hw' => ?y11) hSb ?n11
          case y11 => (go_simp; try (with_reducible rfl))
          simp only [Act.put, List.setIfInBounds_toArray, List.set_cons_zero, List.set_cons_succ]
          refine Ph.take2 (i := 12) (d := some 50) rfl rfl (by kernel_rfl) (fun _ h => h) (fun _ _ _ h => h) rfl (v := ?v12) (fun w' hw' => ?y12) hSb ?n12
          case y12 => (go_simp; try (with_reducible rfl))
          simp only [Act.put, List.setIfInBounds_toArray, List.set_cons_zero, List.set_cons_succ]
          refine Ph.take2 (i := 13) (d := some 51) rfl rfl (by kernel_rfl) (fun _ h => h) (fun _ _ _ h => h) rfl (v := ?v13) (fun w' hw' => ?y13) hSb ?n13
          case y13 => (go_simp; try (with_reducible rfl))
          simp only [Act.put, List.setIfInBounds_toArray, List.set_cons_zero, List.set_cons_succ]
          refine Ph.take2 (i := 14) (d := some 52) rfl rfl (by kernel_rfl) (fun _ h => h) (fun _ _ _ h => h) rfl (v := ?v14) (fun w' hw' => ?y14) hSb ?n14
          case y14 => (go_simp; try (with_reducible rfl))
          simp only [Act.put, List.setIfInBounds_toArray, List.set_cons_zero, List.set_cons_succ]
          refine Ph.take2 (i := 15) (d := some 53) rfl rfl (by kernel_rfl) (fun _ h => h) (fun _ _ _ h => h) rfl (v := ?v15) (fun w' hw' => ?y15) hSb ?n15
          case y15 => (go_simp; try (with_reducible rfl))
          simp only [Act.put, List.setIfInBounds_toArray, List.set_cons_zero, List.set_cons_succ]
          refine Ph.take2 (i := 16) (d := some 54) rfl rfl (by kernel_rfl) (fun _ h => h) (fun _ _ _ h => h) rfl (v := ?v16) (fun w' hw' => ?y16) hSb ?n16
          case y16 => (go_simp; try (with_reducible rfl))
          simp only [Act.put, List.setIfInBounds_toArray, List.set_cons_zero, List.set_cons_succ]
          refine Ph.only (i := 17) rfl (by kernel_rfl) rfl (fun K hK => ?_)
          go_simp
          have HIa1 := (HI1.out.later (Below.refl _ w2).drew).later hbba
          have HIa2 := (HI2.out.later (Below.refl _ w2).drew).later hbba
          refine (same_in (HIa1.later hbbb) (HIa2.later hbbb)).mono ?_
          rintro e wc ⟨rfl, rfl⟩
          simp only [decide_true]
          refine hK _ _ hSb ?_
          clear hK K
          try simp only [List.setIfInBounds_toArray, List.set_cons_zero, List.set_cons_succ]
          refine Ph.take2 (i := 18) (d := some 56) rfl rfl (by kernel_rfl) (fun _ h => h) (fun _ _ _ h => h) rfl (v := ?v18) (fun w' hw' => ?y18) hSb ?n18
          case y18 => (go_simp; try (with_reducible rfl))
          simp only [Act.put, List.setIfInBounds_toArray, List.set_cons_zero, List.set_cons_succ]
          refine Ph.take2 (i := 19) (d := some 57) rfl rfl (by kernel_rfl) (fun _ h => h) (fun _ _ _ h => h) rfl (v := ?v19) (fun w' hw' => ?y19) hSb ?n19
          case y19 => (go_simp; try (with_reducible rfl))
          simp only [Act.put, List.setIfInBounds_toArray, List.set_cons_zero, List.set_cons_succ]
          refine Ph.done (by kernel_rfl) ?_ _
          have HI3 := Lib.hid (((HI.out.later (Below.refl _ w2).drew).later hbba).later hbbb)
          clear HI HI1 HI2 HIa1 HIa2 hSa hSb hS HXa hba hbb hbba hbbb
          go_wp2_with fail
          go_roundw
          case rel => first | exact ⟨k + 1, 4294967295#32 - (c' &&& 7#32), by omega, rfl, by go_num, HXb, HI3⟩ | ((repeat apply Exists.intro); exact ⟨⟨k + 1, 4294967295#32 - (c' &&& 7#32), by omega, rfl, by go_num, HXb, HI3⟩, rfl⟩)
          case measure => simp [intOf]; omega
        · have HR : Hid (Ch.room c' n = false) := by show _ = _; simpa using hroom
          clear hroom
          go_wp2_with (first | (refine wpList_load_row rfl 31 (.tmp 4) rfl w.heap.size rfl 31 (c8 key) (0, 0) _ HX.out.ky Try.underlying31 rfl (by rw [info31, c8_size, HK.out]) ?_) | (refine wpList_load_row rfl 35 (.tmp 5) rfl (w.heap.size + 1) rfl 35 (c8 nonce) (0, 0) _ HX.out.no Try.underlying35 rfl (by rw [info35, c8_size, HN.out]) ?_))
          refine (xor_out key nonce HK.out HN.out _ HI.out (by omega) HR.out).mono ?_
          rintro e w1 ⟨hb1, rfl⟩
          have hI1 := IsB.none w1
          have HX1 := Lib.hid (HX.out.later hb1); have HI' := Lib.hid (HI.out.later hb1)
          clear HX HI
          have HX := HX1; have HI := HI'; have HI1 := Lib.hid hI1
          clear HX1 HI' hb1 hI1
          go_wp2_with (first | (refine wpList_load_row rfl 31 (.tmp 4) rfl w.heap.size rfl 31 (c8 key) (0, 0) _ HX.out.ky Try.underlying31 rfl (by rw [info31, c8_size, HK.out]) ?_) | (refine wpList_load_row rfl 35 (.tmp 5) rfl (w.heap.size + 1) rfl 35 (c8 nonce) (0, 0) _ HX.out.no Try.underlying35 rfl (by rw [info35, c8_size, HN.out]) ?_))
          refine (rxor_out key nonce HK.out HN.out _ HI.out (by omega) HR.out).mono ?_
          rintro e w2 ⟨hb1, rfl⟩
          have hI2 := IsB.none w2
          have HX1 := Lib.hid (HX.out.later hb1); have HI' := Lib.hid (HI.out.later hb1); have HI1' := Lib.hid (HI1.out.later hb1)
          clear HX HI HI1
          have HX := HX1; have HI := HI'; have HI1 := HI1'; have HI2 := Lib.hid hI2
          clear HX1 HI' HI1' hb1 hI2
          go_wp2_with fail
          refine Ph.region 99 (Kn w key nonce) (Kn w key nonce) (by kernel_rfl) ?_
          have hS := HX.out.drew.kn
          refine Ph.take2 (i := 0) (d := some 38) rfl rfl (by kernel_rfl) (fun _ h => h) (fun _ _ _ h => h) rfl (v := .agg (c8 key)) (fun w' hw' => yield_load_row 31 (.tmp 4) rfl w.heap.size rfl 31 (c8 key) (0, 0) _ hw'.1 Try.underlying31 rfl (by rw [info31, c8_size, HK.out])) hS ?nB0
          simp only [Act.put, List.setIfInBounds_toArray, List.set_cons_zero, List.set_cons_succ]
          refine Ph.take2 (i := 1) (d := some 39) rfl rfl (by kernel_rfl) (fun _ h => h) (fun _ _ _ h => h) rfl (v := .agg (c8 nonce)) (fun w' hw' => yield_load_row 35 (.tmp 5) rfl (w.heap.size + 1) rfl 35 (c8 nonce) (0, 0) _ hw'.2 Try.underlying35 rfl (by rw [info35, c8_size, HN.out])) hS ?nB1
          simp only [Act.put, List.setIfInBounds_toArray, List.set_cons_zero, List.set_cons_succ]
          refine Ph.take2 (i := 2) (d := some 40) rfl rfl (by kernel_rfl) (fun _ h => h) (fun _ _ _ h => h) rfl (v := ?vB2) (fun w' hw' => ?yB2) hS ?nB2
          case yB2 => (go_simp; try (with_reducible rfl))
          simp only [Act.put, List.setIfInBounds_toArray, List.set_cons_zero, List.set_cons_succ]
          refine Ph.take2 (i := 4) (d := some 42) rfl rfl (by kernel_rfl) (fun _ h => h) (fun _ _ _ h => h) rfl (v := .agg (c8 key)) (fun w' hw' => yield_load_row 31 (.tmp 4) rfl w.heap.size rfl 31 (c8 key) (0, 0) _ hw'.1 Try.underlying31 rfl (by rw [info31, c8_size, HK.out])) hS ?nB4
          simp only [Act.put, List.setIfInBounds_toArray, List.set_cons_zero, List.set_cons_succ]
          refine Ph.take2 (i := 5) (d := some 43) rfl rfl (by kernel_rfl) (fun _ h => h) (fun _ _ _ h => h) rfl (v := .agg (c8 nonce)) (fun w' hw' => yield_load_row 35 (.tmp 5) rfl (w.heap.size + 1) rfl 35 (c8 nonce) (0, 0) _ hw'.2 Try.underlying35 rfl (by rw [info35, c8_size, HN.out])) hS ?nB5
          simp only [Act.put, List.setIfInBounds_toArray, List.set_cons_zero, List.set_cons_succ]
          refine Ph.take2 (i := 6) (d := some 44) rfl rfl (by kernel_rfl) (fun _ h => h) (fun _ _ _ h => h) rfl (v := ?vB6) (fun w' hw' => ?yB6) hS ?nB6
          case yB6 => (go_simp; try (with_reducible rfl))
          simp only [Act.put, List.setIfInBounds_toArray, List.set_cons_zero, List.set_cons_succ]
          refine Ph.only (i := 3) rfl (by kernel_rfl) rfl (fun K hK => ?_)
          go_simp
          refine (block_any key nonce HK.out HN.out _ _).mono ?_
          rintro e wa ⟨rfl, hba⟩
          have hSa := ((HX.out.drew).later hba).kn
          have HXa := Lib.hid ((HX.out.drew).later hba)
          have hbba : Below w2.drew.heap.size w2.drew wa := hba
          refine hK _ _ hSa ?_
          clear hK K
          try simp only [List.setIfInBounds_toArray, List.set_cons_zero, List.set_cons_succ]
          refine Ph.only (i := 7) rfl (by kernel_rfl) rfl (fun K hK => ?_)
          go_simp
          refine (rblock_any key nonce HK.out HN.out _ _).mono ?_
          rintro e wb ⟨rfl, hbb⟩
          have hSb := ((HXa.out).later hbb).kn
          have HXb := Lib.hid ((HXa.out).later hbb)
          have hbbb : Below wa.heap.size wa wb := hbb
          refine hK _ _ hSb ?_
          clear hK K
          try simp only [List.setIfInBounds_toArray, List.set_cons_zero, List.set_cons_succ]
          have hbl := Ch.block_length key nonce c'
          generalize Ch.block key nonce c' = bk at *
          have heq := eqin36 bk bk hbl hbl
          simp only [decide_true] at heq
          refine Ph.take2 (i := 8) (d := some 46) rfl rfl (by kernel_rfl) (fun _ h => h) (fun _ _ _ h => h) rfl (v := .bool false) (fun w' hw' => ?yB8) hSb ?nB8
          case yB8 => (have gg := guard36; go_simp; try (with_reducible rfl))
          simp only [Act.put, List.setIfInBounds_toArray, List.set_cons_zero, List.set_cons_succ]
          refine Ph.take2 (i := 9) (d := some 47) rfl rfl (by kernel_rfl) (fun _ h => h) (fun _ _ _ h => h) rfl (v := ?vB9) (fun w' hw' => ?yB9) hSb ?nB9
          case yB9 => (go_simp; try (with_reducible rfl))
          simp only [Act.put, List.setIfInBounds_toArray, List.set_cons_zero, List.set_cons_succ]
          refine Ph.take2 (i := 10) (d := some 48) rfl rfl (by kernel_rfl) (fun _ h => h) (fun _ _ _ h => h) rfl (v := ?vB10) (fun w' hw' => ?yB10) hSb ?nB10
          case yB10 => (go_simp; try (with_reducible rfl))
          simp only [Act.put, List.setIfInBounds_toArray, List.set_cons_zero, List.set_cons_succ]
          refine Ph.take2 (i := 11) (d := some 49) rfl rfl (by kernel_rfl) (fun _ h => h) (fun _ _ _ h => h) rfl (v := ?vB11) (fun w' hw' => ?yB11) hSb ?nB11
          case yB11 => (go_simp; try (with_reducible rfl))
          simp only [Act.put, List.setIfInBounds_toArray, List.set_cons_zero, List.set_cons_succ]
          refine Ph.take2 (i := 12) (d := some 50) rfl rfl (by kernel_rfl) (fun _ h => h) (fun _ _ _ h => h) rfl (v := ?vB12) (fun w' hw' => ?yB12) hSb ?nB12
          case yB12 => (go_simp; try (with_reducible rfl))
          simp only [Act.put, List.setIfInBounds_toArray, List.set_cons_zero, List.set_cons_succ]
          refine Ph.take2 (i := 13) (d := some 51) rfl rfl (by kernel_rfl) (fun _ h => h) (fun _ _ _ h => h) rfl (v := ?vB13) (fun w' hw' => ?yB13) hSb ?nB13
          case yB13 => (go_simp; try (with_reducible rfl))
          simp only [Act.put, List.setIfInBounds_toArray, List.set_cons_zero, List.set_cons_succ]
          refine Ph.take2 (i := 14) (d := some 52) rfl rfl (by kernel_rfl) (fun _ h => h) (fun _ _ _ h => h) rfl (v := ?vB14) (fun w' hw' => ?yB14) hSb ?nB14
          case yB14 => (go_simp; try (with_reducible rfl))
          simp only [Act.put, List.setIfInBounds_toArray, List.set_cons_zero, List.set_cons_succ]
          refine Ph.take2 (i := 15) (d := some 53) rfl rfl (by kernel_rfl) (fun _ h => h) (fun _ _ _ h => h) rfl (v := ?vB15) (fun w' hw' => ?yB15) hSb ?nB15
          case yB15 => (go_simp; try (with_reducible rfl))
          simp only [Act.put, List.setIfInBounds_toArray, List.set_cons_zero, List.set_cons_succ]
          refine Ph.take2 (i := 16) (d := some 54) rfl rfl (by kernel_rfl) (fun _ h => h) (fun _ _ _ h => h) rfl (v := ?vB16) (fun w' hw' => ?yB16) hSb ?nB16
          case yB16 => (go_simp; try (with_reducible rfl))
          simp only [Act.put, List.setIfInBounds_toArray, List.set_cons_zero, List.set_cons_succ]
          refine Ph.only (i := 17) rfl (by kernel_rfl) rfl (fun K hK => ?_)
          go_simp
          have HIa1 := (HI1.out.later (Below.refl _ w2).drew).later hbba
          have HIa2 := (HI2.out.later (Below.refl _ w2).drew).later hbba
          refine (same_in (HIa1.later hbbb) (HIa2.later hbbb)).mono ?_
          rintro e wc ⟨rfl, rfl⟩
          simp only [decide_true]
          refine hK _ _ hSb ?_
          clear hK K
          try simp only [List.setIfInBounds_toArray, List.set_cons_zero, List.set_cons_succ]
          refine Ph.take2 (i := 18) (d := some 56) rfl rfl (by kernel_rfl) (fun _ h => h) (fun _ _ _ h => h) rfl (v := ?vB18) (fun w' hw' => ?yB18) hSb ?nB18
          case yB18 => (go_simp; try (with_reducible rfl))
          simp only [Act.put, List.setIfInBounds_toArray, List.set_cons_zero, List.set_cons_succ]
          refine Ph.take2 (i := 19) (d := some 57) rfl rfl (by kernel_rfl) (fun _ h => h) (fun _ _ _ h => h) rfl (v := ?vB19) (fun w' hw' => ?yB19) hSb ?nB19
          case yB19 => (go_simp; try (with_reducible rfl))
          simp only [Act.put, List.setIfInBounds_toArray, List.set_cons_zero, List.set_cons_succ]
          refine Ph.done (by kernel_rfl) ?_ _
          have HI3 := Lib.hid (((HI.out.later (Below.refl _ w2).drew).later hbba).later hbbb)
          clear HI HI1 HI2 HIa1 HIa2 hSa hSb hS HXa hba hbb hbba hbbb
          go_wp2_with fail
          go_roundw
          case rel => first | exact ⟨k + 1, 4294967295#32 - (c' &&& 7#32), by omega, rfl, by go_num, HXb, HI3⟩ | ((repeat apply Exists.intro); exact ⟨⟨k + 1, 4294967295#32 - (c' &&& 7#32), by omega, rfl, by go_num, HXb, HI3⟩, rfl⟩)
          case measure => simp [intOf]; omega
      · have hk2 : k = 2 := by omega
        subst hk2
        go_wp2_with fail
        have hbl := HX.out.bl
        have hzz := hbl.size
        refine (awake3_any _).mono ?_
        rintro e w1 ⟨rfl, hb1⟩
        go_wp2_with fail
        go_ret
        exact ⟨rfl, hbl.trans (hb1.mono (by omega))⟩
end Go.Proofs.Ytdkimnigckpncaa
