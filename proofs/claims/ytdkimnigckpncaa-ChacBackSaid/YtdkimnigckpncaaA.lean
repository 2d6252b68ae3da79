/-
  What the document fixes for ChaCha20: the walk of awake.
-/
import Derived.Test.YtdkimnigckpncaaS
namespace Go.Proofs.Ytdkimnigckpncaa
open Go.RowKit
namespace Ch
def K0 : List Y := (List.range 32).map fun i => BitVec.ofNat 8 i
def N0 : List Y := [0#8, 0#8, 0#8, 9#8, 0#8, 0#8, 0#8, 74#8, 0#8, 0#8, 0#8, 0#8]
def Z (n : Nat) : List Y := List.replicate n 0#8
def kf (k : Nat) : List Y := ((List.range k).map fun i => BitVec.ofNat 8 i) ++ List.replicate (32 - k) 0#8
theorem kf_all : kf 32 = K0 := rfl
theorem kf_length (k : Nat) (hk : k ≤ 32) : (kf k).length = 32 := by simp [kf]; omega
theorem kf_next (k : Nat) (hk : k < 32) : (kf k).set k (BitVec.ofNat 8 k) = kf (k + 1) := by
  have e : 32 - k = (32 - (k + 1)) + 1 := by omega
  unfold kf
  rw [e, List.replicate_succ, List.range_succ, List.map_append, List.append_assoc]
  have := List.set_append_right (s := (List.range k).map fun i => BitVec.ofNat 8 i) (t := 0#8 :: List.replicate (32 - (k + 1)) 0#8) k (BitVec.ofNat 8 k) (by simp)
  rw [this]
  simp
set_option maxRecDepth 100000 in
theorem told1 : (block K0 N0 1#32).take 8 = [16#8, 241#8, 231#8, 228#8, 209#8, 59#8, 89#8, 21#8] := by decide +kernel
set_option maxRecDepth 100000 in
theorem told2 : (block K0 N0 1#32).drop 60 = [162#8, 80#8, 60#8, 78#8] := by decide +kernel
end Ch
theorem u8_ofNat (m : Nat) : IntKind.u8.wrap (m : Int) = u (BitVec.ofNat 8 m) := wr8 m
theorem sl_h {t : TypeId} {n : Nat} (hu : Try.prog.underlying t = some (.array n 5)) (W : World) (b h : Nat) (y : Int) (hy : y = h) (h0 : 0 < n) (h2 : h ≤ n) :
    (Instr.sliceAt t (.pointer (some ⟨b, 0, none⟩)) none (some (.int .i64 y)) none).run Try.prog W = .ok (.slice (some ⟨b, 0, none⟩) h n) W := by
  have e1 : Try.prog.arrayLen t = n := by simp [Program.arrayLen, hu]
  have e2 : Try.prog.elem t = 5 := by simp [Program.elem, hu]
  subst hy
  rw [run_sliceAt_array_h W t ⟨b, 0, none⟩ (by rw [e1, e2]; exact hu) .i64 h (by omega) (by rw [e1]; omega), e1, e2, size5]
  have e4 : ¬ n = 0 := by omega
  simp only [slicedAt, Result.andThen_ok, Int.toNat_natCast, add_one, if_neg e4, Nat.sub_zero]

theorem made_c8 (n : Nat) : madeCells #[Value.int .u8 0] n = c8 (Ch.Z n) := by
  apply Array.toList_inj.1
  rw [toList_madeCells_one]
  simp [c8, Ch.Z, cell8]
  exact Or.inr rfl
theorem make_n (n : Nat) (hn : n ≤ 100000) (x : Int) (hx : x = n) (W : World) : (Instr.makeSlice 32 (.int .i64 x) (.int .i64 x)).run Try.prog W = .ok (.slice (some ⟨W.heap.size, 0, none⟩) n n) (W.alloc (.cells (c8 (Ch.Z n)) 5)) := by
  obtain ⟨i0, hi, hz0, hz1, hz2⟩ := info_parts Try.info5
  subst hx
  rw [run_make W 32 5 i0 (.int .u8 0) Try.underlying32 hi hz0 .i64 .i64 n n (by omega) (Int.le_refl _) (by rw [hz2]; omega) (by omega), hz1, Int.toNat_natCast, Nat.mul_one]
  have e : (Value.int .u8 0).cells = #[Value.int .u8 0] := rfl
  rw [e, made_c8]
theorem rd_all {w : World} {g : Nat} {l : List (BitVec 8)} {t : TypeId} (h : w.heap[g]? = some (.cells (c8 l) t (0, 0))) : Rd w (some ⟨g, 0, none⟩) l := by
  have := rd_c8 h 0 l.length (by omega)
  simpa using this

set_option maxRecDepth 100000 in
set_option maxHeartbeats 4000000 in
theorem awake3_any (w : World) : Calls Try.prog 26 #[] w fun e w' => e = .returned (.bool true) ∧ Below w.heap.size w w' := by
  go_enter Try.func26, Try.ntmps26
  go_wp2_with fail
  go_loopw [6] (fun i wr => ∃ (k : Nat), k ≤ 32 ∧ i = .int .i64 k ∧ Hid (wr.heap[w.heap.size]? = some (.cells (c8 (Ch.kf k)) 31 (0, 0))) ∧ Hid (Below w.heap.size w wr) ∧ w.heap.size < wr.heap.size) (fun i _ => 32 - (intOf i).toNat)
  case atStart => exact ⟨0, by omega, rfl, heap_alloc_new _ _, (Below.refl _ _).alloc (Nat.le_refl _) _, by simp⟩
  case round =>
    obtain ⟨k, hk, rfl, hH, hB, hz⟩ := hrel
    by_cases hlt : k < 32
    · have hk8 : (k : Int) < 32 := by omega
      have hcv := u8_ofNat k
      have cc := cell_c8 hH.out k (by rw [Ch.kf_length k hk]; exact hlt)
      have ff := frozen_of_row _ w.heap.size k _ 31 hH.out
      go_wp2_with fail
      have R1 : Hid ((wr.setCell ⟨w.heap.size, k, none⟩ (.int .u8 (u (BitVec.ofNat 8 k)))).heap[w.heap.size]? = some (.cells (c8 (Ch.kf (k + 1))) 31 (0, 0))) := by
        show _ = _
        rw [← Ch.kf_next k hlt, ← c8_set]; exact heap_setCell_same wr w.heap.size _ _ 31 _ hH.out
      have R2 : Hid (Below w.heap.size w (wr.setCell ⟨w.heap.size, k, none⟩ (.int .u8 (u (BitVec.ofNat 8 k))))) :=
        hB.out.trans ⟨rfl, rfl, rfl, by simp [World.setCell], fun i hi => heap_setCell_other wr ⟨w.heap.size, k, none⟩ i _ (by show i ≠ w.heap.size; omega)⟩
      go_roundw
      case rel => exact ⟨k + 1, by omega, by go_num, R1, R2, by simpa [World.setCell] using hz⟩
      case measure => simp [intOf]; omega
    · have hk32 : k = 32 := by omega
      subst hk32
      have hk0 : Hid (wr.heap[w.heap.size]? = some (.cells (c8 Ch.K0) 31 (0, 0))) := hH.out
      have hh := hk0.out
      clear hH
      go_wp2_with (refine wpList_load_row rfl 31 (.tmp 1) rfl w.heap.size rfl 31 (c8 Ch.K0) (0, 0) _ hh Try.underlying31 rfl (by rw [info31, c8_size]; rfl) ?_)
      have hbk := block_any Ch.K0 Ch.N0 rfl rfl 1#32 wr
      have e1 : c8 Ch.N0 = #[.int .u8 0, .int .u8 0, .int .u8 0, .int .u8 9, .int .u8 0, .int .u8 0, .int .u8 0, .int .u8 74, .int .u8 0, .int .u8 0, .int .u8 0, .int .u8 0] := by kernel_rfl
      have e2 : u 1#32 = 1 := rfl
      have hbl := Ch.block_length Ch.K0 Ch.N0 1#32
      have hd1 : Hid ((Ch.block Ch.K0 Ch.N0 1#32).take 8 = [16#8, 241#8, 231#8, 228#8, 209#8, 59#8, 89#8, 21#8]) := Ch.told1
      have hd2 : Hid ((Ch.block Ch.K0 Ch.N0 1#32).drop 60 = [162#8, 80#8, 60#8, 78#8]) := Ch.told2
      rw [e1, e2] at hbk
      generalize Ch.block Ch.K0 Ch.N0 1#32 = bk at *
      refine hbk.mono ?_
      clear hbk e1 e2
      rintro e w2 ⟨rfl, hb2⟩
      have hz2 := hb2.size
      have hk2 := Lib.hid ((hb2.block _ hz).trans hh)
      have hB2 := Lib.hid (hB.out.trans (hb2.mono (by omega)))
      go_wp2_with (refine wpList_store_whole rfl 36 (.tmp 3) (.tmp 16) rfl w2.heap.size 36 _ (c8 bk) rfl rfl (heap_alloc_new _ _) (by rw [info36, c8_size, hbl]) (by rw [c8_size, hbl]; rfl) (c8_all _) ?_; intro w3 hT gr)
      have hk3 := Lib.hid ((new_keep gr (by omega)).trans hk2.out)
      have hB3 := Lib.hid (new_below hB2.out (by omega) gr)
      have hz3 : w2.heap.size < w3.heap.size := Blk_lt hT
      have HT := Lib.hid hT
      obtain ⟨sb, hsb⟩ : ∃ sb, sb = w2.heap.size := ⟨_, rfl⟩
      have hwsb : w.heap.size < sb := by omega
      rw [← hsb] at HT hz3
      simp only [← hsb]
      clear gr hT hsb hk2 hB2 hz2 hb2 hB hk0 hh hz
      refine Ph.region 99 (fun W => W.heap[w.heap.size]? = some (.cells (c8 Ch.K0) 31 (0, 0))) (fun W => W.heap[w.heap.size]? = some (.cells (c8 Ch.K0) 31 (0, 0))) (by kernel_rfl) ?_
      have hB4 := Lib.hid hB3.out.drew
      have HT4 : Hid (w3.drew.heap[sb]? = some (.cells (c8 bk) 36 (0, 0))) := HT.out
      have hk4 : w3.drew.heap[w.heap.size]? = some (.cells (c8 Ch.K0) 31 (0, 0)) := hk3.out
      have hz4 : sb < w3.drew.heap.size := hz3
      clear hB3 HT hk3 hz3
      generalize w3.drew = w4 at *
      refine Ph.take2 (i := 0) (d := some 18) rfl rfl (by kernel_rfl) (fun _ h => h) (fun _ _ _ h => h) rfl (v := .agg (c8 Ch.K0)) (fun w' hw' => yield_load_row 31 (.tmp 1) rfl w.heap.size rfl 31 (c8 Ch.K0) (0, 0) _ hw' Try.underlying31 rfl (by rw [info31, c8_size]; rfl)) hk4 ?n0
      simp only [Act.put, List.setIfInBounds_toArray, List.set_cons_zero, List.set_cons_succ]
      refine Ph.take2 (i := 1) (d := some 19) rfl rfl (by kernel_rfl) (fun _ h => h) (fun _ _ _ h => h) rfl (v := ?v1) (fun w' hw' => ?y1) hk4 ?n1
      case y1 => (go_simp; try (with_reducible rfl))
      simp only [Act.put, List.setIfInBounds_toArray, List.set_cons_zero, List.set_cons_succ]
      refine Ph.only (i := 2) rfl (by kernel_rfl) rfl (fun K hK => ?_)
      have hmk := make_n 65 (by omega) 65 rfl
      go_simp
      have hkm : (w4.alloc (.cells (c8 (Ch.Z 65)) 5)).heap[w.heap.size]? = some (.cells (c8 Ch.K0) 31 (0, 0)) := (Below.heap_alloc _ _ _ (by omega)).trans hk4
      refine hK _ _ hkm ?_
      have hBm := Lib.hid (hB4.out.alloc (by omega) (.cells (c8 (Ch.Z 65)) 5))
      have HTm := Lib.hid ((Below.heap_alloc w4 (.cells (c8 (Ch.Z 65)) 5) _ hz4).trans HT4.out)
      have hrd := rd_all (heap_alloc_new w4 (.cells (c8 (Ch.Z 65)) 5))
      have hzm : sb < (w4.alloc (.cells (c8 (Ch.Z 65)) 5)).heap.size := by simp; omega
      clear hK K hmk
      obtain ⟨zb, hzb⟩ : ∃ zb, zb = w4.heap.size := ⟨_, rfl⟩
      rw [← hzb] at hrd
      simp only [← hzb]
      clear hB4 HT4 hk4 hz4 hzb
      generalize w4.alloc (.cells (c8 (Ch.Z 65)) 5) = w5 at *
      try simp only [List.setIfInBounds_toArray, List.set_cons_zero, List.set_cons_succ]
      refine Ph.only (i := 3) rfl (by kernel_rfl) rfl (fun K hK => ?_)
      go_simp
      have hx := xor_any Ch.K0 (Ch.Z 12) rfl rfl 4294967295#32 (some ⟨zb, 0, none⟩) 65 65 (fun h => by cases h) (Ch.Z 65) rfl (by omega) w5 hrd
      have e1 : c8 (Ch.Z 12) = #[.int .u8 0, .int .u8 0, .int .u8 0, .int .u8 0, .int .u8 0, .int .u8 0, .int .u8 0, .int .u8 0, .int .u8 0, .int .u8 0, .int .u8 0, .int .u8 0] := by kernel_rfl
      have e2 : u 4294967295#32 = 4294967295 := rfl
      rw [e1, e2] at hx
      refine hx.mono ?_
      clear hx e1 e2
      rintro e w6 ⟨hb6, ⟨hno, _⟩ | ⟨-, rfl⟩⟩
      · exact absurd hno (by decide)
      have hz6 := hb6.size
      have hk6 : w6.heap[w.heap.size]? = some (.cells (c8 Ch.K0) 31 (0, 0)) := (hb6.block _ (by omega)).trans hkm
      have HT6 := Lib.hid ((hb6.block _ hzm).trans HTm.out)
      have hB6 := Lib.hid (hBm.out.trans (hb6.mono (by omega)))
      refine hK _ _ hk6 ?_
      clear hK K hkm HTm hBm hb6 hrd hzm
      try simp only [List.setIfInBounds_toArray, List.set_cons_zero, List.set_cons_succ]
      refine Ph.take2 (i := 4) (d := some 17) rfl rfl (by kernel_rfl) (fun _ h => h) (fun _ _ _ h => h) rfl (v := ?v4) (fun w' hw' => ?y4) hk6 ?n4
      case y4 => (go_simp; try (with_reducible rfl))
      simp only [Act.put, List.setIfInBounds_toArray, List.set_cons_zero, List.set_cons_succ]
      refine Ph.take2 (i := 5) (d := some 22) rfl rfl (by kernel_rfl) (fun _ h => h) (fun _ _ _ h => h) rfl (v := ?v5) (fun w' hw' => ?y5) hk6 ?n5
      case y5 => (go_simp; try (with_reducible rfl))
      simp only [Act.put, List.setIfInBounds_toArray, List.set_cons_zero, List.set_cons_succ]
      refine Ph.take2 (i := 6) (d := some 23) rfl rfl (by kernel_rfl) (fun _ h => h) (fun _ _ _ h => h) rfl (v := ?v6) (fun w' hw' => ?y6) hk6 ?n6
      case y6 => (go_simp; try (with_reducible rfl))
      simp only [Act.put, List.setIfInBounds_toArray, List.set_cons_zero, List.set_cons_succ]
      refine Ph.take2 (i := 7) (d := some 4) rfl rfl (by kernel_rfl) (fun _ h => h) (fun _ _ _ h => h) rfl (v := ?v7) (fun w' hw' => ?y7) hk6 ?n7
      case y7 => (go_simp; try (with_reducible rfl))
      simp only [Act.put, List.setIfInBounds_toArray, List.set_cons_zero, List.set_cons_succ]
      refine Ph.take2 (i := 8) (d := some 5) rfl rfl (by kernel_rfl) (fun _ h => h) (fun _ _ _ h => h) rfl (v := ?v8) (fun w' hw' => ?y8) hk6 ?n8
      case y8 => (go_simp; try (with_reducible rfl))
      simp only [Act.put, List.setIfInBounds_toArray, List.set_cons_zero, List.set_cons_succ]
      refine Ph.done (by kernel_rfl) ?_ _
      have hs1 := fun W => sl_h Try.underlying36 W sb 8 8 rfl (by omega) (by omega)
      have hs2 := fun W => sl_l Try.underlying36 W sb 60 60 rfl (by omega)
      have hc1 := conv_any Try.underlying32 Try.underlying5 (some ⟨sb, 0, none⟩) 8 64 (bk.take 8) (by simp [hbl]) w6 (by have := rd_c8 HT6.out 0 8 (by omega); simpa using this)
      have hc2 := conv_any Try.underlying32 Try.underlying5 (some ⟨sb, 60, none⟩) 4 4 (bk.drop 60) (by simp [hbl]) w6 (by have := rd_c8 HT6.out 60 4 (by omega); rwa [List.take_of_length_le (by simp [hbl])] at this)
      rw [hd1.out] at hc1
      rw [hd2.out] at hc2
      have q1 : str [16#8, 241#8, 231#8, 228#8, 209#8, 59#8, 89#8, 21#8] = ⟨#[16, 241, 231, 228, 209, 59, 89, 21]⟩ := by kernel_rfl
      have q2 : str [162#8, 80#8, 60#8, 78#8] = ⟨#[162, 80, 60, 78]⟩ := by kernel_rfl
      rw [q1] at hc1
      rw [q2] at hc2
      go_wp2_with fail
      go_ret
      exact ⟨rfl, hB6.out⟩
end Go.Proofs.Ytdkimnigckpncaa
