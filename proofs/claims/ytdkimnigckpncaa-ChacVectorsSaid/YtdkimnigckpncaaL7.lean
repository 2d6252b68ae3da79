/-
  The walk of the law ChacVectors.
-/
import Derived.Test.YtdkimnigckpncaaX5
import Derived.Lib.SlBytesConst
namespace Go.Proofs.Ytdkimnigckpncaa
open Go.RowKit

theorem rd_fr {w : World} {g : Nat} {l : List (BitVec 8)} {t : TypeId} {fr : Nat × Nat} (h : w.heap[g]? = some (.cells (c8 l) t fr)) : Rd w (some ⟨g, 0, none⟩) l := by
  intro i hi
  refine ⟨_, rfl, ?_⟩
  have ea : (⟨g, 0, none⟩ : Addr).add i = ⟨g, i, none⟩ := by unfold Addr.add; by_cases h0 : i = 0 <;> simp [h0]
  rw [ea, cell_of_row w g i _ t fr h, c8_get l i hi]

theorem tail2 {w : World} {A : Option Addr} {cap : Nat} {l : List (BitVec 8)} (h : IsB w A 114 cap l) (hc : 114 ≤ cap) :
    (convert 32 9 (.slice (Option.map (fun x : Addr => (⟨x.block, x.off + 112, none⟩ : Addr)) A) 2 (cap - 112))).run Try.prog w = .ok (.string (str (l.drop 112))) w := by
  have h1 := (h.tail 112 (by omega)).conv
  unfold cutA at h1
  have hfe : (fun x : Addr => x.add 112) = fun x => ⟨x.block, x.off + 112, none⟩ := by funext x; simp [Addr.add]
  rw [if_neg (by omega), hfe] at h1
  exact h1

set_option maxRecDepth 100000 in
set_option maxHeartbeats 4000000 in
theorem cvectors_any (w : World) : Calls Try.prog 7 #[] w fun e w' => e = .returned (.bool true) ∧ Below w.heap.size w w' := by
  go_enter Try.func7, Try.ntmps7
  go_wp2_with fail
  go_loopw [7] (fun i wr => ∃ (k : Nat), k ≤ 32 ∧ i = .int .i64 k ∧ Hid (wr.heap[w.heap.size]? = some (.cells (c8 (Ch.kf k)) 31 (0, 0))) ∧ Hid (Below w.heap.size w wr) ∧ w.heap.size < wr.heap.size) (fun i _ => 32 - (intOf i).toNat)
  case atStart => exact ⟨0, by omega, rfl, heap_alloc_new _ _, (Below.refl _ _).alloc (Nat.le_refl _) _, by simp⟩
  case round =>
    obtain ⟨k, hk, rfl, hH, hB, hz⟩ := hrel
    by_cases hlt : k < 32
    · have hk8 : (k : Int) < 32 := by omega
      have hcv := u8_ofNat k
      have cc := cell_c8 hH.out k (by rw [Ch.kf_length k hk]; exact hlt)
      have ff := frozen_of_row _ w.heap.size k _ 31 hH.out
      go_wp2_with fail
      have R1 : Hid ((wr.setCell ⟨w.heap.size, k, none⟩ (.int .u8 (u (BitVec.ofNat 8 k)))).heap[w.heap.size]? = some (.cells (c8 (Ch.kf (k + 1))) 31 (0, 0))) := by
        show _ = _
        rw [← Ch.kf_next k hlt, ← c8_set]; exact heap_setCell_same wr w.heap.size _ _ 31 _ hH.out
      have R2 : Hid (Below w.heap.size w (wr.setCell ⟨w.heap.size, k, none⟩ (.int .u8 (u (BitVec.ofNat 8 k))))) :=
        hB.out.trans ⟨rfl, rfl, rfl, by simp [World.setCell], fun i hi => heap_setCell_other wr ⟨w.heap.size, k, none⟩ i _ (by show i ≠ w.heap.size; omega)⟩
      go_roundw
      case rel => exact ⟨k + 1, by omega, by go_num, R1, R2, by simpa [World.setCell] using hz⟩
      case measure => simp [intOf]; omega
    · have hk32 : k = 32 := by omega
      subst hk32
      have hk0 : Hid (wr.heap[w.heap.size]? = some (.cells (c8 Ch.K0) 31 (0, 0))) := hH.out
      have hh := hk0.out
      clear hH
      have hh1 := (Below.heap_alloc wr (.cells (c8 Ch.T0) 5 ((c8 Ch.T0).size, (c8 Ch.T0).size + 1)) _ hz).trans hh
      have kc := Lib.run_convert_bytes_const (P := Try.prog) wr 32 5 (c8 Ch.T0) 114 114 Try.underlying32 Try.underlying5
      go_wp2_with (first | (refine wpList_bslice rfl 114 _ rfl (c8 Ch.T0) (by omega) (by omega) (by kernel_rfl) ?_) | (refine wpList_load_row rfl 31 (.tmp 1) rfl w.heap.size rfl 31 (c8 Ch.K0) (0, 0) _ hh1 Try.underlying31 rfl (by rw [info31, c8_size]; rfl) ?_))
      have hI0 : Hid (IsB (wr.alloc (.cells (c8 Ch.T0) 5 ((c8 Ch.T0).size, (c8 Ch.T0).size + 1))) (some ⟨wr.heap.size, 0, none⟩) 114 114 Ch.T0) := ⟨rfl, rd_fr (heap_alloc_new wr (.cells (c8 Ch.T0) 5 ((c8 Ch.T0).size, (c8 Ch.T0).size + 1))), fun h => (by cases h), Nat.le_refl _, by decide⟩
      have hB1 := Lib.hid (hB.out.alloc (by omega) (.cells (c8 Ch.T0) 5 ((c8 Ch.T0).size, (c8 Ch.T0).size + 1)))
      have hz1 : w.heap.size < (wr.alloc (.cells (c8 Ch.T0) 5 ((c8 Ch.T0).size, (c8 Ch.T0).size + 1))).heap.size := by simp; omega
      obtain ⟨tb, htb⟩ : ∃ tb, tb = wr.heap.size := ⟨_, rfl⟩
      rw [← htb] at hI0
      simp only [← htb]
      clear hB hz hk0 hh htb kc
      generalize wr.alloc (.cells (c8 Ch.T0) 5 ((c8 Ch.T0).size, (c8 Ch.T0).size + 1)) = w1 at *
      clear wr
      have hx := xor_in Ch.K0 Ch.N1 rfl rfl 1#32 hI0.out (by omega) (by decide)
      have e1 : c8 Ch.N1 = #[.int .u8 0, .int .u8 0, .int .u8 0, .int .u8 0, .int .u8 0, .int .u8 0, .int .u8 0, .int .u8 74, .int .u8 0, .int .u8 0, .int .u8 0, .int .u8 0] := by kernel_rfl
      have e2 : u 1#32 = 1 := rfl
      have hd1 : Hid ((Ch.xor Ch.K0 Ch.N1 1#32 Ch.T0).take 8 = [0x6e#8, 0x2e#8, 0x35#8, 0x9a#8, 0x25#8, 0x68#8, 0xf9#8, 0x80#8]) := Ch.told3
      have hd2 : Hid ((Ch.xor Ch.K0 Ch.N1 1#32 Ch.T0).drop 112 = [0x87#8, 0x4d#8]) := Ch.told4
      rw [e1, e2] at hx
      generalize Ch.xor Ch.K0 Ch.N1 1#32 Ch.T0 = xs at *
      refine hx.mono ?_
      clear hx e1 e2
      rintro e w2 ⟨hb2, A1, cp1, rfl, hI1⟩
      have HI1 := Lib.hid hI1
      have hB2 := Lib.hid (hB1.out.trans (hb2.mono (by omega)))
      have hz2 : w.heap.size < w2.heap.size := Nat.lt_of_lt_of_le hz1 hb2.size
      clear hI1 hb2 hB1 hI0 hh1 hz1
      go_wp2_with fail
      have hbk := block_any (Ch.Z 32) (Ch.Z 12) rfl rfl 0#32 w2
      have e1 : c8 (Ch.Z 32) = #[.int .u8 0, .int .u8 0, .int .u8 0, .int .u8 0, .int .u8 0, .int .u8 0, .int .u8 0, .int .u8 0, .int .u8 0, .int .u8 0, .int .u8 0, .int .u8 0, .int .u8 0, .int .u8 0, .int .u8 0, .int .u8 0, .int .u8 0, .int .u8 0, .int .u8 0, .int .u8 0, .int .u8 0, .int .u8 0, .int .u8 0, .int .u8 0, .int .u8 0, .int .u8 0, .int .u8 0, .int .u8 0, .int .u8 0, .int .u8 0, .int .u8 0, .int .u8 0] := by kernel_rfl
      have e2 : c8 (Ch.Z 12) = #[.int .u8 0, .int .u8 0, .int .u8 0, .int .u8 0, .int .u8 0, .int .u8 0, .int .u8 0, .int .u8 0, .int .u8 0, .int .u8 0, .int .u8 0, .int .u8 0] := by kernel_rfl
      have e3 : u 0#32 = 0 := rfl
      have hbl := Ch.block_length (Ch.Z 32) (Ch.Z 12) 0#32
      have hd3 : Hid ((Ch.block (Ch.Z 32) (Ch.Z 12) 0#32).take 8 = [0x76#8, 0xb8#8, 0xe0#8, 0xad#8, 0xa0#8, 0xf1#8, 0x3d#8, 0x90#8]) := Ch.told5
      rw [e1, e2, e3] at hbk
      generalize Ch.block (Ch.Z 32) (Ch.Z 12) 0#32 = bk at *
      refine hbk.mono ?_
      clear hbk e1 e2 e3
      rintro e w3 ⟨rfl, hb3⟩
      have HI3 := Lib.hid (HI1.out.later hb3)
      have hB3 := Lib.hid (hB2.out.trans (hb3.mono (by omega)))
      have hz3 : w.heap.size < w3.heap.size := Nat.lt_of_lt_of_le hz2 hb3.size
      clear HI1 hB2 hz2 hb3
      have hcp : (114 : Int) ≤ (cp1 : Int) := by have := HI3.out.cp; omega
      have hcp8 : (8 : Int) ≤ (cp1 : Int) := by omega
      have hcp9 : ¬ (cp1 = 112) := by omega
      have q1 : str [0x6e#8, 0x2e#8, 0x35#8, 0x9a#8, 0x25#8, 0x68#8, 0xf9#8, 0x80#8] = ⟨#[110, 46, 53, 154, 37, 104, 249, 128]⟩ := by kernel_rfl
      have q2 : str [0x87#8, 0x4d#8] = ⟨#[135, 77]⟩ := by kernel_rfl
      have q3 : str [0x76#8, 0xb8#8, 0xe0#8, 0xad#8, 0xa0#8, 0xf1#8, 0x3d#8, 0x90#8] = ⟨#[118, 184, 224, 173, 160, 241, 61, 144]⟩ := by kernel_rfl
      have hs1 := fun W => sl_h Try.underlying36 W w3.heap.size 8 8 rfl (by omega) (by omega)
      go_wp2_with (refine wpList_store_whole rfl 36 (.tmp 6) (.tmp 26) rfl w3.heap.size 36 _ (c8 bk) rfl rfl (heap_alloc_new _ _) (by rw [info36, c8_size, hbl]) (by rw [c8_size, hbl]; rfl) (c8_all _) ?_; intro w4 hT gr; have HI5 := Lib.hid (HI3.out.later (new_below (Below.refl _ _) (Nat.le_refl _) gr)); have HB5 := Lib.hid (new_below hB3.out (by omega) gr); have hz5 : w.heap.size < w4.heap.size := Nat.lt_trans hz3 (Blk_lt hT); have hc1 := (HI5.out.head 8 (by omega)).conv; have hc2 := tail2 HI5.out (by omega); have hc3 := conv_any Try.underlying32 Try.underlying5 (some ⟨w3.heap.size, 0, none⟩) 8 64 (bk.take 8) (by simp [hbl]) w4 (by have := rd_c8 hT 0 8 (by omega); simpa using this); rw [hd1.out, q1] at hc1; rw [hd2.out, q2] at hc2; rw [hd3.out, q3] at hc3; clear hT gr)
      refine (awake3_any _).mono ?_
      rintro e w5 ⟨rfl, hb5⟩
      go_wp2_with fail
      go_ret
      exact ⟨rfl, HB5.out.trans (hb5.mono (by omega))⟩
end Go.Proofs.Ytdkimnigckpncaa
