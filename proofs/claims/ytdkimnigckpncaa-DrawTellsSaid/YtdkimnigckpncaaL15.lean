/-
  The walk of the law DrawMasks.
-/
import Derived.Test.YtdkimnigckpncaaA4
import Derived.Test.YtdkimnigckpncaaL8a
import Derived.Test.YtdkimnigckpncaaL14
namespace Go.Proofs.Ytdkimnigckpncaa
open Go.RowKit
/-- The key lies in block b. -/
def Ky (b : Nat) (key : List (BitVec 8)) (w : World) : Prop := w.heap[b]? = some (.cells (c8 key) 31 (0, 0))
theorem Ky.later {b : Nat} {key : List (BitVec 8)} {w w' : World} (h : Ky b key w) (hb : Below w.heap.size w w') : Ky b key w' :=
  (hb.block b (Array.getElem?_eq_some_iff.1 h).1).trans h
theorem Ch.lf_pow (a : Nat) (h : a ≤ 16) : Ch.lf ((2 ^ a : Nat) : Int) = true := (Ch.lf_iff _).2 ⟨a, h, rfl⟩
theorem Ch.msk_pow (x : BitVec 32) (a : Nat) (h : a ≤ 16) : Ch.msk x ((2 ^ a : Nat) : Int) = ((x.toNat % 2 ^ a : Nat) : Int) := by
  unfold Ch.msk
  rw [if_pos (Ch.lf_pow a h), Int.toNat_natCast, Nat.and_two_pow_sub_one_eq_mod]
theorem and_pow (x b : Nat) (hx : x < 2 ^ 62) (hb : b ≤ 61) : bits .and .i64 (x : Int) (((2 ^ b : Nat) : Int) - 1) = ((x % 2 ^ b : Nat) : Int) := by
  have h := pow_bd b 61 hb
  rw [(by omega : ((2 ^ b : Nat) : Int) - 1 = ((2 ^ b - 1 : Nat) : Int)), and_nat x (2 ^ b - 1) hx (by omega), Nat.and_two_pow_sub_one_eq_mod]
theorem mod_pow (x a m : Nat) (h : m ≤ a) : x % 2 ^ a % 2 ^ m = x % 2 ^ m := Nat.mod_mod_of_dvd _ (Nat.pow_dvd_pow 2 h)
theorem Sc.old {w w' : World} {B : Nat} {tv : Value} {st : Bool} {key : List (BitVec 8)} {nx : BitVec 64} (h : Sc w B tv st key nx) (hb : Below w.heap.size w w') : Sc w' B tv st key nx := h.below hb h.lt

set_option maxRecDepth 100000 in
set_option maxHeartbeats 4000000 in
theorem dmasks_any (key : List (BitVec 8)) (hk : key.length = 32) (nx : BitVec 64) (a b : Int) (w : World) :
    Calls Try.prog 15 #[.agg (c8 key), .int .u64 (u nx), .int .i64 a, .int .i64 b] w fun e w' => e = .returned (.bool true) ∧ Below w.heap.size w w' := by
  have HK := Lib.hid hk
  clear hk
  obtain ⟨a0, ha0, ham⟩ := and_masked a 15 (by omega)
  obtain ⟨b0, hb0, hbm⟩ := and_masked b 15 (by omega)
  have e15 : ((15 : Nat) : Int) = 15 := rfl
  rw [e15] at ham hbm
  clear e15
  have hpa := wrap_pow a0 (by omega)
  have hpb := wrap_pow b0 (by omega)
  have la := pow_bd a0 15 ha0
  have lb := pow_bd b0 15 hb0
  -- the two draws agree in the places that both have
  have hd : Hid (∀ x : BitVec 32, Ch.msk x ((2 ^ a0 : Nat) : Int) = ((x.toNat % 2 ^ a0 : Nat) : Int) ∧ Ch.msk x ((2 ^ b0 : Nat) : Int) = ((x.toNat % 2 ^ b0 : Nat) : Int) ∧ x.toNat % 2 ^ a0 < 4294967296 ∧ x.toNat % 2 ^ b0 < 4294967296) := fun x => by
    have hx := x.isLt
    exact ⟨Ch.msk_pow x a0 (by omega), Ch.msk_pow x b0 (by omega), Nat.lt_of_le_of_lt (Nat.mod_le _ _) hx, Nat.lt_of_le_of_lt (Nat.mod_le _ _) hx⟩
  have hm : Hid (∀ x : BitVec 32, a0 ≤ b0 → bits .and .i64 ((x.toNat % 2 ^ a0 : Nat) : Int) (((2 ^ a0 : Nat) : Int) - 1) = ((x.toNat % 2 ^ a0 : Nat) : Int) ∧ bits .and .i64 ((x.toNat % 2 ^ b0 : Nat) : Int) (((2 ^ a0 : Nat) : Int) - 1) = ((x.toNat % 2 ^ a0 : Nat) : Int)) := fun x h => by
    have hx := x.isLt
    have h1 : x.toNat % 2 ^ a0 < 2 ^ 62 := Nat.lt_of_le_of_lt (Nat.mod_le _ _) (by omega)
    have h2 : x.toNat % 2 ^ b0 < 2 ^ 62 := Nat.lt_of_le_of_lt (Nat.mod_le _ _) (by omega)
    exact ⟨by rw [and_pow _ _ h1 (by omega), mod_pow _ _ _ (Nat.le_refl _)], by rw [and_pow _ _ h2 (by omega), mod_pow _ _ _ h]⟩
  have hm2 : Hid (∀ x : BitVec 32, b0 ≤ a0 → bits .and .i64 ((x.toNat % 2 ^ a0 : Nat) : Int) (((2 ^ b0 : Nat) : Int) - 1) = ((x.toNat % 2 ^ b0 : Nat) : Int) ∧ bits .and .i64 ((x.toNat % 2 ^ b0 : Nat) : Int) (((2 ^ b0 : Nat) : Int) - 1) = ((x.toNat % 2 ^ b0 : Nat) : Int)) := fun x h => by
    have hx := x.isLt
    have h1 : x.toNat % 2 ^ a0 < 2 ^ 62 := Nat.lt_of_le_of_lt (Nat.mod_le _ _) (by omega)
    have h2 : x.toNat % 2 ^ b0 < 2 ^ 62 := Nat.lt_of_le_of_lt (Nat.mod_le _ _) (by omega)
    exact ⟨by rw [and_pow _ _ h1 (by omega), mod_pow _ _ _ h], by rw [and_pow _ _ h2 (by omega), mod_pow _ _ _ (Nat.le_refl _)]⟩
  generalize hPa : 2 ^ a0 = Pa at *
  generalize hPb : 2 ^ b0 = Pb at *
  have la1 := la.1
  have la2 : Pa ≤ 32768 := la.2
  have lb1 := lb.1
  have lb2 : Pb ≤ 32768 := lb.2
  clear la lb hPa hPb
  have key2 : Hid (∀ x : BitVec 32, ∃ X Y Z : Nat, Ch.msk x (Pa : Int) = X ∧ Ch.msk x (Pb : Int) = Y ∧ (a0 ≤ b0 → bits .and .i64 (X : Int) ((Pa : Int) - 1) = Z ∧ bits .and .i64 (Y : Int) ((Pa : Int) - 1) = Z) ∧ (¬ a0 ≤ b0 → bits .and .i64 (X : Int) ((Pb : Int) - 1) = Z ∧ bits .and .i64 (Y : Int) ((Pb : Int) - 1) = Z)) := fun x => by
    obtain ⟨h1, h2, _, _⟩ := hd.out x
    by_cases h : a0 ≤ b0
    · exact ⟨_, _, _, h1, h2, fun h => hm.out x h, fun h' => absurd h h'⟩
    · exact ⟨_, _, _, h1, h2, fun h' => absurd h' h, fun _ => hm2.out x (by omega)⟩
  clear hd hm hm2
  go_enter Try.func15, Try.ntmps15
  go_wp2_with fail
  have HKy : Hid (Ky w.heap.size key (w.alloc (.cells (c8 key) 31))) := heap_alloc_new w _
  have HB := Lib.hid ((Below.refl w.heap.size w).alloc (Nat.le_refl _) (.cells (c8 key) 31))
  obtain ⟨kb, hkb⟩ : ∃ kb, kb = w.heap.size := ⟨_, rfl⟩
  rw [← hkb] at HKy HB
  simp only [← hkb]
  have HKB := Lib.hid hkb
  have hkw : kb ≤ w.heap.size := by omega
  clear hkb
  generalize w.alloc (.cells (c8 key) 31) = wa at *
  have hS : Ky kb key wa.drew := HKy.out
  refine Ph.region 99 (Ky kb key) (Ky kb key) (by kernel_rfl) ?_
  refine Ph.take2 (i := 0) (d := some 19) rfl rfl (by kernel_rfl) (fun _ h => h) (fun _ _ _ h => h) rfl (v := .agg (c8 key)) (fun w' hw' => yield_load_row 31 (.tmp 4) rfl kb rfl 31 (c8 key) (0, 0) _ hw' Try.underlying31 rfl (by rw [info31, c8_size, HK.out])) hS ?nA0
  simp only [Act.put, List.setIfInBounds_toArray, List.set_cons_zero, List.set_cons_succ]
  refine Ph.take2 (i := 1) (d := some 20) rfl rfl (by kernel_rfl) (fun _ h => h) (fun _ _ _ h => h) rfl (v := ?vA1) (fun w' hw' => ?yA1) hS ?nA1
  case yA1 => (go_simp; try (with_reducible rfl))
  simp only [Act.put, List.setIfInBounds_toArray, List.set_cons_zero, List.set_cons_succ]
  refine Ph.take2 (i := 3) (d := some 22) rfl rfl (by kernel_rfl) (fun _ h => h) (fun _ _ _ h => h) rfl (v := .agg (c8 key)) (fun w' hw' => yield_load_row 31 (.tmp 4) rfl kb rfl 31 (c8 key) (0, 0) _ hw' Try.underlying31 rfl (by rw [info31, c8_size, HK.out])) hS ?nA3
  simp only [Act.put, List.setIfInBounds_toArray, List.set_cons_zero, List.set_cons_succ]
  refine Ph.take2 (i := 4) (d := some 23) rfl rfl (by kernel_rfl) (fun _ h => h) (fun _ _ _ h => h) rfl (v := ?vA4) (fun w' hw' => ?yA4) hS ?nA4
  case yA4 => (go_simp; try (with_reducible rfl))
  simp only [Act.put, List.setIfInBounds_toArray, List.set_cons_zero, List.set_cons_succ]
  refine Ph.only (i := 2) rfl (by kernel_rfl) rfl (fun K hK => ?_)
  go_simp
  refine (stream_any key HK.out nx wa.drew).mono ?_
  rintro e w1 ⟨rfl, hs1, hb1⟩
  have hS1 := Ky.later hS hb1
  have HB1 := Lib.hid ((HB.out.drew).trans (hb1.mono (Nat.le_trans hkw HB.out.size)))
  have HS1 := Lib.hid hs1
  have hz : kb ≤ wa.drew.heap.size := Nat.le_trans hkw HB.out.size
  obtain ⟨B1, hB1⟩ : ∃ B1, B1 = wa.drew.heap.size + 1 := ⟨_, rfl⟩
  rw [← hB1] at HS1
  simp only [← hB1]
  have hkB : kb < B1 := by omega
  clear hB1 hs1 HB
  refine hK _ _ hS1 ?_
  clear hK K hS hb1 hz
  try simp only [List.setIfInBounds_toArray, List.set_cons_zero, List.set_cons_succ]
  refine Ph.only (i := 5) rfl (by kernel_rfl) rfl (fun K hK => ?_)
  go_simp
  refine (stream_any key HK.out nx w1).mono ?_
  rintro e w2 ⟨rfl, hs2, hb2⟩
  have hS2 := Ky.later hS1 hb2
  have HB2 := Lib.hid ((HB1.out).trans (hb2.mono (Nat.le_trans hkw HB1.out.size)))
  have HS2 := Lib.hid hs2
  have HS1' := Lib.hid (HS1.out.old hb2)
  have hz := HS1.out.lt
  obtain ⟨B2, hB2⟩ : ∃ B2, B2 = w1.heap.size + 1 := ⟨_, rfl⟩
  rw [← hB2] at HS2
  simp only [← hB2]
  have hkB2 : B1 < B2 := by omega
  clear hB2 hs2 HB1 HS1
  have HS1 := HS1'
  clear HS1'
  refine hK _ _ hS2 ?_
  clear hK K hS1 hb2 hz
  try simp only [List.setIfInBounds_toArray, List.set_cons_zero, List.set_cons_succ]
  refine Ph.take2 (i := 6) (d := some 9) rfl rfl (by kernel_rfl) (fun _ h => h) (fun _ _ _ h => h) rfl (v := ?vA6) (fun w' hw' => ?yA6) hS2 ?nA6
  case yA6 => (go_simp; try (with_reducible rfl))
  simp only [Act.put, List.setIfInBounds_toArray, List.set_cons_zero, List.set_cons_succ]
  refine Ph.take2 (i := 7) (d := some 10) rfl rfl (by kernel_rfl) (fun _ h => h) (fun _ _ _ h => h) rfl (v := ?vA7) (fun w' hw' => ?yA7) hS2 ?nA7
  case yA7 => (go_simp; try (with_reducible rfl))
  simp only [Act.put, List.setIfInBounds_toArray, List.set_cons_zero, List.set_cons_succ]
  refine Ph.done (by kernel_rfl) ?_ _
  clear hS2 HKy
  go_wp2_with fail
  go_loopw [11] (fun i wr => ∃ (k : Nat) (x : BitVec 64), k ≤ 8 ∧ i = .int .i64 k ∧ Hid (Sc wr B1 (.slice none 0 0) true key x) ∧ Hid (Sc wr B2 (.slice none 0 0) true key x) ∧ Hid (Below kb w wr)) (fun i _ => 8 - (intOf i).toNat)
  case atStart => exact ⟨0, nx, by omega, rfl, HS1, HS2, HB2⟩
  case round =>
    obtain ⟨k, x, hk, rfl, HS1', HS2', HB'⟩ := hrel
    clear HS1 HS2 HB2
    by_cases hlt : k < 8
    · have hk8 : (k : Int) < 8 := by omega
      obtain ⟨X, Y, Z, hX, hY, hZ1, hZ2⟩ := key2.out (Ch.sp key x)
      have HX := Lib.hid hX
      have HY := Lib.hid hY
      clear hX hY
      by_cases hab : a0 ≤ b0
      · obtain ⟨z1, z2⟩ := hZ1 hab
        clear hZ1 hZ2
        have hab' : (a0 : Int) ≤ (b0 : Int) := by omega
        go_wp2_with fail
        refine (next_k HS1'.out _).mono ?_
        rintro e w3 ⟨rfl, hs1, hg1⟩
        rw [HX.out]
        have HS2a := Lib.hid (HS2'.out.later hg1 (fun e => by have := Option.some.inj e; omega))
        have HS1a := Lib.hid hs1
        have HBa := Lib.hid (HB'.out.grown hg1 (Nat.le_trans hkw HB'.out.size) (fun k' hk' => by cases hk'; omega))
        clear hs1 hg1
        go_wp2_with fail
        refine (next_k HS2a.out _).mono ?_
        rintro e w4 ⟨rfl, hs2, hg2⟩
        rw [HY.out]
        have HS1b := Lib.hid (HS1a.out.later hg2 (fun e => by have := Option.some.inj e; omega))
        have HS2b := Lib.hid hs2
        have HBb := Lib.hid (HBa.out.grown hg2 (Nat.le_trans hkw HBa.out.size) (fun k' hk' => by cases hk'; omega))
        clear hs2 hg2
        go_wp2_with fail
        go_roundw
        case rel => exact ⟨k + 1, x + 1#64, by omega, by go_num, HS1b, HS2b, HBb⟩
        case measure => simp [intOf]; omega
      · obtain ⟨z1, z2⟩ := hZ2 hab
        clear hZ1 hZ2
        have hab' : ¬ (a0 : Int) ≤ (b0 : Int) := by omega
        have hab2 : (b0 : Int) ≤ (a0 : Int) := by omega
        go_wp2_with fail
        refine (next_k HS1'.out _).mono ?_
        rintro e w3 ⟨rfl, hs1, hg1⟩
        rw [HX.out]
        have HS2a := Lib.hid (HS2'.out.later hg1 (fun e => by have := Option.some.inj e; omega))
        have HS1a := Lib.hid hs1
        have HBa := Lib.hid (HB'.out.grown hg1 (Nat.le_trans hkw HB'.out.size) (fun k' hk' => by cases hk'; omega))
        clear hs1 hg1
        go_wp2_with fail
        refine (next_k HS2a.out _).mono ?_
        rintro e w4 ⟨rfl, hs2, hg2⟩
        rw [HY.out]
        have HS1b := Lib.hid (HS1a.out.later hg2 (fun e => by have := Option.some.inj e; omega))
        have HS2b := Lib.hid hs2
        have HBb := Lib.hid (HBa.out.grown hg2 (Nat.le_trans hkw HBa.out.size) (fun k' hk' => by cases hk'; omega))
        clear hs2 hg2
        go_wp2_with fail
        go_roundw
        case rel => exact ⟨k + 1, x + 1#64, by omega, by go_num, HS1b, HS2b, HBb⟩
        case measure => simp [intOf]; omega
    · have hk8 : k = 8 := by omega
      subst hk8
      go_wp2_with fail
      refine (used_any HS1'.out).mono ?_
      rintro e w5 ⟨rfl, rfl⟩
      go_wp2_with fail
      refine (used_any HS2'.out).mono ?_
      rintro e w5 ⟨rfl, rfl⟩
      go_wp2_with fail
      refine (awake4_any _).mono ?_
      rintro e w5 ⟨rfl, hb⟩
      have HB5 := Lib.hid (HB'.out.trans (hb.mono (Nat.le_trans hkw HB'.out.size)))
      clear hb
      go_wp2_with fail
      go_ret
      exact ⟨rfl, by rw [← HKB.out]; exact HB5.out⟩
end Go.Proofs.Ytdkimnigckpncaa
