/-
  The walk of the law DrawLeaves.
-/
import Derived.Test.YtdkimnigckpncaaA4
import Derived.Test.YtdkimnigckpncaaL8a
namespace Go.Proofs.Ytdkimnigckpncaa
open Go.RowKit
theorem pow_nat (k : Nat) : ((2 : Int) ^ k) = ((2 ^ k : Nat) : Int) := by simp
theorem pow_bd (k m : Nat) (h : k ≤ m) : 1 ≤ 2 ^ k ∧ 2 ^ k ≤ 2 ^ m := ⟨Nat.one_le_two_pow, Nat.pow_le_pow_right (by decide) h⟩
theorem wrap_pow (k : Nat) (hk : k < 62) : Go.RowKit.wrap64 (2 ^ k) = ((2 ^ k : Nat) : Int) := by
  have h := pow_bd k 61 (by omega)
  rw [pow_nat]
  generalize 2 ^ k = p at *
  unfold Go.RowKit.wrap64
  omega
namespace Ch
def chk2 : Bool := (List.range 40).all fun k => (List.range 17).all fun i => (List.range 8).all fun d => !(2 ^ k + d == 2 ^ i + 3) || (d == 3 || (2 ^ i == 1 || (2 ^ i == 2 || (2 ^ i == 4 || 2 ^ i == 8))))
theorem chk2_true : chk2 = true := by decide +kernel
theorem lf_far (k b : Nat) (hk : k < 40) (hb : b ≤ 7) (q : Int) (hq : ((2 ^ k : Nat) : Int) + ((b : Int) - 3) = q) (h0 : q ≠ ((2 ^ k : Nat) : Int)) (h1 : q ≠ 1) (h2 : q ≠ 2) (h4 : q ≠ 4) (h8 : q ≠ 8) : lf q = false := by
  by_cases hn : lf q = true
  · exfalso
    have hl := lf_lo hn
    obtain ⟨m, rfl⟩ : ∃ m : Nat, q = m := ⟨q.toNat, by omega⟩
    obtain ⟨i, hi, rfl⟩ := (lf_iff m).1 hn
    have h := chk2_true
    unfold chk2 at h
    rw [List.all_eq_true] at h
    have h := h k (List.mem_range.2 hk)
    rw [List.all_eq_true] at h
    have h := h i (List.mem_range.2 (by omega))
    rw [List.all_eq_true] at h
    have h := h b (List.mem_range.2 (by omega))
    simp only [Bool.or_eq_true, Bool.not_eq_true', beq_eq_false_iff_ne, beq_iff_eq] at h
    omega
  · simpa using hn
theorem lf_want (n : Int) : ((List.range 17).any fun j => n == (2 : Int) ^ j) = lf n := by
  by_cases h : lf n = true
  · rw [h, List.any_eq_true]
    have hl := lf_lo h
    obtain ⟨m, rfl⟩ : ∃ m : Nat, n = m := ⟨n.toNat, by omega⟩
    obtain ⟨i, hi, rfl⟩ := (lf_iff m).1 h
    exact ⟨i, List.mem_range.2 (by omega), by rw [beq_iff_eq, pow_nat]⟩
  · have h0 : lf n = false := by simpa using h
    rw [h0, List.any_eq_false]
    intro i hi he
    rw [beq_iff_eq, pow_nat] at he
    apply h
    rw [he]
    exact (lf_iff _).2 ⟨i, by have := List.mem_range.1 hi; omega, rfl⟩
end Ch

set_option maxHeartbeats 2000000 in
theorem dleaves_any (n bits_ beside : Int) (w : World) : Calls Try.prog 14 #[.int .i64 n, .int .i64 bits_, .int .i64 beside] w fun e w' => e = .returned (.bool true) ∧ Below w.heap.size w w' := by
  obtain ⟨k0, hk0, hkm⟩ := and_masked bits_ 255 (by omega)
  obtain ⟨b0, hb0, hbm⟩ := and_masked beside 7 (by omega)
  have e255 : ((255 : Nat) : Int) = 255 := rfl
  have e7 : ((7 : Nat) : Int) = 7 := rfl
  rw [e255] at hkm
  rw [e7] at hbm
  clear e255 e7
  have hwp := wrap_pow (k0 % 40) (by omega)
  have hpb := pow_bd (k0 % 40) 39 (by omega)
  have hfar := Lib.hid (Ch.lf_far (k0 % 40) b0 (by omega) hb0)
  have hp2 := Lib.hid (Ch.pow_iff 39 (2 ^ (k0 % 40)) hpb.1 (by have := hpb.2; omega))
  have hp3 : Hid (∃ i, i ≤ 39 ∧ 2 ^ (k0 % 40) = 2 ^ i) := ⟨k0 % 40, by omega, rfl⟩
  have hp4 := Lib.hid (Ch.lf_iff (2 ^ (k0 % 40)))
  have hp5 : Hid (2 ^ (k0 % 40) ≤ 65536 → ∃ i, i ≤ 16 ∧ 2 ^ (k0 % 40) = 2 ^ i) := fun h => by
    refine ⟨k0 % 40, ?_, rfl⟩
    rcases Nat.lt_or_ge 16 (k0 % 40) with h2 | h2
    · have := Nat.pow_le_pow_right (n := 2) (by decide) h2
      omega
    · exact h2
  generalize hPe : 2 ^ (k0 % 40) = P at *
  have hP1 := hpb.1
  have hP2 : P ≤ 549755813888 := hpb.2
  clear hpb hPe
  obtain ⟨q, hq⟩ : ∃ q, (P : Int) + ((b0 : Int) - 3) = q := ⟨_, rfl⟩
  have HQ := Lib.hid hq
  have hqlo : -2 ≤ q := by omega
  have hqhi : q ≤ 549755813900 := by omega
  clear hq
  go_enter Try.func14, Try.ntmps14
  go_wp2_with fail
  go_loop [9, 10] (fun s i => ∃ (k : Nat), k ≤ 17 ∧ i = .int .i64 k ∧ s = .bool ((List.range k).any fun j => n == 2 ^ j)) (fun _ i => 17 - (intOf i).toNat)
  case atStart => exact ⟨0, by omega, rfl, rfl⟩
  case round =>
    obtain ⟨k, hk, rfl, rfl⟩ := hrel
    by_cases hlt : k < 17
    · obtain ⟨s, hs⟩ : ∃ s, s = ((List.range k).any fun j => n == (2 : Int) ^ j) := ⟨_, rfl⟩
      have HS : Hid (((List.range k).any fun j => n == (2 : Int) ^ j) = s) := hs.symm
      rw [← hs]
      clear hs
      have hk16 : (k : Int) ≤ 16 := by omega
      have hw64 : Go.RowKit.wrap64 (2 ^ k) = 2 ^ k := by rw [wrap_pow k (by omega), pow_nat]
      cases s
      · go_wp2_with fail
        go_round
        case rel => exact ⟨k + 1, by omega, by go_num, by rw [List.range_succ, List.any_append, HS.out]; simp⟩
        case measure => simp [intOf]; omega
      · go_wp2_with fail
        go_round
        case rel => exact ⟨k + 1, by omega, by go_num, by rw [List.range_succ, List.any_append, HS.out]; simp⟩
        case measure => simp [intOf]; omega
    · have hk17 : k = 17 := by omega
      subst hk17
      have HW := Lib.hid (Ch.lf_want n)
      generalize ((List.range 17).any fun j => n == (2 : Int) ^ j) = s at *
      have hq := HQ.out
      by_cases e0 : q = (P : Int)
      · have hz : bits .and .i64 q (q - 1) = 0 := by
            rw [e0, (by omega : (P : Int) - 1 = ((P - 1 : Nat) : Int)), and_nat P (P - 1) (by omega) (by omega), hp2.out.2 hp3.out]; rfl
        have d0 : (q == (P : Int)) = true := by rw [beq_iff_eq]; exact e0
        by_cases h6 : q ≤ 65536
        · have HL : Hid (Ch.lf q = true) := by show _ = _; rw [e0]; exact hp4.out.2 (hp5.out (by omega))
          have hpos : 0 < q := by omega
          have d6 : decide (q ≤ 65536) = true := by simpa using h6
          clear e0
          go_wp2_with fail
          refine (leaves_any _ _).mono ?_
          rintro e w1 ⟨rfl, rfl⟩
          rw [← HW.out]
          go_wp2_with fail
          refine (leaves_any _ _).mono ?_
          rintro e w1 ⟨rfl, rfl⟩
          rw [HL.out]
          go_wp2_with fail
          refine (awake4_any _).mono ?_
          rintro e w1 ⟨rfl, hb⟩
          have HB := Lib.hid hb
          clear hb
          go_wp2_with fail
          go_ret
          exact ⟨rfl, HB.out⟩
        · have HL : Hid (Ch.lf q = false) := by
            show _ = _
            cases hl : Ch.lf q with
            | false => rfl
            | true => exact absurd (Ch.lf_hi hl) h6
          have hpos : 0 < q := by omega
          have d6 : decide (q ≤ 65536) = false := by simpa using h6
          clear e0
          go_wp2_with fail
          refine (leaves_any _ _).mono ?_
          rintro e w1 ⟨rfl, rfl⟩
          rw [← HW.out]
          go_wp2_with fail
          refine (leaves_any _ _).mono ?_
          rintro e w1 ⟨rfl, rfl⟩
          rw [HL.out]
          go_wp2_with fail
          refine (awake4_any _).mono ?_
          rintro e w1 ⟨rfl, hb⟩
          have HB := Lib.hid hb
          clear hb
          go_wp2_with fail
          go_ret
          exact ⟨rfl, HB.out⟩
      · have d0 : (q == (P : Int)) = false := by rw [beq_eq_false_iff_ne]; exact e0
        by_cases e1 : q = 1
        · have HL : Hid (Ch.lf q = true) := by show _ = _; rw [e1]; decide
          have hz : bits .and .i64 q (q - 1) = 0 := by rw [e1]; decide
          have hpos : 0 < q := by omega
          have d6 : decide (q ≤ 65536) = true := by simp; omega
          have d1 : (q == 1) = true := by rw [beq_iff_eq]; exact e1
          clear e1
          go_wp2_with fail
          refine (leaves_any _ _).mono ?_
          rintro e w1 ⟨rfl, rfl⟩
          rw [← HW.out]
          go_wp2_with fail
          refine (leaves_any _ _).mono ?_
          rintro e w1 ⟨rfl, rfl⟩
          rw [HL.out]
          go_wp2_with fail
          refine (awake4_any _).mono ?_
          rintro e w1 ⟨rfl, hb⟩
          have HB := Lib.hid hb
          clear hb
          go_wp2_with fail
          go_ret
          exact ⟨rfl, HB.out⟩
        · have d1 : (q == 1) = false := by rw [beq_eq_false_iff_ne]; exact e1
          by_cases e2 : q = 2
          · have HL : Hid (Ch.lf q = true) := by show _ = _; rw [e2]; decide
            have hz : bits .and .i64 q (q - 1) = 0 := by rw [e2]; decide
            have hpos : 0 < q := by omega
            have d6 : decide (q ≤ 65536) = true := by simp; omega
            have d2 : (q == 2) = true := by rw [beq_iff_eq]; exact e2
            clear e2
            go_wp2_with fail
            refine (leaves_any _ _).mono ?_
            rintro e w1 ⟨rfl, rfl⟩
            rw [← HW.out]
            go_wp2_with fail
            refine (leaves_any _ _).mono ?_
            rintro e w1 ⟨rfl, rfl⟩
            rw [HL.out]
            go_wp2_with fail
            refine (awake4_any _).mono ?_
            rintro e w1 ⟨rfl, hb⟩
            have HB := Lib.hid hb
            clear hb
            go_wp2_with fail
            go_ret
            exact ⟨rfl, HB.out⟩
          · have d2 : (q == 2) = false := by rw [beq_eq_false_iff_ne]; exact e2
            by_cases e4 : q = 4
            · have HL : Hid (Ch.lf q = true) := by show _ = _; rw [e4]; decide
              have hz : bits .and .i64 q (q - 1) = 0 := by rw [e4]; decide
              have hpos : 0 < q := by omega
              have d6 : decide (q ≤ 65536) = true := by simp; omega
              have d4 : (q == 4) = true := by rw [beq_iff_eq]; exact e4
              clear e4
              go_wp2_with fail
              refine (leaves_any _ _).mono ?_
              rintro e w1 ⟨rfl, rfl⟩
              rw [← HW.out]
              go_wp2_with fail
              refine (leaves_any _ _).mono ?_
              rintro e w1 ⟨rfl, rfl⟩
              rw [HL.out]
              go_wp2_with fail
              refine (awake4_any _).mono ?_
              rintro e w1 ⟨rfl, hb⟩
              have HB := Lib.hid hb
              clear hb
              go_wp2_with fail
              go_ret
              exact ⟨rfl, HB.out⟩
            · have d4 : (q == 4) = false := by rw [beq_eq_false_iff_ne]; exact e4
              by_cases e8 : q = 8
              · have HL : Hid (Ch.lf q = true) := by show _ = _; rw [e8]; decide
                have hz : bits .and .i64 q (q - 1) = 0 := by rw [e8]; decide
                have hpos : 0 < q := by omega
                have d6 : decide (q ≤ 65536) = true := by simp; omega
                have d8 : (q == 8) = true := by rw [beq_iff_eq]; exact e8
                clear e8
                go_wp2_with fail
                refine (leaves_any _ _).mono ?_
                rintro e w1 ⟨rfl, rfl⟩
                rw [← HW.out]
                go_wp2_with fail
                refine (leaves_any _ _).mono ?_
                rintro e w1 ⟨rfl, rfl⟩
                rw [HL.out]
                go_wp2_with fail
                refine (awake4_any _).mono ?_
                rintro e w1 ⟨rfl, hb⟩
                have HB := Lib.hid hb
                clear hb
                go_wp2_with fail
                go_ret
                exact ⟨rfl, HB.out⟩
              · have d8 : (q == 8) = false := by rw [beq_eq_false_iff_ne]; exact e8
                have HL := Lib.hid (hfar.out q HQ.out e0 e1 e2 e4 e8)
                go_wp2_with fail
                refine (leaves_any _ _).mono ?_
                rintro e w1 ⟨rfl, rfl⟩
                rw [← HW.out]
                go_wp2_with fail
                refine (leaves_any _ _).mono ?_
                rintro e w1 ⟨rfl, rfl⟩
                rw [HL.out]
                go_wp2_with fail
                refine (awake4_any _).mono ?_
                rintro e w1 ⟨rfl, hb⟩
                have HB := Lib.hid hb
                clear hb
                go_wp2_with fail
                go_ret
                exact ⟨rfl, HB.out⟩
end Go.Proofs.Ytdkimnigckpncaa
