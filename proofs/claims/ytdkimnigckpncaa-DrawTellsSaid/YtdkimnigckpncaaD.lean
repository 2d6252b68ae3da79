/-
  Draws: plain words; which counts of leaves there are; the walks of Leaves and Masked.
-/
import Derived.Test.YtdkimnigckpncaaG
import Derived.BigQuiet
namespace Go.Proofs.Ytdkimnigckpncaa
open Go.RowKit
namespace Ch
/-- May there be so many leaves? -/
def lf (n : Int) : Bool := decide (1 ≤ n) && (decide (n ≤ 65536) && (n.toNat &&& (n.toNat - 1)) == 0)
/-- A draw among leaves. -/
def msk (x : BitVec 32) (n : Int) : Int := if lf n = true then ((x.toNat &&& (n.toNat - 1) : Nat) : Int) else 0
/-- A tape's draw. -/
def tp (l : List (BitVec 32)) (n : BitVec 64) : BitVec 32 := l.getD n.toNat 0#32
theorem lf_lo {n : Int} (h : lf n = true) : 1 ≤ n := by
  unfold lf at h; simp at h; exact h.1
theorem lf_hi {n : Int} (h : lf n = true) : n ≤ 65536 := by
  unfold lf at h; simp at h; exact h.2.1
theorem lf_nat (m : Nat) : lf (m : Int) = (decide (1 ≤ m) && (decide (m ≤ 65536) && (m &&& (m - 1)) == 0)) := by
  unfold lf
  rw [Int.toNat_natCast]
  congr 1
  · simp; omega
  · congr 1; simp; omega
theorem and_half (x y : Nat) : x &&& y = 0 ↔ (x / 2 &&& y / 2) = 0 ∧ (x % 2 &&& y % 2) = 0 := by
  have h1 : (x &&& y) / 2 = (x / 2 &&& y / 2) := Nat.and_div_two
  have h2 : (x &&& y) % 2 ^ 1 = (x % 2 ^ 1 &&& y % 2 ^ 1) := Nat.and_mod_two_pow
  rw [Nat.pow_one] at h2
  rw [← h1, ← h2]
  omega
theorem pow_iff : ∀ (t m : Nat), 1 ≤ m → m < 2 ^ (t + 1) → ((m &&& (m - 1)) = 0 ↔ ∃ i, i ≤ t ∧ m = 2 ^ i)
  | 0, m, h1, h2 => by
    have : m = 1 := by simp at h2; omega
    subst this
    exact ⟨fun _ => ⟨0, Nat.le_refl _, rfl⟩, fun _ => rfl⟩
  | t + 1, m, h1, h2 => by
    rw [and_half]
    by_cases ho : m % 2 = 1
    · have e1 : (m - 1) % 2 = 0 := by omega
      have e2 : (m - 1) / 2 = m / 2 := by omega
      rw [e1, e2, Nat.and_self, Nat.and_zero]
      constructor
      · rintro ⟨h, _⟩
        exact ⟨0, by omega, by omega⟩
      · rintro ⟨i, hi, rfl⟩
        cases i with
        | zero => exact ⟨rfl, rfl⟩
        | succ i => rw [Nat.pow_succ] at ho; omega
    · have e1 : m % 2 = 0 := by omega
      have e2 : (m - 1) / 2 = m / 2 - 1 := by omega
      rw [e1, e2, Nat.zero_and, pow_iff t (m / 2) (by omega) (by rw [Nat.pow_succ] at h2; omega)]
      constructor
      · rintro ⟨⟨i, hi, h⟩, _⟩
        exact ⟨i + 1, by omega, by rw [Nat.pow_succ]; omega⟩
      · rintro ⟨i, hi, rfl⟩
        cases i with
        | zero => simp at e1
        | succ i => exact ⟨⟨i, by omega, by rw [Nat.pow_succ]; omega⟩, rfl⟩
theorem lf_iff (m : Nat) : lf (m : Int) = true ↔ ∃ i, i ≤ 16 ∧ m = 2 ^ i := by
  rw [lf_nat]
  simp only [Bool.and_eq_true, decide_eq_true_eq, beq_iff_eq]
  constructor
  · rintro ⟨h1, h2, h3⟩
    exact (pow_iff 16 m h1 (by omega)).1 h3
  · rintro ⟨i, hi, rfl⟩
    have h1 : 1 ≤ 2 ^ i := Nat.one_le_two_pow
    have h2 : 2 ^ i ≤ 2 ^ 16 := Nat.pow_le_pow_right (by decide) hi
    exact ⟨h1, h2, (pow_iff 16 _ h1 (by omega)).2 ⟨i, hi, rfl⟩⟩
theorem lf_neg {n : Int} (h : n < 1) : lf n = false := by
  unfold lf
  have : decide (1 ≤ n) = false := by simp; omega
  rw [this]; rfl
end Ch

theorem and_nat (x y : Nat) (hx : x < 2 ^ 62) (hy : y < 2 ^ 62) : bits .and .i64 (x : Int) (y : Int) = ((x &&& y : Nat) : Int) := by
  have h : bits .and .i64 (x : Int) (y : Int) = IntKind.i64.wrap ((BitVec.ofInt 64 (x : Int) &&& BitVec.ofInt 64 (y : Int)).toNat : Int) := rfl
  have hle : x &&& y ≤ x := Nat.and_le_left
  rw [h, BitVec.toNat_and]
  simp only [BitVec.ofInt_natCast, BitVec.toNat_ofNat]
  rw [Nat.mod_eq_of_lt (a := x) (by omega), Nat.mod_eq_of_lt (a := y) (by omega), IntKind.wrap_i64]
  omega

/-- The bits of a count of leaves and of one less. -/
theorem leaf_bits {n : Int} (h1 : 1 ≤ n) (h2 : n ≤ 65536) : bits .and .i64 n (n - 1) = ((n.toNat &&& (n.toNat - 1) : Nat) : Int) := by
  obtain ⟨m, rfl⟩ : ∃ m : Nat, n = m := ⟨n.toNat, by omega⟩
  have e : (m : Int) - 1 = ((m - 1 : Nat) : Int) := by omega
  rw [e, and_nat m (m - 1) (by omega) (by omega), Int.toNat_natCast]

theorem leaves_at (f : Nat) (hf : f = 34 ∨ f = 37) (n : Int) (w : World) : Calls Try.prog f #[.int .i64 n] w fun e w' => e = .returned (.bool (Ch.lf n)) ∧ w = w' := by
  by_cases h1 : 1 ≤ n
  · by_cases h2 : n ≤ 65536
    · have hb := leaf_bits h1 h2
      by_cases h3 : (n.toNat &&& (n.toNat - 1)) = 0
      · have hl : Ch.lf n = true := by unfold Ch.lf; simp [h1, h2, h3]
        rw [h3] at hb
        have hz : ((0 : Nat) : Int) = 0 := rfl
        rw [hz] at hb
        have HL := Lib.hid hl
        clear hl h3 hz
        rcases hf with rfl | rfl
        · go_enter Try.func34, Try.ntmps34
          go_wp2
          go_ret
          exact ⟨by rw [HL.out]; rfl, rfl⟩
        · go_enter Try.func37, Try.ntmps37
          go_wp2
          go_ret
          exact ⟨by rw [HL.out]; rfl, rfl⟩
      · have hl : Ch.lf n = false := by unfold Ch.lf; simp [h3]
        generalize (n.toNat &&& (n.toNat - 1)) = q at *
        have hq : ((q : Int) == 0) = false := by simp; omega
        have HL := Lib.hid hl
        clear hl
        rcases hf with rfl | rfl
        · go_enter Try.func34, Try.ntmps34
          go_wp2
          go_ret
          exact ⟨by rw [HL.out]; rfl, rfl⟩
        · go_enter Try.func37, Try.ntmps37
          go_wp2
          go_ret
          exact ⟨by rw [HL.out]; rfl, rfl⟩
    · have hl : Ch.lf n = false := by unfold Ch.lf; simp [h2]
      have HL := Lib.hid hl
      have hd : decide (n ≤ 65536) = false := by simpa using h2
      have hd1 : decide (1 ≤ n) = true := by simpa using h1
      clear hl
      rcases hf with rfl | rfl
      · go_enter Try.func34, Try.ntmps34
        go_wp2
        go_ret
        exact ⟨by rw [HL.out]; rfl, rfl⟩
      · go_enter Try.func37, Try.ntmps37
        go_wp2
        go_ret
        exact ⟨by rw [HL.out]; rfl, rfl⟩
  · have hl : Ch.lf n = false := by unfold Ch.lf; simp [h1]
    have HL := Lib.hid hl
    have hd1 : decide (1 ≤ n) = false := by simpa using h1
    clear hl
    rcases hf with rfl | rfl
    · go_enter Try.func34, Try.ntmps34
      go_wp2
      go_ret
      exact ⟨by rw [HL.out]; rfl, rfl⟩
    · go_enter Try.func37, Try.ntmps37
      go_wp2
      go_ret
      exact ⟨by rw [HL.out]; rfl, rfl⟩
theorem leaves_any (n : Int) (w : World) : Calls Try.prog 34 #[.int .i64 n] w fun e w' => e = .returned (.bool (Ch.lf n)) ∧ w = w' := leaves_at 34 (.inl rfl) n w
theorem rleaves_any (n : Int) (w : World) : Calls Try.prog 37 #[.int .i64 n] w fun e w' => e = .returned (.bool (Ch.lf n)) ∧ w = w' := leaves_at 37 (.inr rfl) n w

theorem conv_u32 (x : BitVec 32) : IntKind.i64.wrap (u x) = u x := by
  have := x.isLt
  unfold u
  rw [IntKind.wrap_i64]
  omega
/-- The draw's bits among leaves. -/
theorem mask_bits (x : BitVec 32) {n : Int} (h1 : 1 ≤ n) (h2 : n ≤ 65536) : bits .and .i64 (u x) (n - 1) = ((x.toNat &&& (n.toNat - 1) : Nat) : Int) := by
  obtain ⟨m, rfl⟩ : ∃ m : Nat, n = m := ⟨n.toNat, by omega⟩
  have e : (m : Int) - 1 = ((m - 1 : Nat) : Int) := by omega
  have := x.isLt
  rw [e]
  show bits .and .i64 ((x.toNat : Nat) : Int) _ = _
  rw [and_nat x.toNat (m - 1) (by omega) (by omega), Int.toNat_natCast]

theorem masked_any (x : BitVec 32) (n : Int) (w : World) : Calls Try.prog 38 #[.int .u32 (u x), .int .i64 n] w fun e w' => e = .returned (.int .i64 (Ch.msk x n)) ∧ w = w' := by
  by_cases h : Ch.lf n = true
  · have h1 := Ch.lf_lo h
    have h2 := Ch.lf_hi h
    have hm := mask_bits x h1 h2
    have hc := conv_u32 x
    have hv : Ch.msk x n = ((x.toNat &&& (n.toNat - 1) : Nat) : Int) := by unfold Ch.msk; rw [if_pos h]
    generalize x.toNat &&& (n.toNat - 1) = q at *
    have HV := Lib.hid hv
    have HH := Lib.hid h
    clear hv h
    go_enter Try.func38, Try.ntmps38
    go_wp2_with fail
    refine (rleaves_any _ _).mono ?_
    rintro e w' ⟨rfl, rfl⟩
    rw [HH.out]
    go_wp2_with fail
    go_ret
    exact ⟨by rw [HV.out]; rfl, rfl⟩
  · have h0 : Ch.lf n = false := by simpa using h
    have hv : Ch.msk x n = 0 := by unfold Ch.msk; rw [if_neg h]
    have HV := Lib.hid hv
    have HH := Lib.hid h0
    clear hv h h0
    go_enter Try.func38, Try.ntmps38
    go_wp2_with fail
    refine (rleaves_any _ _).mono ?_
    rintro e w' ⟨rfl, rfl⟩
    rw [HH.out]
    go_wp2_with fail
    go_ret
    exact ⟨by rw [HV.out]; rfl, rfl⟩
end Go.Proofs.Ytdkimnigckpncaa
