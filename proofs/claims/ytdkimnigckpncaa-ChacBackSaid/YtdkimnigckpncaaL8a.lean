/-
  The bits of numbers under a mask.
-/
import Derived.Test.YtdkimnigckpncaaB
namespace Go.Proofs.Ytdkimnigckpncaa
open Go.RowKit

theorem and_masked (n : Int) (m : Nat) (hm : m < 9223372036854775808) : ∃ k : Nat, k ≤ m ∧ bits .and .i64 n (m : Int) = (k : Int) := by
  have h : bits .and .i64 n (m : Int) = IntKind.i64.wrap ((BitVec.ofInt 64 n &&& BitVec.ofInt 64 (m : Int)).toNat : Int) := rfl
  have hle : (BitVec.ofInt 64 n &&& BitVec.ofInt 64 (m : Int)).toNat ≤ m := by
    rw [BitVec.toNat_and]
    refine Nat.le_trans Nat.and_le_right ?_
    simp
    omega
  refine ⟨(BitVec.ofInt 64 n &&& BitVec.ofInt 64 (m : Int)).toNat, hle, ?_⟩
  rw [h, IntKind.wrap_i64]
  omega
end Go.Proofs.Ytdkimnigckpncaa
