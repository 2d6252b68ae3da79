/-
  The model's operations on unsigned numbers, told by bit vectors: for the walks.
-/
import Derived.Test.YtdkimnigckpncaaRows
import Derived.WalkKit
namespace Go.Proofs.Ytdkimnigckpncaa
open Go.RowKit

/-- A bit vector as the number that a Go value of an unsigned kind holds (a plain definition: simp does not look behind it). -/
def u {n : Nat} (x : BitVec n) : Int := (x.toNat : Int)
theorem u_nonneg {n : Nat} (x : BitVec n) : 0 ≤ u x := Int.natCast_nonneg _
theorem u_inj {n : Nat} {x y : BitVec n} (h : u x = u y) : x = y := BitVec.eq_of_toNat_eq (Int.ofNat.inj h)

theorem ofI (n : Nat) (x : BitVec n) : BitVec.ofInt n (x.toNat : Int) = x := by
  rw [BitVec.ofInt_natCast, BitVec.ofNat_toNat, BitVec.setWidth_eq]

theorem wr32 (n : Nat) : IntKind.u32.wrap (n : Int) = ((BitVec.ofNat 32 n).toNat : Int) := by
  simp [IntKind.wrap, IntKind.bits, IntKind.signed, BitVec.toNat_ofNat]
theorem wr8 (n : Nat) : IntKind.u8.wrap (n : Int) = ((BitVec.ofNat 8 n).toNat : Int) := by
  simp [IntKind.wrap, IntKind.bits, IntKind.signed, BitVec.toNat_ofNat]
theorem wr64 (n : Nat) : IntKind.u64.wrap (n : Int) = ((BitVec.ofNat 64 n).toNat : Int) := by
  simp [IntKind.wrap, IntKind.bits, IntKind.signed, BitVec.toNat_ofNat]

section
variable (t : TypeId) (x y : BitVec 32)
theorem add32 : binOp .add t (.int .u32 (u x)) (.int .u32 (u y)) = pure (.int .u32 (u (x + y))) := by
  have h : IntKind.u32.wrap ((x.toNat : Int) + (y.toNat : Int)) = ((x + y).toNat : Int) := by
    rw [← Int.natCast_add, wr32, ← BitVec.ofNat_add_ofNat, BitVec.ofNat_toNat, BitVec.ofNat_toNat, BitVec.setWidth_eq, BitVec.setWidth_eq]
  unfold u
  simp [binOp, Op.intArith, h]
theorem xor32 : binOp .xor t (.int .u32 (u x)) (.int .u32 (u y)) = pure (.int .u32 (u (x ^^^ y))) := by
  have h := wr32 (x ^^^ y).toNat
  rw [BitVec.ofNat_toNat, BitVec.setWidth_eq] at h
  show (pure (.int .u32 (IntKind.u32.wrap ((BitVec.ofInt 32 (x.toNat : Int) ^^^ BitVec.ofInt 32 (y.toNat : Int)).toNat : Int))) : Sem Value) = _
  rw [ofI, ofI, h]
  rfl
theorem or32 : binOp .or t (.int .u32 (u x)) (.int .u32 (u y)) = pure (.int .u32 (u (x ||| y))) := by
  have h := wr32 (x ||| y).toNat
  rw [BitVec.ofNat_toNat, BitVec.setWidth_eq] at h
  show (pure (.int .u32 (IntKind.u32.wrap ((BitVec.ofInt 32 (x.toNat : Int) ||| BitVec.ofInt 32 (y.toNat : Int)).toNat : Int))) : Sem Value) = _
  rw [ofI, ofI, h]
  rfl
theorem sub32 : binOp .sub t (.int .u32 (u x)) (.int .u32 (u y)) = pure (.int .u32 (u (x - y))) := by
  have h : IntKind.u32.wrap ((x.toNat : Int) - (y.toNat : Int)) = ((x - y).toNat : Int) := by
    rw [BitVec.toNat_sub]
    simp [IntKind.wrap, IntKind.bits, IntKind.signed]
    omega
  unfold u
  simp [binOp, Op.intArith, h]
theorem shl32 (yk : IntKind) (k : Nat) (hk : k < 32) : Op.shift .shl .u32 (u x) yk (k : Int) = pure (.int .u32 (u (x <<< k))) := by
  have e : min (k : Int).toNat 32 = k := by omega
  have h : IntKind.u32.wrap ((x.toNat : Int) * 2 ^ k) = ((x <<< k).toNat : Int) := by
    rw [BitVec.toNat_shiftLeft, Nat.shiftLeft_eq]
    have := wr32 (x.toNat * 2 ^ k)
    rw [BitVec.toNat_ofNat] at this
    rw [← this]
    simp
  unfold Op.shift
  rw [if_neg (by omega)]
  show (pure (.int .u32 (IntKind.u32.wrap ((x.toNat : Int) * 2 ^ (min (k : Int).toNat 32)))) : Sem Value) = _
  rw [e, h]
  rfl
theorem shr32 (yk : IntKind) (k : Nat) (hk : k < 32) : Op.shift .shr .u32 (u x) yk (k : Int) = pure (.int .u32 (u (x >>> k))) := by
  have e : min (k : Int).toNat 32 = k := by omega
  have h : (x.toNat : Int).fdiv (2 ^ k) = ((x >>> k).toNat : Int) := by
    rw [BitVec.toNat_ushiftRight, Nat.shiftRight_eq_div_pow, Int.natCast_ediv]
    rw [Int.fdiv_eq_ediv_of_nonneg _ (by exact_mod_cast Nat.zero_le (2 ^ k))]
    simp
  unfold Op.shift
  rw [if_neg (by omega)]
  show (pure (.int .u32 ((x.toNat : Int).fdiv (2 ^ (min (k : Int).toNat 32)))) : Sem Value) = _
  rw [e, h]
  rfl
theorem w_add : IntKind.u32.wrap (u x + u y) = u (x + y) := by
  have h := add32 0 x y
  simp only [binOp, Op.intArith] at h
  injection h with h
  injection h with _ h
theorem m_add : (u x + u y) % 4294967296 = u (x + y) := by
  rw [← w_add]; simp [IntKind.wrap, IntKind.bits, IntKind.signed]
theorem w_sub : IntKind.u32.wrap (u x - u y) = u (x - y) := by
  have h := sub32 0 x y
  simp only [binOp, Op.intArith] at h
  injection h with h
  injection h with _ h
theorem m_sub : (u x - u y) % 4294967296 = u (x - y) := by
  rw [← w_sub]; simp [IntKind.wrap, IntKind.bits, IntKind.signed]
theorem b_xor : bits .xor .u32 (u x) (u y) = u (x ^^^ y) := by
  have h := xor32 0 x y
  injection h with h
  injection h with _ h
theorem b_or : bits .or .u32 (u x) (u y) = u (x ||| y) := by
  have h := or32 0 x y
  injection h with h
  injection h with _ h
theorem d_shr (k : Nat) : u x / 2 ^ k = u (x >>> k) := by
  unfold u
  rw [BitVec.toNat_ushiftRight, Nat.shiftRight_eq_div_pow, Int.natCast_ediv]
  simp
end

end Go.Proofs.Ytdkimnigckpncaa
