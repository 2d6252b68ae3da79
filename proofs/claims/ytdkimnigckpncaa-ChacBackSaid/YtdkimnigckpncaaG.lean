/-
  The walks of Get: the program's own, and the document's.
-/
import Derived.Test.YtdkimnigckpncaaE
import Derived.Test.YtdkimnigckpncaaC
import Derived.WalkSpells
import Derived.WalkLawsBesides
namespace Go.Proofs.Ytdkimnigckpncaa
open Go.RowKit

theorem c_8_64 (b : BitVec 8) : IntKind.u64.wrap (u b) = u (b.setWidth 64) := by
  unfold u
  rw [IntKind.wrap_u64, BitVec.toNat_setWidth]
  have := b.isLt
  omega
theorem c_64_8 (x : BitVec 64) : IntKind.u8.wrap (u x) = u (x.setWidth 8) := by
  unfold u
  rw [wr8, BitVec.toNat_ofNat, BitVec.toNat_setWidth]
theorem c_64_32 (x : BitVec 64) : IntKind.u32.wrap (u x) = u (x.setWidth 32) := by
  unfold u
  rw [wr32, BitVec.toNat_ofNat, BitVec.toNat_setWidth]
theorem c_32_64 (x : BitVec 32) : IntKind.u64.wrap (u x) = u (x.setWidth 64) := by
  unfold u
  rw [IntKind.wrap_u64, BitVec.toNat_setWidth]
  have := x.isLt
  omega
theorem wrap_self (x : BitVec 64) : IntKind.u64.wrap (x.toNat : Int) = (x.toNat : Int) := by
  rw [IntKind.wrap_u64]; have := x.isLt; omega
theorem b_or64 (x y : BitVec 64) : bits .or .u64 (u x) (u y) = u (x ||| y) := by
  show IntKind.u64.wrap ((BitVec.ofInt 64 (x.toNat : Int) ||| BitVec.ofInt 64 (y.toNat : Int)).toNat : Int) = _
  rw [ofI, ofI, wrap_self]
  rfl
theorem shl64 (x : BitVec 64) (yk : IntKind) (k : Nat) (hk : k < 64) : Op.shift .shl .u64 (u x) yk (k : Int) = pure (.int .u64 (u (x <<< k))) := by
  have e : min (k : Int).toNat 64 = k := by omega
  have h : IntKind.u64.wrap ((x.toNat : Int) * 2 ^ k) = ((x <<< k).toNat : Int) := by
    rw [BitVec.toNat_shiftLeft, Nat.shiftLeft_eq]
    have := wr64 (x.toNat * 2 ^ k)
    rw [BitVec.toNat_ofNat] at this
    rw [← this]
    simp
  unfold Op.shift
  rw [if_neg (by omega)]
  show (pure (.int .u64 (IntKind.u64.wrap ((x.toNat : Int) * 2 ^ (min (k : Int).toNat 64)))) : Sem Value) = _
  rw [e, h]
  rfl
theorem m_shl64 (x : BitVec 64) (k : Nat) : IntKind.u64.wrap (u x * 2 ^ k) = u (x <<< k) := by
  unfold u
  rw [BitVec.toNat_shiftLeft, Nat.shiftLeft_eq]
  have := wr64 (x.toNat * 2 ^ k)
  rw [BitVec.toNat_ofNat] at this
  rw [← this]
  simp
theorem d_shr64 (x : BitVec 64) (k : Nat) : u x / 2 ^ k = u (x >>> k) := by
  unfold u
  rw [BitVec.toNat_ushiftRight, Nat.shiftRight_eq_div_pow, Int.natCast_ediv]
  simp

/-- The bytes l lie at the slice's address. -/
def Rd (w : World) (A : Option Addr) (l : List (BitVec 8)) : Prop := ∀ i, i < l.length → ∃ ad, A = some ad ∧ w.cell? (ad.add i) = some (.int .u8 (u (l.getD i 0#8)))

theorem ge_nil : Ch.ge [] = 0#64 := rfl
theorem zero64 : u (0#64) = 0 := rfl

set_option maxHeartbeats 400000 in
theorem get_any (A : Option Addr) (n c : Nat) (l : List (BitVec 8)) (hl : l.length = n) (hn : n ≤ 9223372036854775807) (w : World) (hr : Rd w A l) :
    Calls Try.prog 47 #[.slice A n c] w fun e w' => e = .returned (.int .u64 (u (Ch.ge (l.take 8)))) ∧ w = w' := by
  have H8 : (l.take 8).length ≤ n := by simp; omega
  have HL := Lib.hid hl
  clear hl
  have hs : ∀ x : BitVec 64, Op.shift .shl .u64 (u x) .u64 8 = pure (.int .u64 (u (x <<< 8))) := fun x => shl64 x .u64 8 (by decide)
  by_cases h8 : 8 < (n : Int)
  all_goals
    obtain ⟨m, hm⟩ : ∃ m, m = (l.take 8).length := ⟨_, rfl⟩
    have hm2 : m = min 8 n := by rw [hm, List.length_take, HL.out]
    have HM := Lib.hid hm
    have HM2 := Lib.hid hm2
    rw [← hm] at H8
    clear hm hm2
    go_enter Try.func47, Try.ntmps47
    go_wp2
    go_loop [3, 4] (fun o i => ∃ (j : Nat) (i' : Int), j ≤ m ∧ i = .int .i64 i' ∧ Hid (i' + 1 = j) ∧ o = .int .u64 (u (Ch.ge ((l.take 8).drop j)))) (fun _ i => (intOf i + 1).toNat)
    case atStart => exact ⟨m, _, Nat.le_refl _, rfl, by show _ = _; have := HM2.out; omega, by rw [List.drop_of_length_le (by rw [HM.out]; exact Nat.le_refl _)]; rfl⟩
    case round =>
      obtain ⟨j, i', hj, rfl, hi, rfl⟩ := hrel
      by_cases h0 : j = 0
      · subst h0
        have hneg : i' < 0 := by have := hi.out; omega
        go_wp2
        go_ret
        exact ⟨rfl, rfl⟩
      · obtain ⟨k, rfl⟩ : ∃ k, j = k + 1 := ⟨j - 1, by omega⟩
        obtain rfl : i' = (k : Int) := by have := hi.out; omega
        clear hi h0
        have hk8 : k < (l.take 8).length := by rw [← HM.out]; omega
        have hkl : k < l.length := by rw [List.length_take] at hk8; omega
        have hkn : (k : Int) < (n : Int) := by have := HL.out; omega
        obtain ⟨ad, rfl, hc⟩ := hr k hkl
        have hd := Lib.hid (Ch.ge_drop (l.take 8) k hk8)
        have e9 : (l.take 8).getD k 0#8 = l.getD k 0#8 := by
          rw [List.getD_eq_getElem?_getD, List.getD_eq_getElem?_getD, List.getElem?_take, if_pos (by have := HM2.out; omega)]
        rw [e9] at hd
        obtain ⟨b, hb⟩ : ∃ b, b = l.getD k 0#8 := ⟨_, rfl⟩
        rw [← hb] at hd hc
        have hcv := c_8_64 b
        have hor := fun x y => b_or64 x y
        clear hb e9 hk8 hkl hr
        go_wp2
        go_round
        case rel => exact ⟨k, k - 1, by omega, rfl, by show _ = _; omega, by rw [hd.out]⟩
        case measure => simp [intOf]

set_option maxHeartbeats 400000 in
theorem rget_any (A : Option Addr) (n c : Nat) (l : List (BitVec 8)) (hl : l.length = n) (hn : n ≤ 9223372036854775807) (w : World) (hr : Rd w A l) :
    Calls Try.prog 30 #[.slice A n c] w fun e w' => e = .returned (.int .u64 (u (Ch.ge (l.take 8)))) ∧ w = w' := by
  have HL := Lib.hid hl
  clear hl
  go_enter Try.func30, Try.ntmps30
  go_wp2
  go_loop [3, 4] (fun o i => ∃ k : Nat, k ≤ n ∧ k ≤ 8 ∧ i = .int .i64 k ∧ o = .int .u64 (u (Ch.ge (l.take k)))) (fun _ i => 8 - (intOf i).toNat)
  case atStart => exact ⟨0, Nat.zero_le _, by omega, rfl, rfl⟩
  case round =>
    obtain ⟨k, hkn, hk8, rfl, rfl⟩ := hrel
    by_cases h1 : k < n
    · by_cases h2 : k < 8
      · have hkl : k < l.length := by have := HL.out; omega
        obtain ⟨ad, rfl, hc⟩ := hr k hkl
        have hd := Lib.hid (Ch.ge_take_succ l k hkl)
        obtain ⟨b, hb⟩ : ∃ b, b = l.getD k 0#8 := ⟨_, rfl⟩
        rw [← hb] at hd hc
        have hcv := c_8_64 b
        have hor := fun x y => b_or64 x y
        have hk3 : (k : Int) < (n : Int) := by omega
        have hk4 : (k : Int) < 8 := by omega
        have hs := m_shl64 (b.setWidth 64) (8 * k)
        have hw : IntKind.u64.wrap (8 * (k : Int)) = 8 * (k : Int) := by rw [IntKind.wrap_u64]; omega
        clear hb hkl hr
        go_wp2
        go_round
        case rel => exact ⟨k + 1, by omega, by omega, by go_num, by rw [hd.out]⟩
        case measure => simp [intOf]; omega
      · have e8 : k = 8 := by omega
        subst e8
        have h3 : (8 : Int) < (n : Int) := by omega
        go_wp2
        go_ret
        exact ⟨rfl, rfl⟩
    · have e8 : k = n := by omega
      subst e8
      have hall : l.take k = l.take 8 := by rw [List.take_of_length_le (by rw [HL.out]; exact Nat.le_refl _), List.take_of_length_le (by rw [HL.out]; exact hk8)]
      rw [hall]
      clear hall
      go_wp2
      go_ret
      exact ⟨rfl, rfl⟩
end Go.Proofs.Ytdkimnigckpncaa
