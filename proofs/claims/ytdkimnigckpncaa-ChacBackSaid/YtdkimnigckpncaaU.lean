/-
  The walks of Put: the program's own, and the document's.
-/
import Derived.Test.YtdkimnigckpncaaG
namespace Go.Proofs.Ytdkimnigckpncaa
open Go.RowKit

def cell8 (b : BitVec 8) : Value := .int .u8 (u b)
theorem Try.info5 : (Try.prog.info? 5).map (fun i => (i.zero, i.size, i.bytes)) = some (some (.int .u8 0), 1, 1) := by kernel_rfl
theorem shr_shr (x : BitVec 64) (k : Nat) : (x >>> (8 * k)) >>> 8 = x >>> (8 * (k + 1)) := by
  rw [← BitVec.shiftRight_add]
  rfl

set_option maxHeartbeats 1000000 in
theorem put_any (x : BitVec 64) (n : Nat) (hn : n ≤ 8) (w : World) : Calls Try.prog 48 #[.int .u64 (u x), .int .i64 (n : Int)] w fun e w' =>
    ∃ v, e = .returned v ∧ w'.ownsRow w.heap.size 5 1 v n ((Ch.pu x n).map cell8) ∧ Below w.heap.size w w' := by
  obtain ⟨i0, hi, hz0, hz1, hz2⟩ := info_parts Try.info5
  have e1 : ¬ (n : Int) < 0 := by omega
  have e2 : (n : Int) ≤ 8 := by omega
  go_enter Try.func48, Try.ntmps48
  go_wp2
  go_loopw [0, 5, 13] (fun a v i wr => ∃ k : Nat, k ≤ n ∧ i = .int .i64 k ∧ a = .int .u64 (u (x >>> (8 * k))) ∧ wr.ownsRow w.heap.size 5 1 v k ((Ch.pu x k).map cell8) ∧ Below w.heap.size w wr)
    (fun _ _ i _ => n - (intOf i).toNat)
  case atStart => exact ⟨0, Nat.zero_le _, rfl, rfl, World.ownsRow_nil _ _ _ _, Below.refl _ _⟩
  case round =>
    obtain ⟨k, hk, rfl, rfl, hown, hb⟩ := hrel
    have hcv := c_64_8 (x >>> (8 * k))
    have hsh : u (x >>> (8 * k)) / 256 = u (x >>> (8 * (k + 1))) := by rw [← shr_shr]; exact d_shr64 _ 8
    go_wp2_with (at_builtin; refine wpList_append_own _ rfl (.tmp 15) (.tmp 18) 32 rfl w.heap.size 5 i0 (.int .u8 0) 1 1 Try.underlying32 hi hz0 hz1 hz2 rfl (by decide) _ _ _ rfl (hown.alloc _) ⟨wr.heap.size, 0, none⟩ 1 1 [cell8 ((x >>> (8 * k)).setWidth 8)] rfl rfl ?c1 ?c2 ?c3 ?c4 ?c5 ?_)
    case c1 =>
      intro j v hj
      match j, hj with
      | 0, hj => simp at hj; subst hj; simp [Addr.add, cell8]
    case c2 => intro v hv; simp at hv; subst hv; rfl
    case c3 => unfold maxLen; omega
    case c4 => omega
    case c5 => have := hb.size; simp; omega
    · intro v' w1 hown' hgrow _
      have hlt : k < n := by assumption
      have hb1 := (hb.alloc hb.size (.cells #[cell8 ((x >>> (8 * k)).setWidth 8)] 5)).grown hgrow (by simp; have := hb.size; omega) (fun g hg => (hown.lt g hg).1)
      have ho : w1.ownsRow w.heap.size 5 1 v' (k + 1) ((Ch.pu x (k + 1)).map cell8) := by rw [Ch.pu, List.map_append]; exact hown'
      have HO := Lib.hid ho
      have HB := Lib.hid hb1
      clear hown' hgrow hown hb hb1 ho
      go_wp2
      go_roundw
      case rel => exact ⟨k + 1, by omega, by go_num, rfl, HO.out, HB.out⟩
      case measure => simp [intOf]; omega
    · have hkn : k = n := by omega
      subst hkn
      go_wp2
      go_ret
      exact ⟨_, rfl, hown, hb⟩

set_option maxHeartbeats 1000000 in
theorem rput_any (x : BitVec 64) (n : Nat) (hn : n ≤ 8) (w : World) : Calls Try.prog 51 #[.int .u64 (u x), .int .i64 (n : Int)] w fun e w' =>
    ∃ v, e = .returned v ∧ w'.ownsRow w.heap.size 5 1 v n ((Ch.pu x n).map cell8) ∧ Below w.heap.size w w' := by
  obtain ⟨i0, hi, hz0, hz1, hz2⟩ := info_parts Try.info5
  have e1 : ¬ (n : Int) < 0 := by omega
  have e2 : (n : Int) ≤ 8 := by omega
  go_enter Try.func51, Try.ntmps51
  go_wp2
  go_loopw [5, 6] (fun v i wr => ∃ k : Nat, k ≤ n ∧ i = .int .i64 k ∧ wr.ownsRow w.heap.size 5 1 v k ((Ch.pu x k).map cell8) ∧ Below w.heap.size w wr)
    (fun _ i _ => n - (intOf i).toNat)
  case atStart => exact ⟨0, Nat.zero_le _, rfl, World.ownsRow_nil _ _ _ _, Below.refl _ _⟩
  case round =>
    obtain ⟨k, hk, rfl, hown, hb⟩ := hrel
    have hcv := c_64_8 (x >>> (8 * k))
    have hsh := d_shr64 x (8 * k)
    have hw : IntKind.u64.wrap (8 * (k : Int)) = 8 * (k : Int) := by rw [IntKind.wrap_u64]; omega
    have h64 : min (8 * k) 64 = 8 * k := by omega
    go_wp2_with (at_builtin; refine wpList_append_own _ rfl (.tmp 18) (.tmp 25) 32 rfl w.heap.size 5 i0 (.int .u8 0) 1 1 Try.underlying32 hi hz0 hz1 hz2 rfl (by decide) _ _ _ rfl (hown.alloc _) ⟨wr.heap.size, 0, none⟩ 1 1 [cell8 ((x >>> (8 * k)).setWidth 8)] rfl rfl ?c1 ?c2 ?c3 ?c4 ?c5 ?_)
    case c1 =>
      intro j v hj
      match j, hj with
      | 0, hj => simp at hj; subst hj; simp [Addr.add, cell8]
    case c2 => intro v hv; simp at hv; subst hv; rfl
    case c3 => unfold maxLen; omega
    case c4 => omega
    case c5 => have := hb.size; simp; omega
    · intro v' w1 hown' hgrow _
      have hlt : k < n := by assumption
      have hb1 := (hb.alloc hb.size (.cells #[cell8 ((x >>> (8 * k)).setWidth 8)] 5)).grown hgrow (by simp; have := hb.size; omega) (fun g hg => (hown.lt g hg).1)
      have ho : w1.ownsRow w.heap.size 5 1 v' (k + 1) ((Ch.pu x (k + 1)).map cell8) := by rw [Ch.pu, List.map_append]; exact hown'
      have HO := Lib.hid ho
      have HB := Lib.hid hb1
      clear hown' hgrow hown hb hb1 ho
      go_wp2
      go_roundw
      case rel => exact ⟨k + 1, by omega, by go_num, HO.out, HB.out⟩
      case measure => simp [intOf]; omega
    · have hkn : k = n := by omega
      subst hkn
      go_wp2
      go_ret
      exact ⟨_, rfl, hown, hb⟩
end Go.Proofs.Ytdkimnigckpncaa
