/-
  The walks of a draw from a tape, the program's own and the document's.
-/
import Derived.Test.YtdkimnigckpncaaD2
namespace Go.Proofs.Ytdkimnigckpncaa
open Go.RowKit

/-- The numbers l lie at the slice's address. -/
def Rw (w : World) (A : Option Addr) (l : List (BitVec 32)) : Prop := ∀ i, i < l.length → ∃ ad, A = some ad ∧ w.cell? (ad.add i) = some (.int .u32 (u (l.getD i 0#32)))
theorem Rw.later {X Y : World} {A : Option Addr} {l : List (BitVec 32)} {b : Nat} (h : Rw X A l) (hA : ∀ ad, A = some ad → ad.block < b) (hb : ∀ k, k < b → Y.heap[k]? = X.heap[k]?) : Rw Y A l := by
  intro i hi
  obtain ⟨ad, e, hc⟩ := h i hi
  refine ⟨ad, e, ?_⟩
  rw [← hc]
  unfold World.cell?
  have : (ad.add i).block = ad.block := by unfold Addr.add; split <;> rfl
  rw [this, hb _ (hA ad e)]

set_option maxHeartbeats 400000 in
theorem taped_any (A : Option Addr) (n c : Nat) (l : List (BitVec 32)) (hl : l.length = n) (hn : n ≤ 9223372036854775807) (x : BitVec 64) (w : World) (hr : Rw w A l) :
    Calls Try.prog 39 #[.slice A n c, .int .u64 (u x)] w fun e w' => e = .returned (.int .u32 (u (Ch.tp l x))) ∧ w = w' := by
  have HL := Lib.hid hl
  have hwr : IntKind.u64.wrap (n : Int) = (n : Int) := by rw [IntKind.wrap_u64]; omega
  have ht : Ch.tp l x = l.getD x.toNat 0#32 := rfl
  have HT := Lib.hid ht
  clear hl ht
  show Calls Try.prog 39 #[.slice A n c, .int .u64 ((x.toNat : Nat) : Int)] w _
  generalize x.toNat = k at *
  by_cases hk : k < n
  · obtain ⟨ad, rfl, hc⟩ := hr k (by have := HL.out; omega)
    have hb : ¬ (n : Int) ≤ (k : Int) := by omega
    clear hr
    go_enter Try.func39, Try.ntmps39
    go_wp2
    go_ret
    exact ⟨by rw [HT.out]; rfl, rfl⟩
  · have hb : (n : Int) ≤ (k : Int) := by omega
    have HZ : Hid (l.getD k 0#32 = 0#32) := by
      show _ = _
      rw [List.getD_eq_getElem?_getD, List.getElem?_eq_none (by have := HL.out; omega)]; rfl
    clear hr
    go_enter Try.func39, Try.ntmps39
    go_wp2
    go_ret
    exact ⟨by rw [HT.out, HZ.out]; rfl, rfl⟩

set_option maxHeartbeats 400000 in
theorem draw_t {w : World} {B : Nat} {A : Option Addr} {n c : Nat} {key : List (BitVec 8)} {nx : BitVec 64} (h : Sc w B (.slice A n c) false key nx) (l : List (BitVec 32)) (hl : l.length = n) (hn : n ≤ 9223372036854775807) (hr : Rw w A l) (x : BitVec 64) :
    Calls Try.prog 50 #[.pointer (some ⟨B, 0, none⟩), .int .u64 (u x)] w fun e w' => e = .returned (.int .u32 (u (Ch.tp l x))) ∧ w = w' := by
  have hc0 := h.c0
  have hc1 := h.c1
  have HL := Lib.hid hl
  have hwr : IntKind.u64.wrap (n : Int) = (n : Int) := by rw [IntKind.wrap_u64]; omega
  have ht : Ch.tp l x = l.getD x.toNat 0#32 := rfl
  have HT := Lib.hid ht
  clear hl ht h
  show Calls Try.prog 50 #[.pointer (some ⟨B, 0, none⟩), .int .u64 ((x.toNat : Nat) : Int)] w _
  generalize x.toNat = k at *
  by_cases hk : k < n
  · obtain ⟨ad, rfl, hc⟩ := hr k (by have := HL.out; omega)
    have hb : (k : Int) < (n : Int) := by omega
    clear hr
    go_enter Try.func50, Try.ntmps50
    go_wp2
    go_ret
    exact ⟨by rw [HT.out]; rfl, rfl⟩
  · have hb : ¬ (k : Int) < (n : Int) := by omega
    have HZ : Hid (l.getD k 0#32 = 0#32) := by
      show _ = _
      rw [List.getD_eq_getElem?_getD, List.getElem?_eq_none (by have := HL.out; omega)]; rfl
    clear hr
    go_enter Try.func50, Try.ntmps50
    go_wp2
    go_ret
    exact ⟨by rw [HT.out, HZ.out]; rfl, rfl⟩
end Go.Proofs.Ytdkimnigckpncaa
