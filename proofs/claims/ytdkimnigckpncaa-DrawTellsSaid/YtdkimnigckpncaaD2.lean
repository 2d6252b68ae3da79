/-
  Sources of draws in memory; the walks of Used and Seek.
-/
import Derived.Test.YtdkimnigckpncaaD
import Derived.Test.YtdkimnigckpncaaV3
namespace Go.Proofs.Ytdkimnigckpncaa
open Go.RowKit

/-- The cells of a source. -/
def src (tv : Value) (st : Bool) (key : List (BitVec 8)) (nx : BitVec 64) : Array Value := (tv :: .bool st :: (key.map cell8 ++ [.int .u64 (u nx)])).toArray
/-- A source lies in block B. -/
structure Sc (w : World) (B : Nat) (tv : Value) (st : Bool) (key : List (BitVec 8)) (nx : BitVec 64) : Prop where
  hp : w.heap[B]? = some (.cells (src tv st key nx) 71 (0, 0))
  kl : key.length = 32
section
variable {w : World} {B : Nat} {tv : Value} {st : Bool} {key : List (BitVec 8)} {nx : BitVec 64} (h : Sc w B tv st key nx)
include h
theorem Sc.c0 : w.cell? ⟨B, 0, none⟩ = some tv := by rw [cell_of_row w B 0 _ 71 (0, 0) h.hp]; rfl
theorem Sc.c1 : w.cell? ⟨B, 1, none⟩ = some (.bool st) := by rw [cell_of_row w B 1 _ 71 (0, 0) h.hp]; rfl
theorem Sc.c34 : w.cell? ⟨B, 34, none⟩ = some (.int .u64 (u nx)) := by
  rw [cell_of_row w B 34 _ 71 (0, 0) h.hp]
  have e : (key.map cell8).length = 32 := by simp [h.kl]
  simp [src, h.kl]
theorem Sc.free (j : Nat) : w.frozen? ⟨B, j, none⟩ = false := frozen_of_row _ B j _ 71 h.hp
theorem Sc.lt : B < w.heap.size := by
  rcases Nat.lt_or_ge B w.heap.size with k | k
  · exact k
  · have := h.hp; rw [Array.getElem?_eq_none k] at this; cases this
theorem Sc.seek (nx' : BitVec 64) : Sc (w.setCell ⟨B, 34, none⟩ (.int .u64 (u nx'))) B tv st key nx' := by
  refine ⟨?_, h.kl⟩
  rw [heap_setCell_same w B 34 _ 71 _ h.hp]
  congr 2
  unfold src
  rw [List.setIfInBounds_toArray]
  congr 1
  rw [List.set_cons_succ, List.set_cons_succ, List.set_append, if_neg (by simp [h.kl])]
  simp [h.kl]
theorem Sc.later {w' : World} {r : Option Nat} (g : w.grownBy w' r) (hr : r ≠ some B) : Sc w' B tv st key nx :=
  ⟨(g.block B h.lt (fun e => hr e.symm)).trans h.hp, h.kl⟩
theorem Sc.below {w' : World} {b : Nat} (g : Below b w w') (hb : B < b) : Sc w' B tv st key nx := ⟨(g.block B hb).trans h.hp, h.kl⟩
end
theorem grown_set (w : World) (B j : Nat) (v : Value) : w.grownBy (w.setCell ⟨B, j, none⟩ v) (some B) :=
  ⟨rfl, rfl, rfl, by simp [World.setCell], fun i _ hne => heap_setCell_other w ⟨B, j, none⟩ i v (fun e => hne (by rw [e]))⟩
theorem grown_refl (w : World) (r : Option Nat) : w.grownBy w r := ⟨rfl, rfl, rfl, Nat.le_refl _, fun _ _ _ => rfl⟩
theorem grown_trans {a b c : World} {r : Option Nat} (h : a.grownBy b r) (k : b.grownBy c r) : a.grownBy c r :=
  ⟨k.os.trans h.os, k.tape.trans h.tape, k.output.trans h.output, Nat.le_trans h.size k.size, fun i hi hn => (k.block i (Nat.lt_of_lt_of_le hi h.size) hn).trans (h.block i hi hn)⟩
theorem grown_of {a b : World} (h : Below a.heap.size a b) (r : Option Nat) : a.grownBy b r :=
  ⟨h.os, h.tape, h.output, h.size, fun i hi _ => h.block i hi⟩

set_option maxHeartbeats 400000 in
theorem used_any {w : World} {B : Nat} {tv : Value} {st : Bool} {key : List (BitVec 8)} {nx : BitVec 64} (h : Sc w B tv st key nx) :
    Calls Try.prog 35 #[.pointer (some ⟨B, 0, none⟩)] w fun e w' => e = .returned (.int .u64 (u nx)) ∧ w = w' := by
  have hc := h.c34
  clear h
  go_enter Try.func35, Try.ntmps35
  go_wp2
  go_ret
  exact ⟨rfl, rfl⟩
set_option maxHeartbeats 400000 in
theorem seek_any {w : World} {B : Nat} {tv : Value} {st : Bool} {key : List (BitVec 8)} {nx : BitVec 64} (h : Sc w B tv st key nx) (n : BitVec 64) :
    Calls Try.prog 41 #[.pointer (some ⟨B, 0, none⟩), .int .u64 (u n)] w fun e w' => e = .returned (.tuple #[]) ∧ Sc w' B tv st key n ∧ w.grownBy w' (some B) := by
  have hc := h.c34
  have hf := h.free 34
  have H1 := Lib.hid (h.seek n)
  clear h
  go_enter Try.func41, Try.ntmps41
  go_wp2
  go_end0
  exact ⟨rfl, H1.out, grown_set _ _ _ _⟩
end Go.Proofs.Ytdkimnigckpncaa
