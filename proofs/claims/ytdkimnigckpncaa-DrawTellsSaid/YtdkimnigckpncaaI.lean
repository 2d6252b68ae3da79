/-
  Rows of numbers that came in: what of them can be read.
-/
import Derived.Test.YtdkimnigckpncaaB
import Derived.WalkKit
namespace Go.Proofs.Ytdkimnigckpncaa
open Go.RowKit

/-- The numbers l lie at the slice's address. -/
def RWx (w : World) (A : Option Addr) (l : List (BitVec 32)) : Prop := ∀ i, i < l.length → ∃ ad, A = some ad ∧ w.cell? (ad.add i) = some (.int .u32 (u (l.getD i 0#32)))
theorem RWx.later {X Y : World} {A : Option Addr} {l : List (BitVec 32)} (h : RWx X A l) (hb : Below X.heap.size X Y) : RWx Y A l := by
  intro i hi
  obtain ⟨ad, e, hc⟩ := h i hi
  refine ⟨ad, e, ?_⟩
  rw [← hc]
  exact World.cell?_of_block (w := X) (hb.block _ (World.block_lt_of_cell? X _ hc))
/-- A row of numbers that came in: what of it can be read. -/
structure IsW (w : World) (A : Option Addr) (n cap : Nat) (l : List (BitVec 32)) : Prop where
  len : l.length = n
  rd : RWx w A l
  nl : A = none → n = 0 ∧ cap = 0
  cp : n ≤ cap
  mx : cap ≤ maxLen
theorem IsW.later {X Y : World} {A : Option Addr} {n cap : Nat} {l : List (BitVec 32)} (h : IsW X A n cap l) (hb : Below X.heap.size X Y) : IsW Y A n cap l := ⟨h.len, h.rd.later hb, h.nl, h.cp, h.mx⟩

/-- The numbers l lie at the slice's address. -/
def RIx (w : World) (A : Option Addr) (l : List Int) : Prop := ∀ i, i < l.length → ∃ ad, A = some ad ∧ w.cell? (ad.add i) = some (.int .i64 (l.getD i 0))
theorem RIx.later {X Y : World} {A : Option Addr} {l : List Int} (h : RIx X A l) (hb : Below X.heap.size X Y) : RIx Y A l := by
  intro i hi
  obtain ⟨ad, e, hc⟩ := h i hi
  refine ⟨ad, e, ?_⟩
  rw [← hc]
  exact World.cell?_of_block (w := X) (hb.block _ (World.block_lt_of_cell? X _ hc))
/-- A row of numbers that came in: what of it can be read. -/
structure IsI (w : World) (A : Option Addr) (n cap : Nat) (l : List Int) : Prop where
  len : l.length = n
  rd : RIx w A l
  nl : A = none → n = 0 ∧ cap = 0
  cp : n ≤ cap
  mx : cap ≤ maxLen
theorem IsI.later {X Y : World} {A : Option Addr} {n cap : Nat} {l : List Int} (h : IsI X A n cap l) (hb : Below X.heap.size X Y) : IsI Y A n cap l := ⟨h.len, h.rd.later hb, h.nl, h.cp, h.mx⟩

/-- The numbers l lie at the slice's address. -/
def RUx (w : World) (A : Option Addr) (l : List (BitVec 64)) : Prop := ∀ i, i < l.length → ∃ ad, A = some ad ∧ w.cell? (ad.add i) = some (.int .u64 (u (l.getD i 0#64)))
theorem RUx.later {X Y : World} {A : Option Addr} {l : List (BitVec 64)} (h : RUx X A l) (hb : Below X.heap.size X Y) : RUx Y A l := by
  intro i hi
  obtain ⟨ad, e, hc⟩ := h i hi
  refine ⟨ad, e, ?_⟩
  rw [← hc]
  exact World.cell?_of_block (w := X) (hb.block _ (World.block_lt_of_cell? X _ hc))
/-- A row of numbers that came in: what of it can be read. -/
structure IsU (w : World) (A : Option Addr) (n cap : Nat) (l : List (BitVec 64)) : Prop where
  len : l.length = n
  rd : RUx w A l
  nl : A = none → n = 0 ∧ cap = 0
  cp : n ≤ cap
  mx : cap ≤ maxLen
theorem IsU.later {X Y : World} {A : Option Addr} {n cap : Nat} {l : List (BitVec 64)} (h : IsU X A n cap l) (hb : Below X.heap.size X Y) : IsU Y A n cap l := ⟨h.len, h.rd.later hb, h.nl, h.cp, h.mx⟩
end Go.Proofs.Ytdkimnigckpncaa
