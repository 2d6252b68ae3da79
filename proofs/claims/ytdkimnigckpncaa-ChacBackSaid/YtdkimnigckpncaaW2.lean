/-
  Words for the walks of the double rounds: a state of sixteen words in a block, the table of places, what the world is behind each store.
-/
import Derived.Test.YtdkimnigckpncaaW1
import Derived.Test.YtdkimnigckpncaaT
import Derived.Deep.WholeRow
import Derived.Deep.MidRow
import Derived.Lib.Hide
namespace Go.Proofs.Ytdkimnigckpncaa
open Go.RowKit

def i64s (l : List Nat) : Array Value := (l.map fun n : Nat => Value.int .i64 (n : Int)).toArray
def tab : Array Value := i64s (Qu.places.flatMap fun p => [p.1, p.2.1, p.2.2.1, p.2.2.2])
def row4 (p : Nat × Nat × Nat × Nat) : Array Value := #[.int .i64 (p.1 : Int), .int .i64 (p.2.1 : Int), .int .i64 (p.2.2.1 : Int), .int .i64 (p.2.2.2 : Int)]
def c32 (s : List (BitVec 32)) : Array Value := (s.map fun x => Value.int .u32 (u x)).toArray
theorem c32_size (s : List (BitVec 32)) : (c32 s).size = s.length := by simp [c32]
theorem c32_get (s : List (BitVec 32)) (j : Nat) (hj : j < s.length) : (c32 s)[j]? = some (.int .u32 (u (Qu.wd s j))) := by
  simp [c32, Qu.wd, hj]
theorem c32_set (s : List (BitVec 32)) (j : Nat) (x : BitVec 32) : (c32 s).setIfInBounds j (.int .u32 (u x)) = c32 (s.set j x) := by
  simp [c32, List.map_set]
theorem c32_one (s : List (BitVec 32)) : ∀ v ∈ (c32 s).toList, v.oneCell' = true := by
  intro v hv
  simp [c32] at hv
  obtain ⟨x, _, rfl⟩ := hv
  rfl
theorem places_mem {k : Nat} (h : k < 8) : Qu.places.getD k default ∈ Qu.places := by
  have : Qu.places.length = 8 := rfl
  rw [List.getD_eq_getElem?_getD, List.getElem?_eq_getElem (by omega)]
  exact List.getElem_mem _
theorem tab_row (k : Nat) (hk : k < 8) (W : World) : (Instr.index 66 (.agg tab) (.int .i64 k)).run Try.prog W = .ok (.agg (row4 (Qu.places.getD k default))) W := by
  rcases (by omega : k = 0 ∨ k = 1 ∨ k = 2 ∨ k = 3 ∨ k = 4 ∨ k = 5 ∨ k = 6 ∨ k = 7) with rfl | rfl | rfl | rfl | rfl | rfl | rfl | rfl <;> kernel_rfl

/-- A whole array stored into a block of its own. -/
theorem wpList_store_row {P : Program} {ops : Array Oper} {rest : List Oper} {op : Oper} {a : Act} {w : World} {Q : Exit → Act → World → Prop} (hgd : op.guard = none) (ty : TypeId) (x y : Operand) (ho : op.op = .store ty x y)
    (g : Nat) (t : TypeId) (old cells : Array Value) (hx : a.eval x = .pointer (some ⟨g, 0, none⟩)) (hy : a.eval y = .agg cells)
    (hg : w.heap[g]? = some (.cells old t (0, 0))) (hi : (P.info? ty).map (·.size) = some cells.size) (hs : old.size = cells.size) (h1 : cells.all (·.oneCell') = true)
    (h : wpList P ops Q rest (a.put op.dst undef) (w.setRow g cells)) : wpList P ops Q (op :: rest) a w :=
  wpList_plain hgd fun _ hK => by
    unfold Oper.wp execOp
    simp only [ho, hx, hy, Instr.storeAt, Instr.sureAddr, Sem.run_bind, Sem.run_pure, Result.andThen_ok, run_storeVar_row w g t ty old cells hg hi hs h1]
    exact hK _ _ h
theorem below_row {B : Nat} {a w : World} (h : Below B a w) {g : Nat} (hg : B ≤ g) (cs : Array Value) : Below B a (w.setRow g cs) :=
  h.trans ⟨rfl, rfl, rfl, by simp, fun k hk => setRow_other w g k cs (by omega)⟩
theorem c32_all (s : List (BitVec 32)) : (c32 s).all (·.oneCell') = true :=
  Array.all_eq_true_iff_forall_mem.2 (fun v hv => c32_one s v (by simpa using hv))
theorem info23 : (Try.prog.info? 23).map (·.size) = some 16 := by kernel_rfl

theorem grown_below {B b : Nat} {w wr X : World} (h : Below B w wr) (hg : wr.grownBy X (some b)) (hB : B ≤ wr.heap.size) (hb : B ≤ b) : Below B w X :=
  h.grown hg hB fun k hk => by
    have e : b = k := by simpa using hk
    omega

/-- Cells laid into an array from a place on. -/
def spl : Array Value → Nat → List Value → Array Value
  | cs, _, [] => cs
  | cs, o, v :: r => spl (cs.setIfInBounds o v) (o + 1) r
theorem spl_size : ∀ (vs : List Value) (cs : Array Value) (o : Nat), (spl cs o vs).size = cs.size
  | [], _, _ => rfl
  | _ :: r, cs, o => by rw [spl, spl_size r, Array.size_setIfInBounds]
theorem setCells_heap (g : Nat) (t : TypeId) : ∀ (vs : List Value) (o : Nat) (cs : Array Value) (w : World), w.heap[g]? = some (.cells cs t (0, 0)) →
    (w.setCells g o vs).heap[g]? = some (.cells (spl cs o vs) t (0, 0))
  | [], _, _, _, h => h
  | v :: r, o, cs, w, h => setCells_heap g t r (o + 1) _ _ (heap_setCell_same w g o cs t v h)
theorem setCells_else (g k : Nat) (hk : k ≠ g) : ∀ (vs : List Value) (o : Nat) (w : World), (w.setCells g o vs).heap[k]? = w.heap[k]?
  | [], _, _ => rfl
  | v :: r, o, w => (setCells_else g k hk r (o + 1) _).trans (heap_setCell_other w ⟨g, o, none⟩ k v hk)
theorem setCells_grown (g : Nat) (a : World) : ∀ (vs : List Value) (o : Nat) (w : World), a.grownBy w (some g) → a.grownBy (w.setCells g o vs) (some g)
  | [], _, _, h => h
  | v :: r, o, w, h => setCells_grown g a r (o + 1) _ ⟨h.os, h.tape, h.output, by simpa [World.setCell] using h.size, fun i hi hne => (heap_setCell_other w ⟨g, o, none⟩ i v (fun e => hne (by rw [e]))).trans (h.block i hi hne)⟩
/-- A part of an array stored: the world is told by what its blocks hold. -/
theorem wpList_store_part {P : Program} {ops : Array Oper} {rest : List Oper} {op : Oper} {a : Act} {w : World} {Q : Exit → Act → World → Prop} (hgd : op.guard = none) (ty : TypeId) (x y : Operand) (ho : op.op = .store ty x y)
    (g o : Nat) (t : TypeId) (old cells : Array Value) (hx : a.eval x = .pointer (some ⟨g, o, none⟩)) (hy : a.eval y = .agg cells)
    (hg : w.heap[g]? = some (.cells old t (0, 0))) (hi : (P.info? ty).map (·.size) = some cells.size) (hs : o + cells.size ≤ old.size) (h1 : cells.all (·.oneCell') = true)
    (h : ∀ w', w'.heap[g]? = some (.cells (spl old o cells.toList) t (0, 0)) → w.grownBy w' (some g) → wpList P ops Q rest (a.put op.dst undef) w') : wpList P ops Q (op :: rest) a w :=
  wpList_store_mid hgd ty x y ho g o cells hx hy (fun j hj => ⟨by rw [cell_of_row w g (o + j) old t (0, 0) hg, Array.getElem?_eq_getElem (by omega)]; rfl, frozen_of_row w g (o + j) old t hg⟩) hi h1
    (h _ (setCells_heap g t _ _ _ _ hg) (setCells_grown g w _ _ _ (World.grownBy.refl w _)))

/-- A whole array stored: the world is told by what its blocks hold. -/
theorem wpList_store_whole {P : Program} {ops : Array Oper} {rest : List Oper} {op : Oper} {a : Act} {w : World} {Q : Exit → Act → World → Prop} (hgd : op.guard = none) (ty : TypeId) (x y : Operand) (ho : op.op = .store ty x y)
    (g : Nat) (t : TypeId) (old cells : Array Value) (hx : a.eval x = .pointer (some ⟨g, 0, none⟩)) (hy : a.eval y = .agg cells)
    (hg : w.heap[g]? = some (.cells old t (0, 0))) (hi : (P.info? ty).map (·.size) = some cells.size) (hs : old.size = cells.size) (h1 : cells.all (·.oneCell') = true)
    (h : ∀ w', w'.heap[g]? = some (.cells cells t (0, 0)) → w.grownBy w' (some g) → wpList P ops Q rest (a.put op.dst undef) w') : wpList P ops Q (op :: rest) a w :=
  wpList_store_row hgd ty x y ho g t old cells hx hy hg hi hs h1 (h _ (setRow_heap w g old cells t (0, 0) hg)
    ⟨rfl, rfl, rfl, by simp, fun i _ hne => setRow_other w g i cells (fun e => hne (by rw [e]))⟩)
/-- A new block, and then stores into it: what was there is there. -/
theorem new_keep {w w' : World} {o : Obj} (hg : (w.alloc o).grownBy w' (some w.heap.size)) {k : Nat} (hk : k < w.heap.size) : w'.heap[k]? = w.heap[k]? :=
  (hg.block k (by simp; omega) (by simp; omega)).trans (Below.heap_alloc w o k hk)
theorem new_below {B : Nat} {a w w' : World} {o : Obj} (h : Below B a w) (hB : B ≤ w.heap.size) (hg : (w.alloc o).grownBy w' (some w.heap.size)) : Below B a w' :=
  grown_below (h.alloc hB o) hg (by simp; omega) hB

/-- The four places lie in block g. -/
def Pl (g p0 p1 p2 p3 : Nat) (w : World) : Prop :=
  w.cell? ⟨g, 0, none⟩ = some (.int .i64 (p0 : Int)) ∧ w.cell? ⟨g, 1, none⟩ = some (.int .i64 (p1 : Int)) ∧ w.cell? ⟨g, 2, none⟩ = some (.int .i64 (p2 : Int)) ∧ w.cell? ⟨g, 3, none⟩ = some (.int .i64 (p3 : Int))
/-- And the four words of block b. -/
def Ps (b g p0 p1 p2 p3 : Nat) (s : List (BitVec 32)) (w : World) : Prop :=
  Pl g p0 p1 p2 p3 w ∧ w.cell? ⟨b, p0, none⟩ = some (.int .u32 (u (Qu.wd s p0))) ∧ w.cell? ⟨b, p1, none⟩ = some (.int .u32 (u (Qu.wd s p1))) ∧ w.cell? ⟨b, p2, none⟩ = some (.int .u32 (u (Qu.wd s p2))) ∧ w.cell? ⟨b, p3, none⟩ = some (.int .u32 (u (Qu.wd s p3)))

/-- What is known of a world in the round that began in wr: the state's block b, the places' block g; of what was there nothing has turned but b. -/
structure Fr (wr : World) (b g : Nat) (cs ps : Array Value) (X : World) : Prop where
  gr : wr.grownBy X (some b)
  st : X.heap[b]? = some (.cells cs 23 (0, 0))
  pl : X.heap[g]? = some (.cells ps 65 (0, 0))

section
variable {wr : World} {b g : Nat} {cs ps : Array Value} {X : World}
theorem Fr.drew (h : Fr wr b g cs ps X) : Fr wr b g cs ps X.drew := ⟨⟨h.gr.os, h.gr.tape, h.gr.output, h.gr.size, h.gr.block⟩, h.st, h.pl⟩
theorem Fr.set (h : Fr wr b g cs ps X) (hg : b ≠ g) (j : Nat) (v : Value) : Fr wr b g (cs.setIfInBounds j v) ps (X.setCell ⟨b, j, none⟩ v) :=
  ⟨⟨h.gr.os, h.gr.tape, h.gr.output, by simpa [World.setCell] using h.gr.size, fun i hi hne => (heap_setCell_other X ⟨b, j, none⟩ i v (fun e => hne (by rw [e]))).trans (h.gr.block i hi hne)⟩,
    heap_setCell_same X b j cs 23 v h.st, (heap_setCell_other X ⟨b, j, none⟩ g v (Ne.symm hg)).trans h.pl⟩
theorem Fr.cell (h : Fr wr b g cs ps X) {j : Nat} (hj : j < cs.size) : X.cell? ⟨b, j, none⟩ = some cs[j] := by
  rw [cell_of_row X b j cs 23 (0, 0) h.st]; exact Array.getElem?_eq_getElem hj
theorem Fr.free (h : Fr wr b g cs ps X) (j : Nat) : X.frozen? ⟨b, j, none⟩ = false := frozen_of_row X b j cs 23 h.st
theorem Fr.four {p0 p1 p2 p3 : Nat} (h : Fr wr b g cs #[.int .i64 (p0 : Int), .int .i64 (p1 : Int), .int .i64 (p2 : Int), .int .i64 (p3 : Int)] X) : Pl g p0 p1 p2 p3 X :=
  ⟨(cell_of_row X g 0 _ 65 (0, 0) h.pl).trans rfl, (cell_of_row X g 1 _ 65 (0, 0) h.pl).trans rfl, (cell_of_row X g 2 _ 65 (0, 0) h.pl).trans rfl, (cell_of_row X g 3 _ 65 (0, 0) h.pl).trans rfl⟩
theorem Fr.both {p0 p1 p2 p3 : Nat} {s : List (BitVec 32)} (h : Fr wr b g (c32 s) #[.int .i64 (p0 : Int), .int .i64 (p1 : Int), .int .i64 (p2 : Int), .int .i64 (p3 : Int)] X) (hs : s.length = 16)
    (h0 : p0 < 16) (h1 : p1 < 16) (h2 : p2 < 16) (h3 : p3 < 16) : Ps b g p0 p1 p2 p3 s X :=
  ⟨h.four, (cell_of_row X b p0 _ 23 (0, 0) h.st).trans (c32_get s p0 (by omega)), (cell_of_row X b p1 _ 23 (0, 0) h.st).trans (c32_get s p1 (by omega)),
    (cell_of_row X b p2 _ 23 (0, 0) h.st).trans (c32_get s p2 (by omega)), (cell_of_row X b p3 _ 23 (0, 0) h.st).trans (c32_get s p3 (by omega))⟩
/-- At the round's beginning: the places in a new block. -/
theorem Fr.new (hb : wr.heap[b]? = some (.cells cs 23 (0, 0))) (hlt : b < wr.heap.size) (ps : Array Value) : Fr wr b wr.heap.size cs ps (wr.alloc (.cells ps 65)) :=
  ⟨⟨rfl, rfl, rfl, by simp, fun i hi _ => Below.heap_alloc _ _ _ hi⟩, (Below.heap_alloc _ _ _ hlt).trans hb, heap_alloc_new _ _⟩
end
end Go.Proofs.Ytdkimnigckpncaa
