/-
  The walks of Stream, slices.Clone and Tape; how a source is built.
-/
import Derived.Test.YtdkimnigckpncaaD5
import Derived.WalkSpells
namespace Go.Proofs.Ytdkimnigckpncaa
open Go.RowKit
theorem fold_get : ∀ (vs : List Value) (k off : Nat) (cs : Array Value) (i : Nat), ((vs.zipIdx k).foldl (fun cs x => cs.setIfInBounds (off + x.2) x.1) cs)[i]? = if off + k ≤ i ∧ i < off + k + vs.length ∧ i < cs.size then vs[i - (off + k)]? else cs[i]?
  | [], k, off, cs, i => by
    rw [if_neg (by simp; omega)]; rfl
  | v :: r, k, off, cs, i => by
    rw [List.zipIdx_cons, List.foldl_cons, fold_get r (k + 1) off]
    simp only [Array.size_setIfInBounds, List.length_cons]
    by_cases h1 : i = off + k
    · subst h1
      rw [if_neg (by omega)]
      by_cases h2 : off + k < cs.size
      · rw [if_pos ⟨Nat.le_refl _, by omega, h2⟩]
        simp [h2]
      · rw [if_neg (by omega)]
        simp [h2]
    · have h3 : (cs.setIfInBounds (off + k) v)[i]? = cs[i]? := Array.getElem?_setIfInBounds_ne (fun e => h1 e.symm)
      rw [h3]
      by_cases h4 : off + k ≤ i ∧ i < off + k + (r.length + 1) ∧ i < cs.size
      · rw [if_pos h4, if_pos (by omega)]
        have e : i - (off + k) = (i - (off + (k + 1))) + 1 := by omega
        rw [e, List.getElem?_cons_succ]
      · rw [if_neg h4, if_neg (by omega)]
theorem fold_size : ∀ (vs : List Value) (k off : Nat) (cs : Array Value), ((vs.zipIdx k).foldl (fun cs x => cs.setIfInBounds (off + x.2) x.1) cs).size = cs.size
  | [], _, _, _ => rfl
  | v :: r, k, off, cs => by
    rw [List.zipIdx_cons, List.foldl_cons, fold_size r (k + 1) off]
    simp
/-- The cells of one part laid into a row. -/
def laid (v : Value) (off : Nat) (cells : Array Value) : Array Value := v.cells.zipIdx.foldl (fun cs (c, j) => cs.setIfInBounds (off + j) c) cells
theorem laid_list (v : Value) (off : Nat) (cells : Array Value) : laid v off cells = (v.cells.toList.zipIdx 0).foldl (fun cs x => cs.setIfInBounds (off + x.2) x.1) cells := by
  unfold laid
  rw [← Array.foldl_toList, Array.toList_zipIdx]
theorem laid_size (v : Value) (off : Nat) (cells : Array Value) : (laid v off cells).size = cells.size := by rw [laid_list, fold_size]
theorem laid_get (v : Value) (off : Nat) (cells : Array Value) (i : Nat) : (laid v off cells)[i]? = if off ≤ i ∧ i < off + v.cells.size ∧ i < cells.size then v.cells[i - off]? else cells[i]? := by
  rw [laid_list, fold_get]
  simp
theorem fill_one (place : Nat → Option (Nat × Nat)) (cells : Array Value) (i off size : Nat) (v : Value) (rest : List (Nat × Value)) (hp : place i = some (off, size)) (hs : v.cells.size = size) (ho : off + size ≤ cells.size) :
    Instr.fill place cells ((i, v) :: rest) = Instr.fill place (laid v off cells) rest := by
  rw [Instr.fill, hp]
  simp only
  rw [if_neg (by simp; omega)]
  rfl
def zsrc : Array Value := src (.slice none 0 0) false (List.replicate 32 0#8) 0#64
theorem built71 (parts : List (Nat × Value)) : Try.prog.built 71 parts = Instr.fill (#[(0, 1), (1, 1), (2, 32), (34, 1)][·]?) zsrc parts := by kernel_rfl
theorem built_key (key : List (BitVec 8)) (hk : key.length = 32) (nx : BitVec 64) : Try.prog.built 71 [(1, .bool true), (2, .agg (c8 key)), (3, .int .u64 (u nx))] = some (src (.slice none 0 0) true key nx) := by
  rw [built71, fill_one _ _ 1 1 1 _ _ rfl rfl (by decide), fill_one _ _ 2 2 32 _ _ rfl (by show (c8 key).size = 32; rw [c8_size, hk]) (by rw [laid_size]; decide),
    fill_one _ _ 3 34 1 _ _ rfl rfl (by rw [laid_size, laid_size]; decide), Instr.fill]
  congr 1
  have hz : zsrc.size = 35 := by decide
  apply Array.ext_getElem?
  intro i
  have hkz : (Value.agg (c8 key)).cells.size = 32 := by show (c8 key).size = 32; rw [c8_size, hk]
  have h1 : (Value.int .u64 (u nx)).cells.size = 1 := rfl
  have h2 : (Value.bool true).cells.size = 1 := rfl
  rw [laid_get, laid_get, laid_get, laid_size, laid_size, hz, hkz, h1, h2]
  by_cases c34 : i = 34
  · subst c34
    rw [if_pos (by omega)]
    simp [src, hk, Value.cells]
  · rw [if_neg (by omega)]
    by_cases c2 : 2 ≤ i ∧ i < 34
    · rw [if_pos (by omega)]
      obtain ⟨j, rfl⟩ : ∃ j, i = j + 2 := ⟨i - 2, by omega⟩
      simp only [src, Nat.add_sub_cancel, List.getElem?_toArray, List.getElem?_cons_succ]
      rw [List.getElem?_append_left (by simp [hk]; omega)]
      simp [Value.cells, c8]
    · rw [if_neg (by omega)]
      by_cases c1 : i = 1
      · subst c1; rfl
      · rw [if_neg (by omega)]
        by_cases c0 : i = 0
        · subst c0; rfl
        · rw [Array.getElem?_eq_none (by omega), Array.getElem?_eq_none (by simp [src, hk]; omega)]
theorem wpList_built {P : Program} {ops : Array Oper} {rest : List Oper} {op : Oper} {a : Act} {w : World} {Q : Exit → Act → World → Prop} (hgd : op.guard = none) (t : TypeId) (parts : Array (Nat × Operand)) (ho : op.op = .build t parts)
    (pl : List (Nat × Value)) (hp : (parts.map fun (i, x) => (i, a.eval x)).toList = pl) (cells : Array Value) (hc : P.built t pl = some cells)
    (h : wpList P ops Q rest (a.put op.dst (.agg cells)) w) : wpList P ops Q (op :: rest) a w :=
  wpList_plain hgd fun _ hK => wp_build t parts ho (by rw [hp, hc]; rfl) (hK _ _ (by rw [hp, hc]; exact h))

theorem stream_any (key : List (BitVec 8)) (hk : key.length = 32) (nx : BitVec 64) (w : World) :
    Calls Try.prog 36 #[.agg (c8 key), .int .u64 (u nx)] w fun e w' => e = .returned (.pointer (some ⟨w.heap.size + 1, 0, none⟩)) ∧ Sc w' (w.heap.size + 1) (.slice none 0 0) true key nx ∧ Below w.heap.size w w' := by
  have HK := Lib.hid hk
  clear hk
  go_enter Try.func36, Try.ntmps36
  have hky := heap_alloc_new w (.cells (c8 key) 31)
  go_wp2_with (first | (refine wpList_load_row rfl 31 (.tmp 2) rfl w.heap.size rfl 31 (c8 key) (0, 0) _ hky Try.underlying31 rfl (by rw [info31, c8_size, HK.out]) ?_) | (refine wpList_built rfl 71 _ rfl [(1, .bool true), (2, .agg (c8 key)), (3, .int .u64 (u nx))] (by kernel_rfl) (src (.slice none 0 0) true key nx) (built_key key HK.out nx) ?_))
  go_ret
  have hn := heap_alloc_new (w.alloc (.cells (c8 key) 31)) (.cells (src (.slice none 0 0) true key nx) 71)
  have e : (w.alloc (.cells (c8 key) 31)).heap.size = w.heap.size + 1 := by simp
  rw [e] at hn
  exact ⟨rfl, ⟨hn, HK.out⟩, ((Below.refl _ _).alloc (Nat.le_refl _) _).alloc (by simp) _⟩
theorem clone_none (n c : Nat) (w : World) : Calls Try.prog 49 #[.slice none n c] w fun e w' => e = .returned (.slice none 0 0) ∧ w = w' := by
  have heq : ∀ W, (binOp .eql 46 (.slice none n c) (.slice none 0 0)).run Try.prog W = .ok (.bool true) W := fun W => Lib.run_eql_slice_nil (P := Try.prog) W 46 22 none n c 0 0 Try.underlying46
  go_enter Try.func49, Try.ntmps49
  go_wp2_with fail
  go_ret
  exact ⟨rfl, rfl⟩
theorem clone_some (ad : Addr) (n c : Nat) (l : List (BitVec 32)) (hl : l.length = n) (hn : n ≤ 1000) (w : World) (hr : Rw w (some ad) l) : Calls Try.prog 49 #[.slice (some ad) n c] w fun e w' => ∃ v, e = .returned v ∧ w'.ownsRow w.heap.size 22 1 v n (l.map fun x => .int .u32 (u x)) ∧ Below w.heap.size w w' := by
  have heq : ∀ W, (binOp .eql 46 (.slice (some ad) n c) (.slice none 0 0)).run Try.prog W = .ok (.bool false) W := fun W => Lib.run_eql_slice_nil (P := Try.prog) W 46 22 (some ad) n c 0 0 Try.underlying46
  have h22 : (Try.prog.info? 22).map (fun i => (i.zero, i.size, i.bytes)) = some (some (.int .u32 0), 1, 4) := by kernel_rfl
  obtain ⟨i0, hi, hz0, hz1, hz2⟩ := info_parts h22
  have hcl : ∀ j, j < l.length → w.cell? (ad.add j) = some (.int .u32 (u (l.getD j 0#32))) := fun j hj => by
    obtain ⟨a, e, h⟩ := hr j hj
    cases e
    exact h
  have HC := Lib.hid hcl
  have HL := Lib.hid hl
  clear hr hl h22 hcl
  go_enter Try.func49, Try.ntmps49
  go_wp2_with (at_builtin; refine wpList_append_own _ rfl (.tmp 5) (.tmp 6) 46 rfl w.heap.size 22 i0 (.int .u32 0) 1 4 Try.underlying46 hi hz0 hz1 hz2 rfl (by decide) _ 0 [] rfl (World.ownsRow_made w #[] 0 (Nat.le_refl _) (by decide) rfl) ad n c (l.map fun x => .int .u32 (u x)) rfl ?c0 ?c1 ?c2 ?c3 ?c4 ?c5 ?_)
  case c0 => simp [HL.out]
  case c1 =>
    intro j v hj
    have hjl : j < l.length := by
      rcases Nat.lt_or_ge j l.length with h | h
      · exact h
      · rw [List.getElem?_eq_none (by simpa using h)] at hj; cases hj
    have hb : (ad.add j).block < w.heap.size := World.block_lt_of_cell? w _ (HC.out j hjl)
    rw [World.cell?_of_block (w := w) (Below.heap_alloc w _ _ hb), HC.out j hjl, ← hj]
    simp [hjl]
  case c2 => intro v hv; simp at hv; obtain ⟨x, _, rfl⟩ := hv; rfl
  case c3 => unfold maxLen; omega
  case c4 => omega
  case c5 => simp
  · intro v' w' ho hg _
    have HB := Lib.hid (((Below.refl w.heap.size w).alloc (Nat.le_refl _) (.cells #[] 22)).grown hg (by simp) (fun k hk => by simp [Value.ownBlock] at hk; omega))
    have HO := Lib.hid ho
    clear ho hg
    go_wp2_with fail
    go_ret
    exact ⟨_, rfl, HO.out, HB.out⟩
end Go.Proofs.Ytdkimnigckpncaa
