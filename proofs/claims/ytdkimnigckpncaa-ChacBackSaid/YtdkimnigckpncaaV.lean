/-
  Arrays of bytes in blocks; how a block's state is filled and written out; a copy as one step of a region.
-/
import Derived.Test.YtdkimnigckpncaaU
import Derived.Laws.CopyOwn
namespace Go.Proofs.Ytdkimnigckpncaa
open Go.RowKit

def c8 (l : List (BitVec 8)) : Array Value := (l.map cell8).toArray
theorem c8_size (s : List (BitVec 8)) : (c8 s).size = s.length := by simp [c8]
theorem c8_get (s : List (BitVec 8)) (j : Nat) (hj : j < s.length) : (c8 s)[j]? = some (.int .u8 (u (s.getD j 0#8))) := by
  simp [c8, cell8, hj]
theorem c8_set (s : List (BitVec 8)) (j : Nat) (x : BitVec 8) : (c8 s).setIfInBounds j (.int .u8 (u x)) = c8 (s.set j x) := by
  simp [c8, cell8, List.map_set]
theorem c8_one (s : List (BitVec 8)) : ∀ v ∈ (c8 s).toList, v.oneCell' = true := by
  intro v hv
  simp [c8] at hv
  obtain ⟨x, _, rfl⟩ := hv
  rfl
theorem c8_all (s : List (BitVec 8)) : (c8 s).all (·.oneCell') = true :=
  Array.all_eq_true_iff_forall_mem.2 (fun v hv => c8_one s v (by simpa using hv))
theorem cell8_one (s : List (BitVec 8)) : ∀ v ∈ s.map cell8, v.oneCell' = true := by
  intro v hv
  simp at hv
  obtain ⟨x, _, rfl⟩ := hv
  rfl
theorem info31 : (Try.prog.info? 31).map (·.size) = some 32 := by kernel_rfl
theorem info35 : (Try.prog.info? 35).map (·.size) = some 12 := by kernel_rfl
theorem info36 : (Try.prog.info? 36).map (·.size) = some 64 := by kernel_rfl

/-- A part of an array of bytes can be read. -/
theorem rd_c8 {w : World} {g : Nat} {l : List (BitVec 8)} {t : TypeId} (h : w.heap[g]? = some (.cells (c8 l) t (0, 0))) (o n : Nat) (hn : o + n ≤ l.length) : Rd w (some ⟨g, o, none⟩) ((l.drop o).take n) := by
  intro i hi
  refine ⟨_, rfl, ?_⟩
  have hi2 : i < n := by simp at hi; omega
  have ea : (⟨g, o, none⟩ : Addr).add i = ⟨g, o + i, none⟩ := by simp [Addr.add]
  rw [ea, cell_of_row w g (o + i) _ t (0, 0) h, c8_get l (o + i) (by omega)]
  simp [List.getD_eq_getElem?_getD, List.getElem?_drop, hi2]
theorem cell_c8 {w : World} {g : Nat} {l : List (BitVec 8)} {t : TypeId} (h : w.heap[g]? = some (.cells (c8 l) t (0, 0))) (j : Nat) (hj : j < l.length) : w.cell? ⟨g, j, none⟩ = some (.int .u8 (u (l.getD j 0#8))) := by
  rw [cell_of_row w g j _ t (0, 0) h, c8_get l j hj]

theorem wp_copy_splice {P : Program} {o : Oper} {a : Act} {w : World} {K : Act → World → Prop} {Q : Exit → Act → World → Prop} (hgd : o.guard = none) (d s : Operand) (dT sT : TypeId)
    (ho : o.op = .call { callee := .builtin .copy, args := #[d, s], argTypes := #[dT, sT] }) (elem : TypeId) (hu : P.underlying dT = some (.slice elem)) (hsz : (P.info? elem).map (·.size) = some 1)
    (dp sp : Option Addr) (dLen dCap sLen sCap : Nat) (hd : a.eval d = .slice dp dLen dCap) (hs : a.eval s = .slice sp sLen sCap)
    (g off : Nat) (cur : List Value) (t : TypeId) (hg : w.heap[g]? = some (.cells cur.toArray t (0, 0))) (cs : List Value) (hn : cs.length = Nat.min sLen dLen)
    (hpos : 0 < cs.length → dp = some ⟨g, off, none⟩ ∧ ∃ ad, sp = some ad ∧ ∀ j v, cs[j]? = some v → w.cell? (ad.add j) = some v)
    (hfit : off + cs.length ≤ cur.length) (h1 : ∀ v ∈ cs, v.oneCell' = true) (B : Nat) (w0 : World) (hb : RowKit.Below B w0 w) (hBg : B ≤ g)
    (h : ∀ w', RowKit.Hid (w'.heap[g]? = some (.cells (splice cur off cs).toArray t (0, 0))) → RowKit.Below B w0 w' → K (a.put o.dst (goInt cs.length)) w') :
    Oper.wp P o a w K Q := by
  have h2 := step_copy_splice (ops := #[]) (E := False) (K := K) (Q := Q) hgd d s dT sT ho elem hu hsz dp sp dLen dCap sLen sCap hd hs g off cur t hg cs hn hpos hfit h1 B w0 hb hBg h
  simpa [Region.wanted, hgd] using h2

theorem size5 (W : World) : (sizeOf 5).run Try.prog W = .ok 1 W := by
  obtain ⟨i0, hi, hz0, hz1, hz2⟩ := info_parts Try.info5
  simp [sizeOf, typeInfo, hi, hz1]
theorem add_one (b l : Nat) : ((⟨b, 0, none⟩ : Addr).add (l * 1)) = ⟨b, l, none⟩ := by
  unfold Addr.add
  by_cases h0 : l = 0 <;> simp [h0]
/-- A part of an array in a block of its own. -/
theorem sl_lh {t : TypeId} {n : Nat} (hu : Try.prog.underlying t = some (.array n 5)) (W : World) (b l h : Nat) (x y : Int) (hx : x = l) (hy : y = h) (hl : l < n) (h1 : l ≤ h) (h2 : h ≤ n) :
    (Instr.sliceAt t (.pointer (some ⟨b, 0, none⟩)) (some (.int .i64 x)) (some (.int .i64 y)) none).run Try.prog W = .ok (.slice (some ⟨b, l, none⟩) (h - l) (n - l)) W := by
  have e1 : Try.prog.arrayLen t = n := by simp [Program.arrayLen, hu]
  have e2 : Try.prog.elem t = 5 := by simp [Program.elem, hu]
  subst hx hy
  rw [run_sliceAt_array_lh W t ⟨b, 0, none⟩ (by rw [e1, e2]; exact hu) .i64 .i64 l h (by omega) (by omega) (by rw [e1]; omega), e1, e2, size5]
  have e4 : ¬ n = l := by omega
  simp only [slicedAt, Result.andThen_ok, Int.toNat_natCast, add_one, if_neg e4]
theorem sl_l {t : TypeId} {n : Nat} (hu : Try.prog.underlying t = some (.array n 5)) (W : World) (b l : Nat) (x : Int) (hx : x = l) (hl : l < n) :
    (Instr.sliceAt t (.pointer (some ⟨b, 0, none⟩)) (some (.int .i64 x)) none none).run Try.prog W = .ok (.slice (some ⟨b, l, none⟩) (n - l) (n - l)) W := by
  have e1 : Try.prog.arrayLen t = n := by simp [Program.arrayLen, hu]
  have e2 : Try.prog.elem t = 5 := by simp [Program.elem, hu]
  subst hx
  rw [run_sliceAt_array_l W t ⟨b, 0, none⟩ (by rw [e1, e2]; exact hu) .i64 l (by omega) (by rw [e1]; omega), e1, e2, size5]
  have e4 : ¬ n = l := by omega
  simp only [slicedAt, Result.andThen_ok, Int.toNat_natCast, add_one, if_neg e4]

namespace Ch
open Qu (W wd dbl)
def w4 (l : List Y) (i : Nat) : W := (ge ((l.drop (4 * i)).take 4)).setWidth 32
def fil (l : List Y) (b : Nat) : Nat → List W → List W
  | 0, s => s
  | k + 1, s => (fil l b k s).set (b + k) (w4 l k)
theorem fil_length (l : List Y) (b : Nat) (s : List W) : ∀ k, (fil l b k s).length = s.length
  | 0 => rfl
  | k + 1 => by rw [fil, List.length_set, fil_length l b s k]
def st0 : List W := [1634760805#32, 857760878#32, 2036477234#32, 1797285236#32, 0#32, 0#32, 0#32, 0#32, 0#32, 0#32, 0#32, 0#32, 0#32, 0#32, 0#32, 0#32]
theorem filled (key nonce : List Y) (c : W) : fil nonce 13 3 ((fil key 4 8 st0).set 12 c) = start key nonce c := rfl
theorem rep_add {α : Type} (f : α → α) (n : Nat) (x : α) : rep f (n + 1) x = f (rep f n x) := rfl
def word (s t : List W) (i : Nat) : List Y := pu ((wd s i + wd t i).setWidth 64) 4
def outs (s t : List W) (k : Nat) : List Y := ((List.range k).flatMap fun i => word s t i) ++ List.replicate (64 - 4 * k) 0#8
theorem word_length (s t : List W) (i : Nat) : (word s t i).length = 4 := pu_length _ _
theorem outs_pre (s t : List W) : ∀ k, ((List.range k).flatMap fun i => word s t i).length = 4 * k
  | 0 => rfl
  | k + 1 => by rw [List.range_succ, List.flatMap_append, List.length_append, outs_pre s t k]; simp [word_length]; omega
theorem outs_length (s t : List W) (k : Nat) (hk : k ≤ 16) : (outs s t k).length = 64 := by
  rw [outs, List.length_append, outs_pre, List.length_replicate]; omega
theorem outs_zero (s t : List W) : outs s t 0 = List.replicate 64 0#8 := rfl
theorem outs_next (s t : List W) (k : Nat) (hk : k < 16) : splice (outs s t k) (4 * k) (word s t k) = outs s t (k + 1) := by
  unfold splice outs
  have e : ((List.range k).flatMap fun i => word s t i).length = 4 * k := outs_pre s t k
  rw [List.take_append_of_le_length (by rw [e]; exact Nat.le_refl _), List.take_of_length_le (by rw [e]; exact Nat.le_refl _),
    word_length, List.drop_append, List.drop_of_length_le (by rw [e]; omega), e, List.drop_replicate, List.range_succ, List.flatMap_append]
  simp only [List.nil_append, List.flatMap_cons, List.flatMap_nil, List.append_nil, List.append_assoc]
  congr 3
  omega
theorem outs_all (key nonce : List Y) (c : W) : outs (start key nonce c) (rep dbl 10 (start key nonce c)) 16 = block key nonce c := by
  unfold outs block sums
  rw [List.flatMap_map]
  simp [word]
end Ch
theorem splice_map (L : List (BitVec 8)) (o : Nat) (cs : List (BitVec 8)) : splice (L.map cell8) o (cs.map cell8) = (splice L o cs).map cell8 := by
  simp [splice, List.map_take, List.map_drop]
end Go.Proofs.Ytdkimnigckpncaa
