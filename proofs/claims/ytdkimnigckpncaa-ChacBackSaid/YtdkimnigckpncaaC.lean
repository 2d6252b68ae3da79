/-
  Plain laws on bytes and blocks of the stream: no program in sight.
-/
import Derived.Test.YtdkimnigckpncaaQ
namespace Go.Proofs.Ytdkimnigckpncaa.Ch
open Qu (W wd dbl)

abbrev Y := BitVec 8
abbrev L := BitVec 64

/-- The number of bytes, the least first. -/
def ge : List Y → L
  | [] => 0#64
  | b :: r => (ge r <<< 8) ||| b.setWidth 64

theorem shl_or (x y : L) (k : Nat) : (x ||| y) <<< k = (x <<< k) ||| (y <<< k) := BitVec.shiftLeft_or_distrib x y k

theorem ge_snoc (b : Y) : ∀ l : List Y, ge (l ++ [b]) = ge l ||| (b.setWidth 64 <<< (8 * l.length))
  | [] => by simp [ge]
  | a :: l => by
    rw [List.cons_append, ge, ge_snoc b l, shl_or, ← BitVec.shiftLeft_add, ge]
    have e : 8 * l.length + 8 = 8 * (a :: l).length := by simp; omega
    rw [e, BitVec.or_assoc, BitVec.or_assoc, BitVec.or_comm (b.setWidth 64 <<< _)]

theorem ge_take_succ (l : List Y) (k : Nat) (hk : k < l.length) : ge (l.take (k + 1)) = ge (l.take k) ||| ((l.getD k 0#8).setWidth 64 <<< (8 * k)) := by
  rw [List.take_add_one, List.getElem?_eq_getElem hk]
  show ge (l.take k ++ [l[k]]) = _
  rw [ge_snoc, List.length_take, Nat.min_eq_left (by omega), List.getD_eq_getElem?_getD, List.getElem?_eq_getElem hk]
  rfl
theorem ge_drop (l : List Y) (k : Nat) (hk : k < l.length) : ge (l.drop k) = (ge (l.drop (k + 1)) <<< 8) ||| (l.getD k 0#8).setWidth 64 := by
  rw [List.drop_eq_getElem_cons hk, ge, List.getD_eq_getElem?_getD, List.getElem?_eq_getElem hk]
  rfl

/-- The lowest bytes of a number, the least first. -/
def pu (n : L) : Nat → List Y
  | 0 => []
  | k + 1 => pu n k ++ [(n >>> (8 * k)).setWidth 8]
theorem pu_length (n : L) : ∀ k, (pu n k).length = k
  | 0 => rfl
  | k + 1 => by rw [pu, List.length_append, pu_length n k]; rfl

/-- The state's words out of bytes, four by four. -/
def words (l : List Y) (n : Nat) : List W := (List.range n).map fun i => (ge ((l.drop (4 * i)).take 4)).setWidth 32
def start (key nonce : List Y) (c : W) : List W :=
  [1634760805#32, 857760878#32, 2036477234#32, 1797285236#32] ++ words key 8 ++ [c] ++ words nonce 3
def rep {α : Type} (f : α → α) : Nat → α → α
  | 0, x => x
  | n + 1, x => f (rep f n x)
def sums (s t : List W) : List W := (List.range 16).map fun i => wd s i + wd t i
/-- A block of the stream. -/
def block (key nonce : List Y) (c : W) : List Y :=
  (sums (start key nonce c) (rep dbl 10 (start key nonce c))).flatMap fun x => pu (x.setWidth 64) 4

/-- The stream from a counter on. -/
def stream (key nonce : List Y) (c : W) (i : Nat) : Y := (block key nonce (c + BitVec.ofNat 32 (i / 64))).getD (i % 64) 0#8
/-- Bytes, exclusive or with the stream. -/
def xor (key nonce : List Y) (c : W) (b : List Y) : List Y := b.mapIdx fun i x => x ^^^ stream key nonce c i
/-- Are there as many counters as are needed? -/
def room (c : W) (n : Nat) : Bool := decide (c.toNat + (n + 63) / 64 ≤ 4294967296)

theorem words_length (l : List Y) (n : Nat) : (words l n).length = n := by simp [words]
theorem start_length (key nonce : List Y) (c : W) : (start key nonce c).length = 16 := by simp [start, words_length]
theorem rep_length (n : Nat) (s : List W) : (rep dbl n s).length = s.length := by
  induction n with
  | zero => rfl
  | succ n ih => rw [rep, Qu.dbl_length, ih]
theorem flat_length (f : W → List Y) (k : Nat) (hf : ∀ x, (f x).length = k) : ∀ l : List W, (l.flatMap f).length = k * l.length
  | [] => rfl
  | x :: l => by rw [List.flatMap_cons, List.length_append, hf, flat_length f k hf l, List.length_cons, Nat.mul_succ]; omega
theorem block_length (key nonce : List Y) (c : W) : (block key nonce c).length = 64 := by
  rw [block, flat_length _ 4 (fun x => pu_length _ 4)]
  simp [sums]
theorem xor_length (key nonce : List Y) (c : W) (b : List Y) : (xor key nonce c b).length = b.length := by simp [xor]

end Go.Proofs.Ytdkimnigckpncaa.Ch
