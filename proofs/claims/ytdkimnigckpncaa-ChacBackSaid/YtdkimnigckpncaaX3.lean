/-
  The sealing of a row, told of rows that can be read; '==' on blocks.
-/
import Derived.Test.YtdkimnigckpncaaO2
import Derived.Test.YtdkimnigckpncaaA
namespace Go.Proofs.Ytdkimnigckpncaa
open Go.RowKit

theorem own_isb {W : World} {base n : Nat} {v : Value} {l : List (BitVec 8)} (h : W.ownsRow base 5 1 v n (l.map cell8)) : ∃ A cap, v = .slice A n cap ∧ IsB W A n cap l := by
  have hl : l.length = n := by have := h.1; simpa using this
  have hc : ∀ {g : Nat}, v.ownBlock = some g → ∀ j u, (l.map cell8)[j]? = some u → W.cell? ((⟨g, 0, none⟩ : Addr).add j) = some u := fun hg => h.cells hg
  rcases h.2 with ⟨rfl, h0⟩ | ⟨g, cap, cur, rfl, hb, _, hcp, hm, _⟩
  · subst h0
    exact ⟨none, 0, rfl, hl, fun i hi => absurd hi (by omega), fun _ => ⟨rfl, rfl⟩, Nat.le_refl _, by decide⟩
  · refine ⟨_, cap, rfl, hl, fun i hi => ⟨_, rfl, ?_⟩, (fun h => by cases h), hcp, hm⟩
    rw [hc rfl i (cell8 (l.getD i 0#8)) (by simp [hi])]
    rfl
theorem IsB.later {X Y : World} {A : Option Addr} {n cap : Nat} {l : List (BitVec 8)} (h : IsB X A n cap l) (hb : Below X.heap.size X Y) : IsB Y A n cap l := ⟨h.len, h.rd.later hb, h.nl, h.cp, h.mx⟩
theorem IsB.none (w : World) : IsB w .none 0 0 [] := ⟨rfl, fun i hi => absurd hi (by simp), fun _ => ⟨rfl, rfl⟩, Nat.le_refl _, by decide⟩
theorem isb_row {w : World} {g : Nat} {l : List (BitVec 8)} {t : TypeId} (h : w.heap[g]? = some (.cells (c8 l) t (0, 0))) (hm : l.length ≤ maxLen) : IsB w (some ⟨g, 0, .none⟩) l.length l.length l :=
  ⟨rfl, rd_all h, fun h => (by cases h), Nat.le_refl _, hm⟩

section
variable (key nonce : List (BitVec 8)) (hk : key.length = 32) (hn : nonce.length = 12) (c : BitVec 32) {A : Option Addr} {n cap : Nat} {l : List (BitVec 8)} {w : World} (h : IsB w A n cap l) (hm : n ≤ 1100)
include hk hn h hm
/-- Where there are counters enough. -/
theorem xor_in (hr : Ch.room c n = true) : Calls Try.prog 24 #[.agg (c8 key), .agg (c8 nonce), .int .u32 (u c), .slice A n cap] w fun e w' => Below w.heap.size w w' ∧
    ∃ A' cap', e = .returned (.tuple #[.slice A' n cap', .bool true]) ∧ IsB w' A' n cap' (Ch.xor key nonce c l) := by
  refine (xor_any key nonce hk hn c A n cap h.nl l h.len hm w h.rd).mono ?_
  rintro e w' ⟨hb, ⟨_, v, rfl, ho⟩ | ⟨h0, _⟩⟩
  · obtain ⟨A', cap', rfl, hi⟩ := own_isb ho
    exact ⟨hb, A', cap', rfl, hi⟩
  · rw [hr] at h0; cases h0
theorem xor_out (hr : Ch.room c n = false) : Calls Try.prog 24 #[.agg (c8 key), .agg (c8 nonce), .int .u32 (u c), .slice A n cap] w fun e w' => Below w.heap.size w w' ∧
    e = .returned (.tuple #[.slice none 0 0, .bool false]) := by
  refine (xor_any key nonce hk hn c A n cap h.nl l h.len hm w h.rd).mono ?_
  rintro e w' ⟨hb, ⟨h0, v, rfl, ho⟩ | ⟨_, rfl⟩⟩
  · rw [hr] at h0; cases h0
  · exact ⟨hb, rfl⟩
theorem rxor_in (hr : Ch.room c n = true) : Calls Try.prog 28 #[.agg (c8 key), .agg (c8 nonce), .int .u32 (u c), .slice A n cap] w fun e w' => Below w.heap.size w w' ∧
    ∃ A' cap', e = .returned (.tuple #[.slice A' n cap', .bool true]) ∧ IsB w' A' n cap' (Ch.xor key nonce c l) := by
  refine (rxor_any key nonce hk hn c A n cap h.nl l h.len hm w h.rd).mono ?_
  rintro e w' ⟨hb, ⟨_, v, rfl, ho⟩ | ⟨h0, _⟩⟩
  · obtain ⟨A', cap', rfl, hi⟩ := own_isb ho
    exact ⟨hb, A', cap', rfl, hi⟩
  · rw [hr] at h0; cases h0
theorem rxor_out (hr : Ch.room c n = false) : Calls Try.prog 28 #[.agg (c8 key), .agg (c8 nonce), .int .u32 (u c), .slice A n cap] w fun e w' => Below w.heap.size w w' ∧
    e = .returned (.tuple #[.slice none 0 0, .bool false]) := by
  refine (rxor_any key nonce hk hn c A n cap h.nl l h.len hm w h.rd).mono ?_
  rintro e w' ⟨hb, ⟨h0, v, rfl, ho⟩ | ⟨_, rfl⟩⟩
  · rw [hr] at h0; cases h0
  · exact ⟨hb, rfl⟩
end
theorem same_in {A B : Option Addr} {n m cap cap' : Nat} {l k : List (BitVec 8)} {w : World} (hA : IsB w A n cap l) (hB : IsB w B m cap' k) :
    Calls Try.prog 27 #[.slice A n cap, .slice B m cap'] w fun e w' => e = .returned (.bool (decide (l = k))) ∧ w = w' :=
  same_any A n cap l hA.len B m cap' k hB.len w hA.rd hB.rd
theorem sz5 : (Try.prog.info? 5).map (·.size) = some 1 := by kernel_rfl
theorem guard36 : Try.prog.eqGuardType Try.prog.depth 36 = false := by kernel_rfl
theorem eqin36 (s t : List (BitVec 8)) (hs : s.length = 64) (ht : t.length = 64) (W : World) : (Op.equalIn 10000 36 (.agg (c8 s)) (.agg (c8 t))).run Try.prog W = .ok (decide (s = t)) W := by
  rw [c8_ints, c8_ints, run_eq_ints (d := 9998) 36 5 .u8 64 _ _ Try.underlying36 Try.underlying5 sz5 (by simpa using hs) (by simpa using ht)]
  simp only [map_u]
theorem b_and32 (x y : BitVec 32) : bits .and .u32 (u x) (u y) = u (x &&& y) := by
  have hw : ∀ x : BitVec 32, IntKind.u32.wrap (x.toNat : Int) = (x.toNat : Int) := fun x => by rw [IntKind.wrap_u32]; have := x.isLt; omega
  show IntKind.u32.wrap ((BitVec.ofInt 32 (x.toNat : Int) &&& BitVec.ofInt 32 (y.toNat : Int)).toNat : Int) = _
  rw [ofI, ofI, hw]
  rfl
/-- The key's and the nonce's blocks. -/
def Kn (w : World) (key nonce : List (BitVec 8)) (X : World) : Prop := X.heap[w.heap.size]? = some (.cells (c8 key) 31 (0, 0)) ∧ X.heap[w.heap.size + 1]? = some (.cells (c8 nonce) 35 (0, 0))
theorem Xl.kn {w X : World} {key nonce : List (BitVec 8)} (h : Xl w key nonce X) : Kn w key nonce X := ⟨h.ky, h.no⟩
theorem Xl.drew {w X : World} {key nonce : List (BitVec 8)} (h : Xl w key nonce X) : Xl w key nonce X.drew := ⟨h.ky, h.no, h.bl.drew, h.sz⟩
theorem Xl.later {w X Y : World} {key nonce : List (BitVec 8)} (h : Xl w key nonce X) (hb : Below X.heap.size X Y) : Xl w key nonce Y := h.over h.sz hb
end Go.Proofs.Ytdkimnigckpncaa
