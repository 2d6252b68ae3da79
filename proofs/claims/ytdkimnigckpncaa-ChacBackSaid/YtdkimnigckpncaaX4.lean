/-
  Parts of rows.
-/
import Derived.Test.YtdkimnigckpncaaX3
namespace Go.Proofs.Ytdkimnigckpncaa
open Go.RowKit
theorem add_0 (a : Addr) : a.add 0 = a := by unfold Addr.add; simp
theorem elem32 : Try.prog.elem 32 = 5 := by simp [Program.elem, Try.underlying32]
theorem und32 : Try.prog.underlying 32 = some (.slice (Try.prog.elem 32)) := by rw [elem32]; exact Try.underlying32
theorem cut_h {A : Option Addr} {n cap : Nat} (k : Nat) (hk : k ≤ cap) (y : Int) (hy : y = k) (W : World) :
    (Instr.sliceAt 32 (.slice A n cap) none (some (.int .i64 y)) none).run Try.prog W = .ok (.slice A k cap) W := by
  subst hy
  rw [run_sliceAt_slice W 32 _ _ _ _ und32, run_slice_h W 32 A n cap und32 .i64 k (by omega) (by omega), elem32, size5]
  simp only [Result.andThen_ok, Int.toNat_natCast, sliced, Nat.sub_zero, Nat.zero_mul]
  congr 2
  split
  · rfl
  · cases A <;> simp [add_0]
/-- Where a part of a row begins. -/
def cutA (A : Option Addr) (cap k : Nat) : Option Addr := if cap = k then A else A.map (·.add k)
theorem cut_l {A : Option Addr} {n cap : Nat} (k : Nat) (hk : k ≤ n) (y : Int) (hy : y = k) (W : World) :
    (Instr.sliceAt 32 (.slice A n cap) (some (.int .i64 y)) none none).run Try.prog W = .ok (.slice (cutA A cap k) (n - k) (cap - k)) W := by
  subst hy
  rw [run_sliceAt_slice W 32 _ _ _ _ und32, run_slice_l W 32 A n cap und32 .i64 k (by omega) (by omega), elem32, size5]
  simp only [Result.andThen_ok, Int.toNat_natCast, sliced, Nat.mul_one]
  rfl
theorem IsB.head {w : World} {A : Option Addr} {n cap : Nat} {l : List (BitVec 8)} (h : IsB w A n cap l) (k : Nat) (hk : k ≤ n) : IsB w A k cap (l.take k) := by
  refine ⟨by rw [List.length_take, h.len]; omega, fun i hi => ?_, fun e => ?_, by have := h.cp; omega, h.mx⟩
  · have hi2 : i < k := by rw [List.length_take] at hi; omega
    obtain ⟨ad, e, hc⟩ := h.rd i (by rw [h.len]; omega)
    refine ⟨ad, e, ?_⟩
    rw [hc]
    simp [List.getD_eq_getElem?_getD, hi2]
  · obtain ⟨h1, h2⟩ := h.nl e
    exact ⟨by omega, h2⟩
theorem add_add' (a : Addr) (i j : Nat) : (a.add i).add j = a.add (i + j) := by
  unfold Addr.add
  by_cases h1 : i = 0
  · subst h1; simp
  · by_cases h2 : j = 0
    · subst h2; simp [h1]
    · simp [h1, h2, Nat.add_assoc]
theorem IsB.tail {w : World} {A : Option Addr} {n cap : Nat} {l : List (BitVec 8)} (h : IsB w A n cap l) (k : Nat) (hk : k ≤ n) : IsB w (cutA A cap k) (n - k) (cap - k) (l.drop k) := by
  have h1 := h.cp
  refine ⟨by rw [List.length_drop, h.len], fun i hi => ?_, fun e => ?_, by omega, by have := h.mx; omega⟩
  · rw [List.length_drop, h.len] at hi
    obtain ⟨ad, e, hc⟩ := h.rd (k + i) (by rw [h.len]; omega)
    refine ⟨ad.add k, ?_, ?_⟩
    · unfold cutA
      rw [if_neg (by omega), e]; rfl
    · rw [add_add', hc]
      simp [List.getD_eq_getElem?_getD, List.getElem?_drop]
  · unfold cutA at e
    split at e
    · obtain ⟨h2, h3⟩ := h.nl e; exact ⟨by omega, by omega⟩
    · cases hA : A with
      | none => obtain ⟨h2, h3⟩ := h.nl hA; exact ⟨by omega, by omega⟩
      | some a => rw [hA] at e; cases e
theorem IsB.conv {w : World} {A : Option Addr} {n cap : Nat} {l : List (BitVec 8)} (h : IsB w A n cap l) : (convert 32 9 (.slice A n cap)).run Try.prog w = .ok (.string (str l)) w :=
  conv_any Try.underlying32 Try.underlying5 A n cap l h.len w h.rd
end Go.Proofs.Ytdkimnigckpncaa
