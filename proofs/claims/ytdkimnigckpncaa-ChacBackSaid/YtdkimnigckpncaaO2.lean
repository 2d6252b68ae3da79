/-
  Opening a law's arguments: arrays of bytes by value; rows of bytes; a number of 64 bits.
-/
import Derived.Test.YtdkimnigckpncaaO
import Derived.Test.YtdkimnigckpncaaX
import Derived.ChangeSlices
namespace Go.Proofs.Ytdkimnigckpncaa
open Go.ChangeShapes Go.WideShapes Go.ChangeAt Go.RowKit

theorem c8_ints (s : List (BitVec 8)) : c8 s = ints .u8 (s.map u) := by simp [c8, ints, cell8]
section
variable {H : Type} {enc : TypeId × Value → H} {w : World} {base : Nat} {spare : Nat → Bool} {held : Bool} {r : Reach} {b0 : Nat} {v : Value} {d : DataW H} {ps : List MemPlace}
theorem open_a32 (hval : Value.okWide Try.prog w r b0 31 v) (hd : DataW.Trod enc Try.prog w base spare held 31 v d ps) : ∃ s : List (BitVec 8), v = .agg (c8 s) ∧ s.length = 32 := by
  obtain ⟨zs, rfl, hl, hw⟩ := open_arr Try.underlying31 Try.underlying5 (by kernel_rfl) (by kernel_rfl) hval hd
  obtain ⟨s, rfl⟩ := all_u (fun n => wf_u8) zs hw
  exact ⟨s, by rw [c8_ints], by simpa using hl⟩
theorem open_a12 (hval : Value.okWide Try.prog w r b0 35 v) (hd : DataW.Trod enc Try.prog w base spare held 35 v d ps) : ∃ s : List (BitVec 8), v = .agg (c8 s) ∧ s.length = 12 := by
  obtain ⟨zs, rfl, hl, hw⟩ := open_arr Try.underlying35 Try.underlying5 (by kernel_rfl) (by kernel_rfl) hval hd
  obtain ⟨s, rfl⟩ := all_u (fun n => wf_u8) zs hw
  exact ⟨s, by rw [c8_ints], by simpa using hl⟩
theorem open_u64 (hval : Value.okWide Try.prog w r b0 43 v) (hd : DataW.Trod enc Try.prog w base spare held 43 v d ps) : ∃ x : BitVec 64, v = .int .u64 (u x) := by
  obtain ⟨n, rfl, _, _, hw⟩ := open_int Try.underlying43 hval hd
  obtain ⟨x, rfl⟩ := wf_u64 hw
  exact ⟨x, rfl⟩

/-- A row of bytes that came in: what of it can be read. -/
structure IsB (w : World) (A : Option Addr) (n cap : Nat) (l : List (BitVec 8)) : Prop where
  len : l.length = n
  rd : Rd w A l
  nl : A = none → n = 0 ∧ cap = 0
  cp : n ≤ cap
  mx : cap ≤ maxLen
theorem open_bs (hval : Value.okWide Try.prog w r b0 32 v) (hd : DataW.Trod enc Try.prog w base (fun _ => true) held 32 v d ps) : ∃ A n cap l, v = .slice A n cap ∧ IsB w A n cap l := by
  obtain ⟨a0, len0, cap0, rfl⟩ := okWide_slice Try.underlying32 hval
  obtain ⟨fuel, hf⟩ := hd
  rcases open_ints Try.underlying32 Try.underlying5 (by kernel_rfl) hf with ⟨h1, _⟩ | ⟨a, len, cap, zs, h1, _, hlc, hcm, hzl, _, hcell, hw⟩
  · simp [Value.cells] at h1
    obtain ⟨rfl, rfl, rfl⟩ := h1
    exact ⟨none, 0, 0, [], rfl, rfl, fun i hi => absurd hi (by simp), fun _ => ⟨rfl, rfl⟩, Nat.le_refl _, by decide⟩
  · simp [Value.cells] at h1
    obtain ⟨rfl, rfl, rfl⟩ := h1
    obtain ⟨s, rfl⟩ := all_u (fun n => wf_u8) zs hw
    simp at hzl
    refine ⟨some a, _, _, s.take len0, rfl, by simp; omega, fun i hi => ⟨a, rfl, ?_⟩, (fun h => by cases h), hlc, hcm⟩
    have hi2 : i < len0 := by simp at hi; omega
    rw [hcell i (by simp; omega)]
    simp [List.getD_eq_getElem?_getD, hi2, (by omega : i < s.length)]
end
end Go.Proofs.Ytdkimnigckpncaa
