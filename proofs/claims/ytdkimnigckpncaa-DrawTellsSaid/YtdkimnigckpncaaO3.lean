/-
  Rows of numbers that came in; opening them.
-/
import Derived.Test.YtdkimnigckpncaaO2
import Derived.Test.YtdkimnigckpncaaI
namespace Go.Proofs.Ytdkimnigckpncaa
open Go.ChangeShapes Go.WideShapes Go.ChangeAt Go.RowKit
section
variable {H : Type} {enc : TypeId × Value → H} {w : World} {base : Nat} {held : Bool} {r : Reach} {b0 : Nat} {v : Value} {d : DataW H} {ps : List MemPlace}
theorem open_ws (hval : Value.okWide Try.prog w r b0 46 v) (hd : DataW.Trod enc Try.prog w base (fun _ => true) held 46 v d ps) : ∃ A n cap l, v = .slice A n cap ∧ IsW w A n cap l := by
  obtain ⟨a0, len0, cap0, rfl⟩ := okWide_slice Try.underlying46 hval
  obtain ⟨fuel, hf⟩ := hd
  rcases open_ints Try.underlying46 Try.underlying22 (by kernel_rfl) hf with ⟨h1, _⟩ | ⟨a, len, cap, zs, h1, _, hlc, hcm, hzl, _, hcell, hw⟩
  · simp [Value.cells] at h1
    obtain ⟨rfl, rfl, rfl⟩ := h1
    exact ⟨none, 0, 0, [], rfl, rfl, fun i hi => absurd hi (by simp), fun _ => ⟨rfl, rfl⟩, Nat.le_refl _, by decide⟩
  · simp [Value.cells] at h1
    obtain ⟨rfl, rfl, rfl⟩ := h1
    obtain ⟨s, rfl⟩ := all_u (fun n => wf_u32) zs hw
    simp at hzl
    refine ⟨some a, _, _, s.take len0, rfl, by rw [List.length_take]; omega, fun i hi => ⟨a, rfl, ?_⟩, (fun h => by cases h), hlc, hcm⟩
    have hi2 : i < len0 := by rw [List.length_take] at hi; omega
    rw [hcell i (by first | omega | (simp; omega))]
    simp [List.getD_eq_getElem?_getD, hi2, (by omega : i < s.length)]
theorem open_is (hval : Value.okWide Try.prog w r b0 57 v) (hd : DataW.Trod enc Try.prog w base (fun _ => true) held 57 v d ps) : ∃ A n cap l, v = .slice A n cap ∧ IsI w A n cap l := by
  obtain ⟨a0, len0, cap0, rfl⟩ := okWide_slice Try.underlying57 hval
  obtain ⟨fuel, hf⟩ := hd
  rcases open_ints Try.underlying57 Try.underlying3 (by kernel_rfl) hf with ⟨h1, _⟩ | ⟨a, len, cap, zs, h1, _, hlc, hcm, hzl, _, hcell, hw⟩
  · simp [Value.cells] at h1
    obtain ⟨rfl, rfl, rfl⟩ := h1
    exact ⟨none, 0, 0, [], rfl, rfl, fun i hi => absurd hi (by simp), fun _ => ⟨rfl, rfl⟩, Nat.le_refl _, by decide⟩
  · simp [Value.cells] at h1
    obtain ⟨rfl, rfl, rfl⟩ := h1
    have hzl : zs.length = cap0 := hzl
    refine ⟨some a, _, _, zs.take len0, rfl, by rw [List.length_take]; omega, fun i hi => ⟨a, rfl, ?_⟩, (fun h => by cases h), hlc, hcm⟩
    have hi2 : i < len0 := by rw [List.length_take] at hi; omega
    rw [hcell i (by first | omega | (simp; omega))]
    simp [List.getD_eq_getElem?_getD, hi2, (by omega : i < zs.length)]
theorem open_us (hval : Value.okWide Try.prog w r b0 58 v) (hd : DataW.Trod enc Try.prog w base (fun _ => true) held 58 v d ps) : ∃ A n cap l, v = .slice A n cap ∧ IsU w A n cap l := by
  obtain ⟨a0, len0, cap0, rfl⟩ := okWide_slice Try.underlying58 hval
  obtain ⟨fuel, hf⟩ := hd
  rcases open_ints Try.underlying58 Try.underlying43 (by kernel_rfl) hf with ⟨h1, _⟩ | ⟨a, len, cap, zs, h1, _, hlc, hcm, hzl, _, hcell, hw⟩
  · simp [Value.cells] at h1
    obtain ⟨rfl, rfl, rfl⟩ := h1
    exact ⟨none, 0, 0, [], rfl, rfl, fun i hi => absurd hi (by simp), fun _ => ⟨rfl, rfl⟩, Nat.le_refl _, by decide⟩
  · simp [Value.cells] at h1
    obtain ⟨rfl, rfl, rfl⟩ := h1
    obtain ⟨s, rfl⟩ := all_u (fun n => wf_u64) zs hw
    simp at hzl
    refine ⟨some a, _, _, s.take len0, rfl, by rw [List.length_take]; omega, fun i hi => ⟨a, rfl, ?_⟩, (fun h => by cases h), hlc, hcm⟩
    have hi2 : i < len0 := by rw [List.length_take] at hi; omega
    rw [hcell i (by first | omega | (simp; omega))]
    simp [List.getD_eq_getElem?_getD, hi2, (by omega : i < s.length)]
end
end Go.Proofs.Ytdkimnigckpncaa
