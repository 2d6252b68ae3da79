/-
  Opening a law's arguments: an array of whole numbers by value; a number of an unsigned kind as a bit vector; a list of such.
-/
import Derived.Test.YtdkimnigckpncaaE
import Derived.ProofKit
import Derived.OpenShut
import Derived.ChangeOld
namespace Go.Proofs.Ytdkimnigckpncaa
open Go.ChangeShapes Go.WideShapes Go.ChangeAt Go.RowKit

theorem Try.own : ownKnob Try.prog.godebug = none := by kernel_rfl
theorem Try.laidOut : laidOutB Try.prog = true := by kernel_rfl

theorem okWide_arr {P : Program} {w : World} {r : Reach} {b0 : Nat} {t e : TypeId} {n : Nat} {v : Value} (ht : P.underlying t = some (.array n e)) (h : Value.okWide P w r b0 t v) : ∃ cs, v = .agg cs ∧ cs.size = P.cellsOf t := by
  unfold Value.okWide at h
  rw [ht] at h
  obtain ⟨cs, h1, h2, _⟩ := h
  exact ⟨cs, h1, h2⟩

/-- An array of whole numbers that came in by value. -/
theorem open_arr {H : Type} {enc : TypeId × Value → H} {P : Program} {w : World} {base : Nat} {spare : Nat → Bool} {held : Bool} {r : Reach} {b0 : Nat} {t e : TypeId} {k : IntKind} {n : Nat} {v : Value} {d : DataW H} {ps : List MemPlace}
    (ht : P.underlying t = some (.array n e)) (he : P.underlying e = some (.int k)) (hc : P.cellsOf e = 1) (hn : P.cellsOf t = n)
    (hval : Value.okWide P w r b0 t v) (hd : DataW.Trod enc P w base spare held t v d ps) :
    ∃ zs : List Int, v = .agg (ints k zs) ∧ zs.length = n ∧ ∀ z ∈ zs, (Lit.int k z).wf = true := by
  obtain ⟨cs, rfl, hs⟩ := okWide_arr ht hval
  obtain ⟨fuel, hf⟩ := hd
  obtain ⟨xs, m, _, _, hl, hxl, hg⟩ := DataW.trod_array ht hf
  have hs' : cs.size = n := hs.trans hn
  have hall : ∀ i, i < n → ∃ z : Int, cs[i]? = some (.int k z) ∧ (Lit.int k z).wf = true := by
    intro i hi
    have h1 := hg i hi
    rw [hc, Nat.mul_one] at h1
    have hx : xs[i]? = some (xs[i]'(by omega)) := List.getElem?_eq_getElem (by omega)
    rw [hx] at h1
    have hci : i < cs.toList.length := by simp; omega
    have htake : ((Value.agg cs).cells.toList.drop i).take 1 = [cs.toList[i]'hci] := by
      show (cs.toList.drop i).take 1 = _
      rw [List.drop_eq_getElem_cons hci]
      rfl
    rw [htake] at h1
    obtain ⟨z, hz, _, hw⟩ := DataW.trod_int he h1
    refine ⟨z, ?_, hw⟩
    have : cs.toList[i]'hci = .int k z := by simpa using hz
    rw [Array.getElem?_eq_getElem (by omega)]
    simpa using this
  have hex : ∀ m, m ≤ n → ∃ zs : List Int, zs.length = m ∧ (∀ z ∈ zs, (Lit.int k z).wf = true) ∧ ∀ i, i < m → cs[i]? = some (.int k (zs.getD i 0)) := by
    intro m
    induction m with
    | zero => exact fun _ => ⟨[], rfl, by simp, fun i hi => absurd hi (by omega)⟩
    | succ m ih =>
      intro hm
      obtain ⟨zs, hz, hw, hcs⟩ := ih (by omega)
      obtain ⟨z, h1, h2⟩ := hall m (by omega)
      refine ⟨zs ++ [z], by simp [hz], fun y hy => ?_, fun i hi => ?_⟩
      · rcases List.mem_append.1 hy with h | h
        · exact hw y h
        · have : y = z := by simpa using h
          subst this; exact h2
      · by_cases hlt : i < m
        · rw [hcs i hlt, List.getD_eq_getElem?_getD, List.getD_eq_getElem?_getD, List.getElem?_append_left (by omega)]
        · have : i = m := by omega
          subst this
          rw [h1, List.getD_eq_getElem?_getD, List.getElem?_append_right (by omega)]
          simp [hz]
  obtain ⟨zs, hz, hw, hcs⟩ := hex n (Nat.le_refl _)
  refine ⟨zs, ?_, hz, hw⟩
  congr 1
  refine Array.ext_getElem? fun i => ?_
  by_cases hi : i < n
  · rw [hcs i hi]
    simp [ints, hz, hi]
  · rw [Array.getElem?_eq_none (by omega), Array.getElem?_eq_none (by simp [ints]; omega)]

theorem wf_u32 {n : Int} (h : (Lit.int .u32 n).wf = true) : ∃ x : BitVec 32, n = u x := by
  have h2 : 0 ≤ n ∧ n < 4294967296 := by
    simp [Lit.wf, IntKind.min, IntKind.max, IntKind.bits, IntKind.signed] at h
    omega
  refine ⟨BitVec.ofNat 32 n.toNat, ?_⟩
  unfold u
  rw [BitVec.toNat_ofNat]
  omega
theorem wf_u8 {n : Int} (h : (Lit.int .u8 n).wf = true) : ∃ x : BitVec 8, n = u x := by
  have h2 : 0 ≤ n ∧ n < 256 := by
    simp [Lit.wf, IntKind.min, IntKind.max, IntKind.bits, IntKind.signed] at h
    omega
  refine ⟨BitVec.ofNat 8 n.toNat, ?_⟩
  unfold u
  rw [BitVec.toNat_ofNat]
  omega
theorem wf_u64 {n : Int} (h : (Lit.int .u64 n).wf = true) : ∃ x : BitVec 64, n = u x := by
  have h2 : 0 ≤ n ∧ n < 18446744073709551616 := by
    simp [Lit.wf, IntKind.min, IntKind.max, IntKind.bits, IntKind.signed] at h
    omega
  refine ⟨BitVec.ofNat 64 n.toNat, ?_⟩
  unfold u
  rw [BitVec.toNat_ofNat]
  omega
theorem all_u {k : IntKind} {w : Nat} (h1 : ∀ n : Int, (Lit.int k n).wf = true → ∃ x : BitVec w, n = u x) : ∀ zs : List Int, (∀ z ∈ zs, (Lit.int k z).wf = true) → ∃ xs : List (BitVec w), zs = xs.map u
  | [], _ => ⟨[], rfl⟩
  | z :: zs, h => by
    obtain ⟨x, hx⟩ := h1 z (h z (List.mem_cons_self ..))
    obtain ⟨xs, hxs⟩ := all_u h1 zs (fun y hy => h y (List.mem_cons_of_mem _ hy))
    exact ⟨x :: xs, by rw [hx, hxs]; rfl⟩

/-- A state of sixteen words that came in. -/
theorem open_state {H : Type} {enc : TypeId × Value → H} {w : World} {base : Nat} {spare : Nat → Bool} {held : Bool} {r : Reach} {b0 : Nat} {v : Value} {d : DataW H} {ps : List MemPlace}
    (hval : Value.okWide Try.prog w r b0 23 v) (hd : DataW.Trod enc Try.prog w base spare held 23 v d ps) : ∃ s : List (BitVec 32), v = .agg (c32 s) ∧ s.length = 16 := by
  obtain ⟨zs, rfl, hl, hw⟩ := open_arr Try.underlying23 Try.underlying22 (by kernel_rfl) (by kernel_rfl) hval hd
  obtain ⟨s, rfl⟩ := all_u (fun n => wf_u32) zs hw
  exact ⟨s, by rw [c32_ints], by simpa using hl⟩
theorem open_u32 {H : Type} {enc : TypeId × Value → H} {w : World} {base : Nat} {spare : Nat → Bool} {held : Bool} {r : Reach} {b0 : Nat} {v : Value} {d : DataW H} {ps : List MemPlace}
    (hval : Value.okWide Try.prog w r b0 22 v) (hd : DataW.Trod enc Try.prog w base spare held 22 v d ps) : ∃ x : BitVec 32, v = .int .u32 (u x) := by
  obtain ⟨n, rfl, _, _, hw⟩ := open_int Try.underlying22 hval hd
  obtain ⟨x, rfl⟩ := wf_u32 hw
  exact ⟨x, rfl⟩

/-- A place of a reading is below the heap's size. -/
theorem trod_below {H : Type} {enc : TypeId × Value → H} {W : World} {t : TypeId} {v : Value} {d : DataW H} {ps : List MemPlace} (h : DataW.Trod enc Try.prog W 0 (fun _ => true) true t v d ps) : ∀ x ∈ ps, x.block < W.heap.size := by
  obtain ⟨m, hm⟩ := h
  exact DataW.trod_lt m _ _ _ hm
end Go.Proofs.Ytdkimnigckpncaa
