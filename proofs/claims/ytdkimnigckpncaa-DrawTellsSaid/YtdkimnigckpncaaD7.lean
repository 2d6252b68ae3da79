/-
  Tapes as sources; the walk of Tape.
-/
import Derived.Test.YtdkimnigckpncaaD6
namespace Go.Proofs.Ytdkimnigckpncaa
open Go.RowKit

/-- A tape of the numbers l, at draw nx, lies in block B. -/
def Tp (w : World) (B : Nat) (l : List (BitVec 32)) (nx : BitVec 64) : Prop :=
  ∃ A n c, Sc w B (.slice A n c) false (List.replicate 32 0#8) nx ∧ l.length = n ∧ n ≤ 1000 ∧ Rw w A l ∧ ∀ ad, A = some ad → ad.block < B
theorem rw_grown {w w' : World} {r : Option Nat} {A : Option Addr} {l : List (BitVec 32)} (h : Rw w A l) (g : w.grownBy w' r) (hr : ∀ ad, A = some ad → r ≠ some ad.block) : Rw w' A l := by
  intro i hi
  obtain ⟨ad, e, hc⟩ := h i hi
  refine ⟨ad, e, g.cell hc ?_⟩
  have : (ad.add i).block = ad.block := by unfold Addr.add; split <;> rfl
  rw [this]
  exact fun e' => hr ad e e'.symm
section
variable {w w' : World} {B : Nat} {l : List (BitVec 32)} {nx : BitVec 64} (h : Tp w B l nx)
include h
theorem Tp.lt : B < w.heap.size := by
  obtain ⟨A, n, c, hs, _⟩ := h
  exact hs.lt
theorem Tp.later {r : Option Nat} (g : w.grownBy w' r) (hr : ∀ k, r = some k → B < k) : Tp w' B l nx := by
  obtain ⟨A, n, c, hs, hl, hn, hw, hb⟩ := h
  refine ⟨A, n, c, hs.later g (fun e => by have := hr B e; omega), hl, hn, rw_grown hw g ?_, hb⟩
  intro ad e e'
  have h1 := hb ad e
  have h2 := hr _ e'
  omega
theorem Tp.next (n : Int) :
    Calls Try.prog 33 #[.pointer (some ⟨B, 0, none⟩), .int .i64 n] w fun e w' => e = .returned (.int .i64 (Ch.msk (Ch.tp l nx) n)) ∧ Tp w' B l (nx + 1#64) ∧ w.grownBy w' (some B) := by
  obtain ⟨A, m, c, hs, hl, hn, hw, hb⟩ := h
  refine (next_t hs l hl (by omega) hw n).mono ?_
  rintro e w1 ⟨he, h1, hg⟩
  exact ⟨he, ⟨A, m, c, h1, hl, hn, rw_grown hw hg (fun ad e e' => by have := hb ad e; simp at e'; omega), hb⟩, hg⟩
theorem Tp.used : Calls Try.prog 35 #[.pointer (some ⟨B, 0, none⟩)] w fun e w' => e = .returned (.int .u64 (u nx)) ∧ w = w' := by
  obtain ⟨A, n, c, hs, _⟩ := h
  exact used_any hs
theorem Tp.seek (k : BitVec 64) : Calls Try.prog 41 #[.pointer (some ⟨B, 0, none⟩), .int .u64 (u k)] w fun e w' => e = .returned (.tuple #[]) ∧ Tp w' B l k ∧ w.grownBy w' (some B) := by
  obtain ⟨A, m, c, hs, hl, hn, hw, hb⟩ := h
  refine (seek_any hs k).mono ?_
  rintro e w1 ⟨he, h1, hg⟩
  exact ⟨he, ⟨A, m, c, h1, hl, hn, rw_grown hw hg (fun ad e e' => by have := hb ad e; simp at e'; omega), hb⟩, hg⟩
end

theorem built_tape (v : Value) (hv : v.cells = #[v]) : Try.prog.built 71 [(0, v)] = some (src v false (List.replicate 32 0#8) 0#64) := by
  rw [built71, fill_one _ _ 0 0 1 _ _ rfl (by rw [hv]; rfl) (by decide), Instr.fill]
  congr 1
  unfold laid
  rw [hv]
  rfl
theorem tape_any (A : Option Addr) (n c : Nat) (l : List (BitVec 32)) (hl : l.length = n) (hn : n ≤ 1000) (w : World) (hr : Rw w A l) :
    Calls Try.prog 32 #[.slice A n c] w fun e w' => ∃ B, e = .returned (.pointer (some ⟨B, 0, none⟩)) ∧ w.heap.size ≤ B ∧ Tp w' B l 0#64 ∧ Below w.heap.size w w' := by
  have HL := Lib.hid hl
  have HR := Lib.hid hr
  clear hl hr
  cases A with
  | none =>
    have hl0 : l = [] := by
      cases l with
      | nil => rfl
      | cons a r => obtain ⟨_, e, _⟩ := HR.out 0 (by simp); cases e
    subst hl0
    go_enter Try.func32, Try.ntmps32
    go_wp2_with fail
    refine (clone_none _ _ _).mono ?_
    rintro e w1 ⟨rfl, rfl⟩
    go_wp2_with (refine wpList_built rfl 71 _ rfl [(0, .slice none 0 0)] (by kernel_rfl) _ (built_tape _ rfl) ?_)
    go_ret
    exact ⟨_, rfl, Nat.le_refl _, ⟨none, 0, 0, ⟨heap_alloc_new _ _, by simp⟩, rfl, by omega, fun i hi => absurd hi (by simp), fun ad e => by cases e⟩, (Below.refl _ _).alloc (Nat.le_refl _) _⟩
  | some ad =>
    go_enter Try.func32, Try.ntmps32
    go_wp2_with fail
    refine (clone_some ad n c l HL.out hn w HR.out).mono ?_
    rintro e w1 ⟨v, rfl, ho, hb⟩
    have hv : v.cells = #[v] := by
      rcases ho.2 with ⟨rfl, _⟩ | ⟨g, cap, cur, rfl, _⟩ <;> rfl
    have HO := Lib.hid ho
    have HB := Lib.hid hb
    have HV := Lib.hid hv
    clear ho hb hv
    go_wp2_with (refine wpList_built rfl 71 _ rfl [(0, v)] (by kernel_rfl) _ (built_tape _ HV.out) ?_)
    go_ret
    have hsz := HB.out.size
    have hs : Sc (w1.alloc (.cells (src v false (List.replicate 32 0#8) 0#64) 71)) w1.heap.size v false (List.replicate 32 0#8) 0#64 := ⟨heap_alloc_new _ _, by simp⟩
    have ho2 := HO.out.alloc (.cells (src v false (List.replicate 32 0#8) 0#64) 71)
    refine ⟨_, rfl, hsz, ?_, HB.out.alloc hsz _⟩
    rcases HO.out.2 with ⟨rfl, h0⟩ | ⟨g, cap, cur, rfl, hbg, hg, hcap, _⟩
    · have hln : l = [] := List.eq_nil_of_length_eq_zero (HL.out.trans h0)
      subst hln
      exact ⟨none, 0, 0, hs, rfl, by omega, fun i hi => absurd hi (by simp), fun ad e => by cases e⟩
    · refine ⟨some ⟨g, 0, none⟩, n, cap, hs, HL.out, hn, fun i hi => ⟨_, rfl, ?_⟩, fun ad e => ?_⟩
      · exact ho2.cells rfl i _ (by simp [hi])
      · cases e
        exact (Array.getElem?_eq_some_iff.1 hg).1
end Go.Proofs.Ytdkimnigckpncaa
