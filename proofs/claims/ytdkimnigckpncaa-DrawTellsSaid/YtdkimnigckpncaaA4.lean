/-
  The walk of what the document fixes of draws.
-/
import Derived.Test.YtdkimnigckpncaaD7
namespace Go.Proofs.Ytdkimnigckpncaa
open Go.RowKit
set_option maxHeartbeats 1000000 in
theorem awake4_any (w : World) : Calls Try.prog 31 #[] w fun e w' => e = .returned (.bool true) ∧ Below w.heap.size w w' := by
  go_enter Try.func31, Try.ntmps31
  go_wp2_with fail
  have hr : Rw (w.alloc (.cells #[.int .u32 7, .int .u32 9] 22)) (some ⟨w.heap.size, 0, none⟩) [7#32, 9#32] := by
    intro i hi
    refine ⟨_, rfl, ?_⟩
    have hn := heap_alloc_new w (.cells #[.int .u32 7, .int .u32 9] 22)
    have ea : (⟨w.heap.size, 0, none⟩ : Addr).add i = ⟨w.heap.size, i, none⟩ := by
      have := Addr.add_mid w.heap.size 0 i; simpa using this
    rw [ea, cell_of_row _ _ i _ 22 (0, 0) hn]
    match i, hi with
    | 0, _ => rfl
    | 1, _ => rfl
  refine (tape_any (some ⟨w.heap.size, 0, none⟩) 2 2 [7#32, 9#32] rfl (by omega) _ hr).mono ?_
  clear hr
  rintro e w1 ⟨B, rfl, hB, hT, hb⟩
  have HB := Lib.hid (((Below.refl w.heap.size w).alloc (Nat.le_refl _) (.cells #[.int .u32 7, .int .u32 9] 22)).trans (hb.mono (by simp)))
  have hB2 : w.heap.size ≤ B := by simp at hB; omega
  have HT := Lib.hid hT
  clear hT hb hB
  go_wp2_with fail
  refine (HT.out.next 4).mono ?_
  rintro e w2 ⟨rfl, hT, hg⟩
  have v1 : Ch.msk (Ch.tp [7#32, 9#32] 0#64) 4 = 3 := by decide
  rw [v1]
  have HB1 := Lib.hid (HB.out.grown hg HB.out.size (fun k hk => by cases hk; exact hB2))
  have HT1 := Lib.hid hT
  clear hT hg HT HB v1
  go_wp2_with fail
  refine (HT1.out.next 8).mono ?_
  rintro e w3 ⟨rfl, hT, hg⟩
  have v1 : Ch.msk (Ch.tp [7#32, 9#32] (0#64 + 1#64)) 8 = 1 := by decide
  rw [v1]
  have HB := Lib.hid (HB1.out.grown hg HB1.out.size (fun k hk => by cases hk; exact hB2))
  have HT := Lib.hid hT
  clear hT hg HT1 HB1 v1
  go_wp2_with fail
  refine (HT.out.next 8).mono ?_
  rintro e w4 ⟨rfl, hT, hg⟩
  have v1 : Ch.msk (Ch.tp [7#32, 9#32] (0#64 + 1#64 + 1#64)) 8 = 0 := by decide
  rw [v1]
  have HB1 := Lib.hid (HB.out.grown hg HB.out.size (fun k hk => by cases hk; exact hB2))
  have HT1 := Lib.hid hT
  clear hT hg HT HB v1
  go_wp2_with fail
  refine HT1.out.used.mono ?_
  rintro e w5 ⟨rfl, rfl⟩
  have v1 : u (0#64 + 1#64 + 1#64 + 1#64) = 3 := by decide
  rw [v1]
  clear v1
  go_wp2_with fail
  refine (leaves_any _ _).mono ?_
  rintro e w5 ⟨rfl, rfl⟩
  have v1 : Ch.lf 1 = true := by decide
  rw [v1]
  clear v1
  go_wp2_with fail
  refine (leaves_any _ _).mono ?_
  rintro e w5 ⟨rfl, rfl⟩
  have v1 : Ch.lf 65536 = true := by decide +kernel
  rw [v1]
  clear v1
  go_wp2_with fail
  refine (leaves_any _ _).mono ?_
  rintro e w5 ⟨rfl, rfl⟩
  have v1 : Ch.lf 6 = false := by decide
  rw [v1]
  clear v1
  go_wp2_with fail
  refine (leaves_any _ _).mono ?_
  rintro e w5 ⟨rfl, rfl⟩
  have v1 : Ch.lf 0 = false := by decide
  rw [v1]
  clear v1
  go_wp2_with fail
  go_ret
  exact ⟨rfl, HB1.out⟩
end Go.Proofs.Ytdkimnigckpncaa
