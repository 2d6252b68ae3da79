/-
  Bytes as strings; the walk of Same.
-/
import Derived.Test.YtdkimnigckpncaaX2
import Derived.Laws.BytesArg
namespace Go.Proofs.Ytdkimnigckpncaa
open Go.RowKit

def str (l : List (BitVec 8)) : ByteArray := strOfNums (l.map u)
theorem str_inj {l m : List (BitVec 8)} : str l = str m ↔ l = m := by
  constructor
  · intro h
    have h2 := congrArg (fun s : ByteArray => s.data.toList) h
    unfold str at h2
    simp only [strOfNums_data, List.map_map] at h2
    refine (List.map_inj_right ?_).1 h2
    intro a b e
    have e2 := congrArg UInt8.toNat e
    simp [u] at e2
    apply BitVec.eq_of_toNat_eq
    have := a.isLt
    have := b.isLt
    omega
  · intro h; rw [h]
theorem str_size (l : List (BitVec 8)) : (str l).size = l.length := by rw [str, strOfNums_size, List.length_map]
theorem conv_any {src e : TypeId} (hs : Try.prog.underlying src = some (.slice e)) (he : Try.prog.underlying e = some (.int .u8)) (A : Option Addr) (n cap : Nat) (l : List (BitVec 8)) (hl : l.length = n) (w : World) (hr : Rd w A l) :
    (convert src 9 (.slice A n cap)).run Try.prog w = .ok (.string (str l)) w := by
  cases A with
  | none =>
    have h0 : l = [] := by
      cases l with
      | nil => rfl
      | cons a r => obtain ⟨_, e, _⟩ := hr 0 (by simp); cases e
    subst h0
    rw [run_convert_bytes_nil w src e hs he n cap 9 Try.underlying9]
    rfl
  | some ad =>
    have hload : (loadCells ad n).run Try.prog w = .ok ((l.map u).map (Value.int .u8)).toArray w := by
      have := run_loadCells_list (P := Try.prog) w ad ((l.map u).map (Value.int .u8)) (fun j v hj => by
        have hjl : j < l.length := by
          rcases Nat.lt_or_ge j l.length with h | h
          · exact h
          · rw [List.getElem?_eq_none (by simpa using h)] at hj; cases hj
        obtain ⟨_, e, hc⟩ := hr j hjl
        obtain rfl : ad = _ := Option.some.inj e
        rw [hc, ← hj]
        simp [hjl])
      simpa [hl] using this
    rw [run_convert_bytes_string w src 9 e _ n cap hs he Try.underlying9, run_bytesToString w ad n cap _ hload, foldl_push_bytes]
    simp [str, strOfNums, ByteArray.empty, ByteArray.emptyWithCapacity]
    rfl

theorem eq_str (l k : List (BitVec 8)) : ((str l).toList == (str k).toList) = decide (l = k) := by
  rw [ByteArray.toList_eq, ByteArray.toList_eq]
  by_cases h : l = k
  · subst h; simp
  · have : ¬ (str l).data = (str k).data := fun e => h (str_inj.1 (by
      cases hs : str l; cases ht : str k
      rw [hs, ht] at e
      exact congrArg _ e))
    simp [h, this]

theorem same_any (A : Option Addr) (n cap : Nat) (l : List (BitVec 8)) (hl : l.length = n) (B : Option Addr) (m cap' : Nat) (k : List (BitVec 8)) (hk : k.length = m) (w : World) (hA : Rd w A l) (hB : Rd w B k) :
    Calls Try.prog 27 #[.slice A n cap, .slice B m cap'] w fun e w' => e = .returned (.bool (decide (l = k))) ∧ w = w' := by
  have h1 := conv_any Try.underlying32 Try.underlying5 A n cap l hl w hA
  have h2 := conv_any Try.underlying32 Try.underlying5 B m cap' k hk w hB
  have h3 := @str_inj l k
  clear hA hB
  go_enter Try.func27, Try.ntmps27
  go_wp2
  go_ret
  exact ⟨by simp [eq_str], rfl⟩
end Go.Proofs.Ytdkimnigckpncaa
