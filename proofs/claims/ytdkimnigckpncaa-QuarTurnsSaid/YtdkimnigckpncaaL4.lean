/-
  The walks of the laws QuarVectors and QuarBacks.
-/
import Derived.Test.YtdkimnigckpncaaL3
namespace Go.Proofs.Ytdkimnigckpncaa
open Go.RowKit

/-- A function done so many times. -/
def rep {α : Type} (f : α → α) : Nat → α → α
  | 0, x => x
  | n + 1, x => f (rep f n x)
theorem rep_in {α : Type} (f : α → α) : ∀ (n : Nat) (x : α), rep f n (f x) = f (rep f n x)
  | 0, _ => rfl
  | n + 1, x => by rw [rep, rep_in f n x, rep]
theorem rep_keep {α : Type} {p : α → Prop} {f : α → α} (h : ∀ x, p x → p (f x)) : ∀ (n : Nat) (x : α), p x → p (rep f n x)
  | 0, _, hx => hx
  | n + 1, x, hx => h _ (rep_keep h n x hx)
theorem rep_back {α : Type} {p : α → Prop} {f g : α → α} (hf : ∀ x, p x → p (f x)) (hg : ∀ x, p x → g (f x) = x) : ∀ (n : Nat) (x : α), p x → rep g n (rep f n x) = x
  | 0, _, _ => rfl
  | n + 1, x, hx => by
    show g (rep g n (f (rep f n x))) = x
    rw [← rep_in g n (f (rep f n x)), hg _ (rep_keep hf n x hx)]
    exact rep_back hf hg n x hx

theorem and_mask (n : Int) : ∃ m : Nat, m < 16 ∧ bits .and .i64 n 15 = (m : Int) := by
  have h : bits .and .i64 n 15 = IntKind.i64.wrap ((BitVec.ofInt 64 n &&& 15#64).toNat : Int) := rfl
  have hle : (BitVec.ofInt 64 n &&& 15#64).toNat ≤ 15 := by
    rw [BitVec.toNat_and]
    exact Nat.and_le_right
  refine ⟨(BitVec.ofInt 64 n &&& 15#64).toNat, by omega, ?_⟩
  rw [h, IntKind.wrap_i64]
  omega

set_option maxRecDepth 100000 in
set_option maxHeartbeats 1000000 in
theorem backs_any (s : List (BitVec 32)) (hs : s.length = 16) (n : Int) (w : World) : Calls Try.prog 4 #[.agg (c32 s), .int .i64 n] w fun e w' => e = .returned (.bool true) ∧ Below w.heap.size w w' := by
  obtain ⟨m, hm, hnm⟩ := and_mask n
  have e2 := eqin_self s hs
  have HS := Lib.hid hs
  clear hs
  go_enter Try.func4, Try.ntmps4
  go_wp2_with (first | (refine wpList_load_row rfl 23 (.tmp 2) rfl w.heap.size rfl 23 (c32 s) (0, 0) _ (heap_alloc_new w _) Try.underlying23 rfl (by rw [info23, c32_size, HS.out]) ?_) |
    (refine wpList_store_whole rfl 23 (.tmp 5) (.tmp 11) rfl (w.heap.size + 1) 23 _ (c32 s) rfl rfl (heap_alloc2_new _ _ _) (by rw [info23, c32_size, HS.out]) (by rw [c32_size, HS.out]; rfl) (c32_all _) ?_; intro w1 h5 gr))
  have h2 : w1.heap[w.heap.size]? = some (.cells (c32 s) 23 (0, 0)) := (gr.block w.heap.size (by simp; omega) (by simp)).trans (heap_alloc2_old w _ _)
  have hb := grown_below (((Below.refl w.heap.size w).alloc (Nat.le_refl _) (.cells (c32 s) 23)).alloc (by simp) _) gr (by simp; omega) (by omega)
  clear gr
  go_loopw [6] (fun i wr => ∃ (k : Nat) (s' : List (BitVec 32)), k ≤ m ∧ i = .int .i64 k ∧ Hid (s' = rep Qu.dbl k (s)) ∧ Hid (s'.length = 16) ∧ wr.heap[w.heap.size + 1]? = some (.cells (c32 s') 23 (0, 0)) ∧ wr.heap[w.heap.size]? = some (.cells (c32 (s)) 23 (0, 0)) ∧ Below w.heap.size w wr ∧ w.heap.size + 1 < wr.heap.size) (fun i _ => m - (intOf i).toNat)
  case atStart => exact ⟨0, s, Nat.zero_le _, rfl, rfl, HS.out, h5, h2, hb, Blk_lt h5⟩
  case round =>
    obtain ⟨k, s', hk, rfl, hs1, hs2, hh, o0, hbr, hzr⟩ := hrel
    clear hb h5 h2
    by_cases hlt : k < m
    · go_wp2_with (refine wpList_load_row rfl 23 (.tmp 5) rfl (w.heap.size + 1) rfl 23 (c32 s') (0, 0) _ hh Try.underlying23 rfl (by rw [info23, c32_size, hs2.out]) ?_)
      refine (double_any s' hs2.out _).mono ?_
      rintro e w2 ⟨rfl, hb2⟩
      have hh2 := held hb2 hzr hh
      have q0 := held hb2 (Blk_lt o0) o0
      have hbr2 := on hbr (Nat.le_refl _) hb2
      have hsz2 := hb2.size
      clear hh o0 hb2
      go_wp2_with (refine wpList_store_whole rfl 23 (.tmp 5) (.tmp 20) rfl (w.heap.size + 1) 23 (c32 s') (c32 (Qu.dbl s')) rfl rfl hh2 (by rw [info23, c32_size, Qu.dbl_length, hs2.out]) (by rw [c32_size, c32_size, Qu.dbl_length]) (c32_all _) ?_; intro w3 h3 g3)
      have r5 := grown_below hbr2 g3 (by omega) (by omega)
      have r6 : w.heap.size + 1 < w3.heap.size := Blk_lt h3
      have z0 := (g3.block _ (Blk_lt q0) (by simp)).trans q0
      have r1 : Hid (Qu.dbl s' = rep Qu.dbl (k + 1) (s)) := by show _ = _; rw [rep, ← hs1.out]
      have r2 : Hid ((Qu.dbl s').length = 16) := (Qu.dbl_length s').trans hs2.out
      clear hh2 q0 g3 hbr2
      go_roundw
      case rel => exact ⟨k + 1, Qu.dbl s', by omega, by go_num, r1, r2, h3, z0, r5, r6⟩
      case measure => simp [intOf]; omega
    · have hkm : m = k := by omega
      subst hkm
      have h5 := hh
      have h2 := o0
      have hb := hbr
      have hz0 := hzr
      have HS5 := hs2
      have HE5 := hs1
      obtain ⟨t5, ht5⟩ : ∃ t5, t5 = s' := ⟨_, rfl⟩
      subst ht5
      clear hh o0 hbr hzr hs1 hs2 hlt hk
      go_wp2_with fail
      go_loopw [7] (fun i wr => ∃ (k : Nat) (s' : List (BitVec 32)), k ≤ m ∧ i = .int .i64 k ∧ Hid (s' = rep Qu.bak k (t5)) ∧ Hid (s'.length = 16) ∧ wr.heap[w.heap.size + 1]? = some (.cells (c32 s') 23 (0, 0)) ∧ wr.heap[w.heap.size]? = some (.cells (c32 (s)) 23 (0, 0)) ∧ Below w.heap.size w wr ∧ w.heap.size + 1 < wr.heap.size) (fun i _ => m - (intOf i).toNat)
      case atStart => exact ⟨0, t5, Nat.zero_le _, rfl, rfl, HS5.out, h5, h2, hb, Blk_lt h5⟩
      case round =>
        obtain ⟨k, s', hk, rfl, hs1, hs2, hh, o0, hbr, hzr⟩ := hrel
        clear hb h5 h2
        by_cases hlt : k < m
        · go_wp2_with (refine wpList_load_row rfl 23 (.tmp 5) rfl (w.heap.size + 1) rfl 23 (c32 s') (0, 0) _ hh Try.underlying23 rfl (by rw [info23, c32_size, hs2.out]) ?_)
          refine (back_any s' hs2.out _).mono ?_
          rintro e w2 ⟨rfl, hb2⟩
          have hh2 := held hb2 hzr hh
          have q0 := held hb2 (Blk_lt o0) o0
          have hbr2 := on hbr (Nat.le_refl _) hb2
          have hsz2 := hb2.size
          clear hh o0 hb2
          go_wp2_with (refine wpList_store_whole rfl 23 (.tmp 5) (.tmp 27) rfl (w.heap.size + 1) 23 (c32 s') (c32 (Qu.bak s')) rfl rfl hh2 (by rw [info23, c32_size, Qu.bak_length, hs2.out]) (by rw [c32_size, c32_size, Qu.bak_length]) (c32_all _) ?_; intro w3 h3 g3)
          have r5 := grown_below hbr2 g3 (by omega) (by omega)
          have r6 : w.heap.size + 1 < w3.heap.size := Blk_lt h3
          have z0 := (g3.block _ (Blk_lt q0) (by simp)).trans q0
          have r1 : Hid (Qu.bak s' = rep Qu.bak (k + 1) (t5)) := by show _ = _; rw [rep, ← hs1.out]
          have r2 : Hid ((Qu.bak s').length = 16) := (Qu.bak_length s').trans hs2.out
          clear hh2 q0 g3 hbr2
          go_roundw
          case rel => exact ⟨k + 1, Qu.bak s', by omega, by go_num, r1, r2, h3, z0, r5, r6⟩
          case measure => simp [intOf]; omega
        · have hkm : m = k := by omega
          subst hkm
          have hE : s' = s := by
            rw [hs1.out, HE5.out]
            exact rep_back (p := fun x : List (BitVec 32) => x.length = 16) (fun x hx => (Qu.dbl_length x).trans hx) (fun x hx => Qu.bak_dbl x hx) m s HS.out
          subst hE
          clear hs1 HE5 HS5 hlt hk hz0
          go_wp2_with (first | (refine wpList_load_row rfl 23 (.tmp 2) rfl w.heap.size rfl 23 (c32 s') (0, 0) _ o0 Try.underlying23 rfl (by rw [info23, c32_size, HS.out]) ?_) |
            (refine wpList_store_whole rfl 23 (.tmp 8) (.tmp 28) rfl wr.heap.size 23 _ (c32 s') rfl rfl (heap_alloc_new _ _) (by rw [info23, c32_size, HS.out]) (by rw [c32_size, HS.out]; rfl) (c32_all _) ?_; intro w4 h8 g4))
          have h2 := (new_keep g4 (Blk_lt o0)).trans o0
          have h5 := (new_keep g4 hzr).trans hh
          have hb := new_below hbr (by omega) g4
          obtain ⟨g8, hg8⟩ : ∃ g8, g8 = wr.heap.size := ⟨_, rfl⟩
          rw [← hg8] at h8 hzr
          simp only [← hg8]
          clear o0 hh hbr g4 hs2 hg8
          go_loopw [9] (fun i wr => ∃ (k : Nat) (s2 : List (BitVec 32)), k ≤ m ∧ i = .int .i64 k ∧ Hid (s2 = rep Qu.bak k s') ∧ Hid (s2.length = 16) ∧ wr.heap[g8]? = some (.cells (c32 s2) 23 (0, 0)) ∧ wr.heap[w.heap.size]? = some (.cells (c32 s') 23 (0, 0)) ∧ wr.heap[w.heap.size + 1]? = some (.cells (c32 s') 23 (0, 0)) ∧ Below w.heap.size w wr ∧ g8 < wr.heap.size) (fun i _ => m - (intOf i).toNat)
          case atStart => exact ⟨0, s', Nat.zero_le _, rfl, rfl, HS.out, h8, h2, h5, hb, Blk_lt h8⟩
          case round =>
            obtain ⟨k, s2, hk, rfl, hs1, hs2, hh, o0, o1, hbr, hzr⟩ := hrel
            clear hb h8 h2 h5
            by_cases hlt : k < m
            · go_wp2_with (refine wpList_load_row rfl 23 (.tmp 8) rfl (g8) rfl 23 (c32 s2) (0, 0) _ hh Try.underlying23 rfl (by rw [info23, c32_size, hs2.out]) ?_)
              refine (back_any s2 hs2.out _).mono ?_
              rintro e w2 ⟨rfl, hb2⟩
              have hh2 := held hb2 hzr hh
              have q0 := held hb2 (Blk_lt o0) o0
              have q1 := held hb2 (Blk_lt o1) o1
              have hbr2 := on hbr (Nat.le_refl _) hb2
              have hsz2 := hb2.size
              clear hh o0 o1 hb2
              go_wp2_with (refine wpList_store_whole rfl 23 (.tmp 8) (.tmp 35) rfl (g8) 23 (c32 s2) (c32 (Qu.bak s2)) rfl rfl hh2 (by rw [info23, c32_size, Qu.bak_length, hs2.out]) (by rw [c32_size, c32_size, Qu.bak_length]) (c32_all _) ?_; intro w3 h3 g3)
              have r5 := grown_below hbr2 g3 (by omega) (by omega)
              have r6 : g8 < w3.heap.size := Blk_lt h3
              have z0 := (g3.block _ (Blk_lt q0) (by simp; omega)).trans q0
              have z1 := (g3.block _ (Blk_lt q1) (by simp; omega)).trans q1
              have r1 : Hid (Qu.bak s2 = rep Qu.bak (k + 1) s') := by show _ = _; rw [rep, ← hs1.out]
              have r2 : Hid ((Qu.bak s2).length = 16) := (Qu.bak_length s2).trans hs2.out
              clear hh2 q0 q1 g3 hbr2
              go_roundw
              case rel => exact ⟨k + 1, Qu.bak s2, by omega, by go_num, r1, r2, h3, z0, z1, r5, r6⟩
              case measure => simp [intOf]; omega
            · have hkm : m = k := by omega
              subst hkm
              have h8 := hh
              have h2 := o0
              have h5 := o1
              have hb := hbr
              have HS5 := hs2
              have HE5 := hs1
              obtain ⟨t5, ht5⟩ : ∃ t5, t5 = s2 := ⟨_, rfl⟩
              subst ht5
              clear hh o0 o1 hbr hs1 hs2 hlt hk hzr
              go_wp2_with fail
              go_loopw [10] (fun i wr => ∃ (k : Nat) (s2 : List (BitVec 32)), k ≤ m ∧ i = .int .i64 k ∧ Hid (s2 = rep Qu.dbl k (t5)) ∧ Hid (s2.length = 16) ∧ wr.heap[g8]? = some (.cells (c32 s2) 23 (0, 0)) ∧ wr.heap[w.heap.size]? = some (.cells (c32 s') 23 (0, 0)) ∧ wr.heap[w.heap.size + 1]? = some (.cells (c32 s') 23 (0, 0)) ∧ Below w.heap.size w wr ∧ g8 < wr.heap.size) (fun i _ => m - (intOf i).toNat)
              case atStart => exact ⟨0, t5, Nat.zero_le _, rfl, rfl, HS5.out, h8, h2, h5, hb, Blk_lt h8⟩
              case round =>
                obtain ⟨k, s2, hk, rfl, hs1, hs2, hh, o0, o1, hbr, hzr⟩ := hrel
                clear hb h8 h2 h5
                by_cases hlt : k < m
                · go_wp2_with (refine wpList_load_row rfl 23 (.tmp 8) rfl (g8) rfl 23 (c32 s2) (0, 0) _ hh Try.underlying23 rfl (by rw [info23, c32_size, hs2.out]) ?_)
                  refine (rdouble_any s2 hs2.out _).mono ?_
                  rintro e w2 ⟨rfl, hb2⟩
                  have hh2 := held hb2 hzr hh
                  have q0 := held hb2 (Blk_lt o0) o0
                  have q1 := held hb2 (Blk_lt o1) o1
                  have hbr2 := on hbr (Nat.le_refl _) hb2
                  have hsz2 := hb2.size
                  clear hh o0 o1 hb2
                  go_wp2_with (refine wpList_store_whole rfl 23 (.tmp 8) (.tmp 42) rfl (g8) 23 (c32 s2) (c32 (Qu.dbl s2)) rfl rfl hh2 (by rw [info23, c32_size, Qu.dbl_length, hs2.out]) (by rw [c32_size, c32_size, Qu.dbl_length]) (c32_all _) ?_; intro w3 h3 g3)
                  have r5 := grown_below hbr2 g3 (by omega) (by omega)
                  have r6 : g8 < w3.heap.size := Blk_lt h3
                  have z0 := (g3.block _ (Blk_lt q0) (by simp; omega)).trans q0
                  have z1 := (g3.block _ (Blk_lt q1) (by simp; omega)).trans q1
                  have r1 : Hid (Qu.dbl s2 = rep Qu.dbl (k + 1) (t5)) := by show _ = _; rw [rep, ← hs1.out]
                  have r2 : Hid ((Qu.dbl s2).length = 16) := (Qu.dbl_length s2).trans hs2.out
                  clear hh2 q0 q1 g3 hbr2
                  go_roundw
                  case rel => exact ⟨k + 1, Qu.dbl s2, by omega, by go_num, r1, r2, h3, z0, z1, r5, r6⟩
                  case measure => simp [intOf]; omega
                · have hkm : m = k := by omega
                  subst hkm
                  have hE : s2 = s' := by
                    rw [hs1.out, HE5.out]
                    exact rep_back (p := fun x : List (BitVec 32) => x.length = 16) (fun x hx => (Qu.bak_length x).trans hx) (fun x hx => Qu.dbl_bak x hx) m s' HS.out
                  subst hE
                  clear hs1 HE5 HS5 hlt hk hzr hs2
                  go_wp2_with (first | (refine wpList_load_row rfl 23 (.tmp 5) rfl (w.heap.size + 1) rfl 23 (c32 s2) (0, 0) _ o1 Try.underlying23 rfl (by rw [info23, c32_size, HS.out]) ?_) |
                    (refine wpList_load_row rfl 23 (.tmp 2) rfl w.heap.size rfl 23 (c32 s2) (0, 0) _ o0 Try.underlying23 rfl (by rw [info23, c32_size, HS.out]) ?_) |
                    (refine wpList_load_rowG rfl 23 (.tmp 8) rfl g8 rfl 23 (c32 s2) (0, 0) _ hh Try.underlying23 rfl (by rw [info23, c32_size, HS.out]) ?_) |
                    (refine wpList_load_rowG rfl 23 (.tmp 2) rfl w.heap.size rfl 23 (c32 s2) (0, 0) _ o0 Try.underlying23 rfl (by rw [info23, c32_size, HS.out]) ?_))
                  refine (awake2_any _).mono ?_
                  rintro e w9 ⟨rfl, hb9⟩
                  have HB9 := Lib.hid (hbr.trans (hb9.mono hbr.size))
                  clear hb9
                  go_wp2_with fail
                  go_ret
                  exact ⟨rfl, HB9.out⟩

theorem rfc_round (w : World) : Calls Try.prog 18 #[.int .u32 1365533105, .int .u32 710897996, .int .u32 1396123495, .int .u32 1029904009] w fun e w' => e = .returned (.tuple #[.int .u32 3182986972, .int .u32 3484200914, .int .u32 3832277632, .int .u32 3435166841]) ∧ w = w' :=
  round_lit 1365533105#32 710897996#32 1396123495#32 1029904009#32 _ _ _ _ _ _ _ _ (by decide +kernel) (by decide +kernel) (by decide +kernel) (by decide +kernel) (by decide +kernel) (by decide +kernel) (by decide +kernel) (by decide +kernel) w

set_option maxRecDepth 100000 in
theorem vectors_any (w : World) : Calls Try.prog 3 #[] w fun e w' => e = .returned (.bool true) ∧ Below w.heap.size w w' := by
  go_enter Try.func3, Try.ntmps3
  go_wp2_with fail
  refine (rfc_round _).mono ?_
  rintro e w' ⟨rfl, rfl⟩
  go_wp2_with fail
  refine (awake2_any _).mono ?_
  rintro e w9 ⟨rfl, hb9⟩
  have HB9 := Lib.hid (((Below.refl w.heap.size w).alloc (Nat.le_refl _) _).trans (hb9.mono (by simp)))
  clear hb9
  go_wp2_with fail
  go_ret
  exact ⟨rfl, HB9.out⟩
end Go.Proofs.Ytdkimnigckpncaa
