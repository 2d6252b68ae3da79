/-
  The walks of Next, of Stream, and of the document's Streamed.
-/
import Derived.Test.YtdkimnigckpncaaD4
import Derived.Test.YtdkimnigckpncaaD3
namespace Go.Proofs.Ytdkimnigckpncaa
open Go.RowKit

theorem c_inc (x : BitVec 64) : IntKind.u64.wrap (u x + 1) = u (x + 1#64) := by
  have h := wrap_self (x + 1#64)
  unfold u
  rw [BitVec.toNat_add] at h ⊢
  rw [IntKind.wrap_u64] at h ⊢
  have e : (1#64).toNat = 1 := rfl
  rw [e] at h ⊢
  omega

set_option maxHeartbeats 400000 in
theorem next_at {w : World} {B : Nat} {tv : Value} {st : Bool} {key : List (BitVec 8)} {nx : BitVec 64} (h : Sc w B tv st key nx) (d : BitVec 32) (n : Int)
    (hd : Calls Try.prog 50 #[.pointer (some ⟨B, 0, none⟩), .int .u64 (u nx)] w fun e w' => e = .returned (.int .u32 (u d)) ∧ Below w.heap.size w w') :
    Calls Try.prog 33 #[.pointer (some ⟨B, 0, none⟩), .int .i64 n] w fun e w' => e = .returned (.int .i64 (Ch.msk d n)) ∧ Sc w' B tv st key (nx + 1#64) ∧ w.grownBy w' (some B) := by
  have HS := Lib.hid h
  have HD := Lib.hid hd
  have hc := h.c34
  have hinc := c_inc nx
  clear h hd
  have key : ∀ w', Below w.heap.size w w' → Hid (w'.cell? ⟨B, 34, none⟩ = some (.int .u64 (u nx))) ∧ Hid (w'.frozen? ⟨B, 34, none⟩ = false) ∧ Hid (Sc (w'.setCell ⟨B, 34, none⟩ (.int .u64 (u (nx + 1#64)))) B tv st key (nx + 1#64)) ∧ Hid (w.grownBy (w'.setCell ⟨B, 34, none⟩ (.int .u64 (u (nx + 1#64)))) (some B)) := by
    intro w' hb
    have h2 := HS.out.below hb HS.out.lt
    exact ⟨h2.c34, h2.free 34, h2.seek _, grown_trans (grown_of hb _) (grown_set _ _ _ _)⟩
  by_cases hl : Ch.lf n = true
  · have h1 := Ch.lf_lo hl
    have h2 := Ch.lf_hi hl
    have hm := mask_bits d h1 h2
    have hcv := conv_u32 d
    have hv : Ch.msk d n = ((d.toNat &&& (n.toNat - 1) : Nat) : Int) := by unfold Ch.msk; rw [if_pos hl]
    generalize d.toNat &&& (n.toNat - 1) = q at *
    have HV := Lib.hid hv
    have HH := Lib.hid hl
    clear hv hl
    go_enter Try.func33, Try.ntmps33
    go_wp2_with fail
    refine HD.out.mono ?_
    rintro e w1 ⟨rfl, hb1⟩
    obtain ⟨k1, k2, k3, k4⟩ := key w1 hb1
    have k1 := k1.out
    have k2 := k2.out
    clear key hc hb1
    go_wp2_with fail
    refine (leaves_any _ _).mono ?_
    rintro e w' ⟨rfl, rfl⟩
    rw [HH.out]
    go_wp2_with fail
    go_ret
    exact ⟨by rw [HV.out]; rfl, k3.out, k4.out⟩
  · have h0 : Ch.lf n = false := by simpa using hl
    have hv : Ch.msk d n = 0 := by unfold Ch.msk; rw [if_neg hl]
    have HV := Lib.hid hv
    have HH := Lib.hid h0
    clear hv hl h0
    go_enter Try.func33, Try.ntmps33
    go_wp2_with fail
    refine HD.out.mono ?_
    rintro e w1 ⟨rfl, hb1⟩
    obtain ⟨k1, k2, k3, k4⟩ := key w1 hb1
    have k1 := k1.out
    have k2 := k2.out
    clear key hc hb1
    go_wp2_with fail
    refine (leaves_any _ _).mono ?_
    rintro e w' ⟨rfl, rfl⟩
    rw [HH.out]
    go_wp2_with fail
    go_ret
    exact ⟨by rw [HV.out]; rfl, k3.out, k4.out⟩
theorem next_k {w : World} {B : Nat} {tv : Value} {key : List (BitVec 8)} {nx : BitVec 64} (h : Sc w B tv true key nx) (n : Int) :
    Calls Try.prog 33 #[.pointer (some ⟨B, 0, none⟩), .int .i64 n] w fun e w' => e = .returned (.int .i64 (Ch.msk (Ch.sp key nx) n)) ∧ Sc w' B tv true key (nx + 1#64) ∧ w.grownBy w' (some B) :=
  next_at h _ n (draw_k h nx)
theorem next_t {w : World} {B : Nat} {A : Option Addr} {m c : Nat} {key : List (BitVec 8)} {nx : BitVec 64} (h : Sc w B (.slice A m c) false key nx) (l : List (BitVec 32)) (hl : l.length = m) (hm : m ≤ 9223372036854775807) (hr : Rw w A l) (n : Int) :
    Calls Try.prog 33 #[.pointer (some ⟨B, 0, none⟩), .int .i64 n] w fun e w' => e = .returned (.int .i64 (Ch.msk (Ch.tp l nx) n)) ∧ Sc w' B (.slice A m c) false key (nx + 1#64) ∧ w.grownBy w' (some B) :=
  next_at h _ n ((draw_t h l hl hm hr nx).mono fun _ _ ⟨he, hw⟩ => ⟨he, hw ▸ Below.refl _ _⟩)
end Go.Proofs.Ytdkimnigckpncaa
