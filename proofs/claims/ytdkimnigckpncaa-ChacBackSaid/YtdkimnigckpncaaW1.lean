/-
  The walks of the quarter rounds: RotateLeft32, Round.
-/
import Derived.Test.YtdkimnigckpncaaB
import Derived.Test.YtdkimnigckpncaaQ
import Derived.WalkKit
import Derived.WalkSpells
import Derived.WalkLawsBesides
namespace Go.Proofs.Ytdkimnigckpncaa
open Go.RowKit
attribute [local go_sem] w_add m_add w_sub m_sub b_xor b_or d_shr
theorem results_tmp4 {fn : Func} {t u v x : Tmp} (h : fn.results = #[.tmp t, .tmp u, .tmp v, .tmp x]) (tmps : Array Value) (P : Program) (w : World) :
    (results fn tmps).run P w = .ok (.tuple #[tmps.getD t undef, tmps.getD u undef, tmps.getD v undef, tmps.getD x undef]) w := by simp [results, h]
/-- RotateLeft32 at a count that is written out. -/
theorem rot_k (x : BitVec 32) (j : Int) (k : Nat) (hk : 0 < k) (hk2 : k < 32) (w : World) (hb : bits .and .u64 (IntKind.u64.wrap j) 31 = (k : Int)) : Calls Try.prog 42 #[.int .u32 (u x), .int .i64 j] w fun e w' => e = .returned (.int .u32 (u (Qu.rl x k))) ∧ w = w' := by
  have h2 := shl32 x .u64 k (by omega)
  have h4 : IntKind.u64.wrap (32 - (k : Int)) = ((32 - k : Nat) : Int) := by
    rw [IntKind.wrap_u64]; omega
  have H : ((x <<< k) ||| (x >>> (32 - k))) = Qu.rl x k := rfl
  generalize Qu.rl x k = r at *
  clear hk hk2
  go_enter Try.func42, Try.ntmps42
  go_wp2
  go_ret
  exact ⟨rfl, rfl⟩

theorem rot16 (x : BitVec 32) (w : World) : Calls Try.prog 42 #[.int .u32 (u x), .int .i64 16] w fun e w' => e = .returned (.int .u32 (u (Qu.rl x 16))) ∧ w = w' := rot_k x 16 16 (by decide) (by decide) w (by decide)
theorem rot12 (x : BitVec 32) (w : World) : Calls Try.prog 42 #[.int .u32 (u x), .int .i64 12] w fun e w' => e = .returned (.int .u32 (u (Qu.rl x 12))) ∧ w = w' := rot_k x 12 12 (by decide) (by decide) w (by decide)
theorem rot8 (x : BitVec 32) (w : World) : Calls Try.prog 42 #[.int .u32 (u x), .int .i64 8] w fun e w' => e = .returned (.int .u32 (u (Qu.rl x 8))) ∧ w = w' := rot_k x 8 8 (by decide) (by decide) w (by decide)
theorem rot7 (x : BitVec 32) (w : World) : Calls Try.prog 42 #[.int .u32 (u x), .int .i64 7] w fun e w' => e = .returned (.int .u32 (u (Qu.rl x 7))) ∧ w = w' := rot_k x 7 7 (by decide) (by decide) w (by decide)

theorem round_any (a b c d : BitVec 32) (w : World) : Calls Try.prog 18 #[.int .u32 (u a), .int .u32 (u b), .int .u32 (u c), .int .u32 (u d)] w fun e w' =>
    e = .returned (.tuple #[.int .u32 (u (Qu.qr ⟨a, b, c, d⟩).a), .int .u32 (u (Qu.qr ⟨a, b, c, d⟩).b), .int .u32 (u (Qu.qr ⟨a, b, c, d⟩).c), .int .u32 (u (Qu.qr ⟨a, b, c, d⟩).d)]) ∧ w = w' := by
  go_enter Try.func18, Try.ntmps18
  go_wp2_with fail
  refine (rot16 _ _).mono ?_
  rintro e w' ⟨rfl, rfl⟩
  go_wp2_with fail
  refine (rot12 _ _).mono ?_
  rintro e w' ⟨rfl, rfl⟩
  go_wp2_with fail
  refine (rot8 _ _).mono ?_
  rintro e w' ⟨rfl, rfl⟩
  go_wp2_with fail
  refine (rot7 _ _).mono ?_
  rintro e w' ⟨rfl, rfl⟩
  go_wp2_with fail
  refine bodyPost_ret (results_tmp4 rfl _ _ _) rfl ?_
  exact ⟨rfl, rfl⟩
end Go.Proofs.Ytdkimnigckpncaa
