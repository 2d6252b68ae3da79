import Derived.Test.YtdkimnigckpncaaW3
import Derived.Test.YtdkimnigckpncaaW4
import Derived.Test.YtdkimnigckpncaaW5
import Derived.Test.YtdkimnigckpncaaE
namespace Go.Proofs.Ytdkimnigckpncaa
open Go.RowKit
theorem round_lit (a b c d : BitVec 32) (a' b' c' d' ra rb rc rd : Int) (ha : u a = a') (hb : u b = b') (hc : u c = c') (hd : u d = d')
    (h1 : u (Qu.qr ⟨a, b, c, d⟩).a = ra) (h2 : u (Qu.qr ⟨a, b, c, d⟩).b = rb) (h3 : u (Qu.qr ⟨a, b, c, d⟩).c = rc) (h4 : u (Qu.qr ⟨a, b, c, d⟩).d = rd) (w : World) :
    Calls Try.prog 18 #[.int .u32 a', .int .u32 b', .int .u32 c', .int .u32 d'] w fun e w' => e = .returned (.tuple #[.int .u32 ra, .int .u32 rb, .int .u32 rc, .int .u32 rd]) ∧ w = w' := by
  subst ha hb hc hd h1 h2 h3 h4
  exact round_any a b c d w
theorem awake_round (w : World) : Calls Try.prog 18 #[.int .u32 286331153, .int .u32 16909060, .int .u32 2609737539, .int .u32 19088743] w fun e w' =>
    e = .returned (.tuple #[.int .u32 3928658676, .int .u32 3407673550, .int .u32 1166100270, .int .u32 1484899515]) ∧ w = w' :=
  round_lit 286331153#32 16909060#32 2609737539#32 19088743#32 _ _ _ _ _ _ _ _ (by decide +kernel) (by decide +kernel) (by decide +kernel) (by decide +kernel) (by decide +kernel) (by decide +kernel) (by decide +kernel) (by decide +kernel) w
def zero16 : List (BitVec 32) := List.replicate 16 0#32
def zs16 : Array Value := #[.int .u32 0, .int .u32 0, .int .u32 0, .int .u32 0, .int .u32 0, .int .u32 0, .int .u32 0, .int .u32 0, .int .u32 0, .int .u32 0, .int .u32 0, .int .u32 0, .int .u32 0, .int .u32 0, .int .u32 0, .int .u32 0]
theorem zs16_eq : c32 zero16 = zs16 := by kernel_rfl
theorem bak_zero : Qu.bak zero16 = zero16 := by decide +kernel
theorem back_zero (w : World) : Calls Try.prog 21 #[.agg zs16] w fun e w' => e = .returned (.agg zs16) ∧ Below w.heap.size w w' := by
  have h := back_any zero16 rfl w
  rw [bak_zero, zs16_eq] at h
  exact h
theorem eql_zero (W : World) : (binOp .eql 23 (.agg zs16) (.agg zs16)).run Try.prog W = .ok (.bool true) W := by
  have h := eql23 zero16 zero16 rfl rfl W
  rw [zs16_eq] at h
  simpa using h

theorem eqin_zero (W : World) : (Op.equalIn 10000 23 (.agg zs16) (.agg zs16)).run Try.prog W = .ok true W := by
  rw [← zs16_eq, c32_ints, run_eq_ints (d := 9998) 23 22 .u32 16 _ _ Try.underlying23 Try.underlying22 sz22 rfl rfl]
  simp
set_option maxRecDepth 100000 in
theorem awake2_any (w : World) : Calls Try.prog 19 #[] w fun e w' => e = .returned (.bool true) ∧ Below w.heap.size w w' := by
  go_enter Try.func19, Try.ntmps19
  go_wp2_with fail
  refine (awake_round _).mono ?_
  rintro e w' ⟨rfl, rfl⟩
  have heq : ∀ W, (Op.equalIn 10000 23 (.agg zs16) (.agg #[.int .u32 0, .int .u32 0, .int .u32 0, .int .u32 0, .int .u32 0, .int .u32 0, .int .u32 0, .int .u32 0, .int .u32 0, .int .u32 0, .int .u32 0, .int .u32 0, .int .u32 0, .int .u32 0, .int .u32 0, .int .u32 0])).run Try.prog W = .ok true W := fun W => eqin_zero W
  go_wp2_with fail
  refine (back_zero _).mono ?_
  rintro e w1 ⟨rfl, hb⟩
  have HB := Lib.hid hb
  clear hb
  go_wp2_with fail
  go_ret
  exact ⟨rfl, HB.out⟩
end Go.Proofs.Ytdkimnigckpncaa
