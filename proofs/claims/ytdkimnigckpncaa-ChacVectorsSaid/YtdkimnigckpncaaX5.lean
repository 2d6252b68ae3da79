/-
  What the RFC says of its own text; a row of bytes written out.
-/
import Derived.Test.YtdkimnigckpncaaX4
namespace Go.Proofs.Ytdkimnigckpncaa
open Go.RowKit
namespace Ch
def T0 : List Y := [76#8, 97#8, 100#8, 105#8, 101#8, 115#8, 32#8, 97#8, 110#8, 100#8, 32#8, 71#8, 101#8, 110#8, 116#8, 108#8, 101#8, 109#8, 101#8, 110#8, 32#8, 111#8, 102#8, 32#8, 116#8, 104#8, 101#8, 32#8, 99#8, 108#8, 97#8, 115#8, 115#8, 32#8, 111#8, 102#8, 32#8, 39#8, 57#8, 57#8, 58#8, 32#8, 73#8, 102#8, 32#8, 73#8, 32#8, 99#8, 111#8, 117#8, 108#8, 100#8, 32#8, 111#8, 102#8, 102#8, 101#8, 114#8, 32#8, 121#8, 111#8, 117#8, 32#8, 111#8, 110#8, 108#8, 121#8, 32#8, 111#8, 110#8, 101#8, 32#8, 116#8, 105#8, 112#8, 32#8, 102#8, 111#8, 114#8, 32#8, 116#8, 104#8, 101#8, 32#8, 102#8, 117#8, 116#8, 117#8, 114#8, 101#8, 44#8, 32#8, 115#8, 117#8, 110#8, 115#8, 99#8, 114#8, 101#8, 101#8, 110#8, 32#8, 119#8, 111#8, 117#8, 108#8, 100#8, 32#8, 98#8, 101#8, 32#8, 105#8, 116#8, 46#8]
def N1 : List Y := [0#8, 0#8, 0#8, 0#8, 0#8, 0#8, 0#8, 74#8, 0#8, 0#8, 0#8, 0#8]
set_option maxRecDepth 100000 in
theorem told3 : (xor K0 N1 1#32 T0).take 8 = [0x6e#8, 0x2e#8, 0x35#8, 0x9a#8, 0x25#8, 0x68#8, 0xf9#8, 0x80#8] := by decide +kernel
set_option maxRecDepth 100000 in
theorem told4 : (xor K0 N1 1#32 T0).drop 112 = [0x87#8, 0x4d#8] := by decide +kernel
set_option maxRecDepth 100000 in
theorem told5 : (block (Z 32) (Z 12) 0#32).take 8 = [0x76#8, 0xb8#8, 0xe0#8, 0xad#8, 0xa0#8, 0xf1#8, 0x3d#8, 0x90#8] := by decide +kernel
end Ch
theorem zero5 (W : World) : (zeroValue 5).run Try.prog W = .ok (.int .u8 0) W := by
  obtain ⟨i0, hi, hz0, hz1, hz2⟩ := info_parts Try.info5
  simp [zeroValue, typeInfo, hi, hz0]
/-- A row of bytes written out. -/
theorem wpList_bslice {ops : Array Oper} {rest : List Oper} {op : Oper} {a : Act} {w : World} {Q : Exit → Act → World → Prop} (hgd : op.guard = none) (len : Nat) (ps : Array (Nat × Operand)) (ho : op.op = .buildSlice 32 len ps)
    (cells : Array Value) (h0 : 0 < len) (hlen : len ≤ 1000)
    (hf : Instr.fill (fun i => some (i * 1, 1)) ((Array.range (len * 1)).map (#[Value.int .u8 0][· % 1]!)) (ps.map fun (i, x) => (i, a.eval x)).toList = some cells)
    (h : wpList Try.prog ops Q rest (a.put op.dst (.slice (some ⟨w.heap.size, 0, none⟩) len len)) (w.alloc (.cells cells 5))) : wpList Try.prog ops Q (op :: rest) a w :=
  wpList_plain hgd fun K hK => by
    have e1 : ¬ len * 1 > 2 ^ 24 := by omega
    have e2 : ¬ len * 1 = 0 := by omega
    have hz : (Value.int .u8 0).cells = #[Value.int .u8 0] := rfl
    have hr : (Instr.buildSlice 32 len (ps.map fun (i, x) => (i, a.eval x))).run Try.prog w = .ok (.slice (some ⟨w.heap.size, 0, none⟩) len len) (w.alloc (.cells cells 5)) := by
      unfold Instr.buildSlice
      simp only [Sem.run_bind, run_underlying Try.underlying32, Result.andThen_ok, size5, if_neg e1, if_neg e2, zero5, hz, pure_bind]
      have e3 : (#[Value.int .u8 0] : Array Value).size = 1 := rfl
      simp only [e3]
      rw [hf]
      simp [newRow]
    unfold Oper.wp execOp
    simp only [ho, hr, Sem.run_bind, Sem.run_pure, Result.andThen_ok]
    exact hK _ _ h
end Go.Proofs.Ytdkimnigckpncaa
