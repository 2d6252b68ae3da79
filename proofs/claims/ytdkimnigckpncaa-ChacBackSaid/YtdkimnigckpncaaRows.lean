/-
  No cell of these rows narrows 'for every input' (looked for: loops, veiled, ifaces, maps, wideKeys, modest, calm, conditions, laid).
  DERIVED. THE GIVEN ROWS OF THIS SEAT. 15 by the template 'for every input the law returns true; each argument reads behind the call as it read before'; 0 by the template 'total and deterministic' (their statements: YtdkimnigckpncaaTotals.lean).
  GIVEN WITH THE SEED: the statements are not yours to turn. If you find one false, say at which input.
  Laid BY PROGRAM, IN A SANDBOX (cutbox-rows.mjs): the forced cells as the released guide's own fill.sh prints them over the translation f0fb0c28036aa944… (all of the seat's roots in one cut). By AI agents, Wed Nov 11 2026. No macro, syntax, notation, axiom, sorry.
-/
import Derived.Test.YtdkimnigckpncaaChecked
import GoSem.Claim
import GoSem.ClaimJoined
import GoSem.ClaimMapViews
import Derived.JoinedTies
import Derived.KernelRfl
namespace Go.Proofs.Ytdkimnigckpncaa
/- THE CELL 'sum', in the pinned program and in every row, IS THE sha256 OF THE DUMP (.gsa) THAT YtdkimnigckpncaaProg.lean LOADS. Nothing in Lean hashes anything: it is a label: what it is worth is what the hold of that sum in a sandbox is worth. -/
noncomputable def Try.pinned : Pinned := { name := "ytdkimnigckpncaa", sum := "f0fb0c28036aa9441da13346c3391aa53680b4bda3baf7e74b87847482c5aca4", checked := Try.checked }
namespace Rows
def none {H : Type} : Left H := { results := [], args := [] }

/-- 'dumbwaiterlaw2.QuarVectors': WHATEVER THE INPUT: true; the input reads as it did. -/
def quarVectorsSpec : ChangeSpec := { name := "quarVectors", fn := fun _ => fun
  | [] => { results := [.lit (.bool true)], args := [] }
  | _ => none }
def quarVectorsRow : OpenClaim := { program := "ytdkimnigckpncaa", sum := "f0fb0c28036aa9441da13346c3391aa53680b4bda3baf7e74b87847482c5aca4", func := "dumbwaiter/dumbwaiterlaw2.QuarVectors", spec := "quarVectors", apart := false }
def QuarVectorsSaid : Prop := quarVectorsRow.holds Try.pinned (OpenSpec.ofChange quarVectorsSpec)

/-- ITS FALSE NEIGHBOUR: 'it returns false'. Refute it at one input. -/
def quarVectorsWrong : ChangeSpec := { name := "quarVectors", fn := fun _ => fun
  | [] => { results := [.lit (.bool false)], args := [] }
  | _ => none }
def QuarVectorsWrongFalsely : Prop := quarVectorsRow.holds Try.pinned (OpenSpec.ofChange quarVectorsWrong)

/-- 'dumbwaiterlaw2.QuarBacks': WHATEVER THE INPUT: true; the input reads as it did. -/
def quarBacksSpec : ChangeSpec := { name := "quarBacks", fn := fun _ => fun
  | [d1, d2] => { results := [.lit (.bool true)], args := [d1, d2] }
  | _ => none }
def quarBacksRow : OpenClaim := { program := "ytdkimnigckpncaa", sum := "f0fb0c28036aa9441da13346c3391aa53680b4bda3baf7e74b87847482c5aca4", func := "dumbwaiter/dumbwaiterlaw2.QuarBacks", spec := "quarBacks", apart := false }
def QuarBacksSaid : Prop := quarBacksRow.holds Try.pinned (OpenSpec.ofChange quarBacksSpec)

/-- ITS FALSE NEIGHBOUR: 'it returns false'. Refute it at one input. -/
def quarBacksWrong : ChangeSpec := { name := "quarBacks", fn := fun _ => fun
  | [d1, d2] => { results := [.lit (.bool false)], args := [d1, d2] }
  | _ => none }
def QuarBacksWrongFalsely : Prop := quarBacksRow.holds Try.pinned (OpenSpec.ofChange quarBacksWrong)

/-- 'dumbwaiterlaw2.QuarTells': WHATEVER THE INPUT: true; the input reads as it did. -/
def quarTellsSpec : ChangeSpec := { name := "quarTells", fn := fun _ => fun
  | [d1, d2, d3, d4, d5] => { results := [.lit (.bool true)], args := [d1, d2, d3, d4, d5] }
  | _ => none }
def quarTellsRow : OpenClaim := { program := "ytdkimnigckpncaa", sum := "f0fb0c28036aa9441da13346c3391aa53680b4bda3baf7e74b87847482c5aca4", func := "dumbwaiter/dumbwaiterlaw2.QuarTells", spec := "quarTells", apart := false }
def QuarTellsSaid : Prop := quarTellsRow.holds Try.pinned (OpenSpec.ofChange quarTellsSpec)

/-- ITS FALSE NEIGHBOUR: 'it returns false'. Refute it at one input. -/
def quarTellsWrong : ChangeSpec := { name := "quarTells", fn := fun _ => fun
  | [d1, d2, d3, d4, d5] => { results := [.lit (.bool false)], args := [d1, d2, d3, d4, d5] }
  | _ => none }
def QuarTellsWrongFalsely : Prop := quarTellsRow.holds Try.pinned (OpenSpec.ofChange quarTellsWrong)

/-- 'dumbwaiterlaw2.QuarTurns': WHATEVER THE INPUT: true; the input reads as it did. -/
def quarTurnsSpec : ChangeSpec := { name := "quarTurns", fn := fun _ => fun
  | [d1, d2, d3] => { results := [.lit (.bool true)], args := [d1, d2, d3] }
  | _ => none }
def quarTurnsRow : OpenClaim := { program := "ytdkimnigckpncaa", sum := "f0fb0c28036aa9441da13346c3391aa53680b4bda3baf7e74b87847482c5aca4", func := "dumbwaiter/dumbwaiterlaw2.QuarTurns", spec := "quarTurns", apart := false }
def QuarTurnsSaid : Prop := quarTurnsRow.holds Try.pinned (OpenSpec.ofChange quarTurnsSpec)

/-- ITS FALSE NEIGHBOUR: 'it returns false'. Refute it at one input. -/
def quarTurnsWrong : ChangeSpec := { name := "quarTurns", fn := fun _ => fun
  | [d1, d2, d3] => { results := [.lit (.bool false)], args := [d1, d2, d3] }
  | _ => none }
def QuarTurnsWrongFalsely : Prop := quarTurnsRow.holds Try.pinned (OpenSpec.ofChange quarTurnsWrong)

/-- 'dumbwaiterlaw3.ChacVectors': WHATEVER THE INPUT: true; the input reads as it did. -/
def chacVectorsSpec : ChangeSpec := { name := "chacVectors", fn := fun _ => fun
  | [] => { results := [.lit (.bool true)], args := [] }
  | _ => none }
def chacVectorsRow : OpenClaim := { program := "ytdkimnigckpncaa", sum := "f0fb0c28036aa9441da13346c3391aa53680b4bda3baf7e74b87847482c5aca4", func := "dumbwaiter/dumbwaiterlaw3.ChacVectors", spec := "chacVectors", apart := false }
def ChacVectorsSaid : Prop := chacVectorsRow.holds Try.pinned (OpenSpec.ofChange chacVectorsSpec)

/-- ITS FALSE NEIGHBOUR: 'it returns false'. Refute it at one input. -/
def chacVectorsWrong : ChangeSpec := { name := "chacVectors", fn := fun _ => fun
  | [] => { results := [.lit (.bool false)], args := [] }
  | _ => none }
def ChacVectorsWrongFalsely : Prop := chacVectorsRow.holds Try.pinned (OpenSpec.ofChange chacVectorsWrong)

/-- 'dumbwaiterlaw3.ChacBounds': WHATEVER THE INPUT: true; the input reads as it did. -/
def chacBoundsSpec : ChangeSpec := { name := "chacBounds", fn := fun _ => fun
  | [d1, d2, d3, d4] => { results := [.lit (.bool true)], args := [d1, d2, d3, d4] }
  | _ => none }
def chacBoundsRow : OpenClaim := { program := "ytdkimnigckpncaa", sum := "f0fb0c28036aa9441da13346c3391aa53680b4bda3baf7e74b87847482c5aca4", func := "dumbwaiter/dumbwaiterlaw3.ChacBounds", spec := "chacBounds", apart := false }
def ChacBoundsSaid : Prop := chacBoundsRow.holds Try.pinned (OpenSpec.ofChange chacBoundsSpec)

/-- ITS FALSE NEIGHBOUR: 'it returns false'. Refute it at one input. -/
def chacBoundsWrong : ChangeSpec := { name := "chacBounds", fn := fun _ => fun
  | [d1, d2, d3, d4] => { results := [.lit (.bool false)], args := [d1, d2, d3, d4] }
  | _ => none }
def ChacBoundsWrongFalsely : Prop := chacBoundsRow.holds Try.pinned (OpenSpec.ofChange chacBoundsWrong)

/-- 'dumbwaiterlaw3.ChacAdds': WHATEVER THE INPUT: true; the input reads as it did. -/
def chacAddsSpec : ChangeSpec := { name := "chacAdds", fn := fun _ => fun
  | [d1, d2, d3, d4, d5] => { results := [.lit (.bool true)], args := [d1, d2, d3, d4, d5] }
  | _ => none }
def chacAddsRow : OpenClaim := { program := "ytdkimnigckpncaa", sum := "f0fb0c28036aa9441da13346c3391aa53680b4bda3baf7e74b87847482c5aca4", func := "dumbwaiter/dumbwaiterlaw3.ChacAdds", spec := "chacAdds", apart := false }
def ChacAddsSaid : Prop := chacAddsRow.holds Try.pinned (OpenSpec.ofChange chacAddsSpec)

/-- ITS FALSE NEIGHBOUR: 'it returns false'. Refute it at one input. -/
def chacAddsWrong : ChangeSpec := { name := "chacAdds", fn := fun _ => fun
  | [d1, d2, d3, d4, d5] => { results := [.lit (.bool false)], args := [d1, d2, d3, d4, d5] }
  | _ => none }
def ChacAddsWrongFalsely : Prop := chacAddsRow.holds Try.pinned (OpenSpec.ofChange chacAddsWrong)

/-- 'dumbwaiterlaw3.ChacTells': WHATEVER THE INPUT: true; the input reads as it did. -/
def chacTellsSpec : ChangeSpec := { name := "chacTells", fn := fun _ => fun
  | [d1, d2, d3, d4] => { results := [.lit (.bool true)], args := [d1, d2, d3, d4] }
  | _ => none }
def chacTellsRow : OpenClaim := { program := "ytdkimnigckpncaa", sum := "f0fb0c28036aa9441da13346c3391aa53680b4bda3baf7e74b87847482c5aca4", func := "dumbwaiter/dumbwaiterlaw3.ChacTells", spec := "chacTells", apart := false }
def ChacTellsSaid : Prop := chacTellsRow.holds Try.pinned (OpenSpec.ofChange chacTellsSpec)

/-- ITS FALSE NEIGHBOUR: 'it returns false'. Refute it at one input. -/
def chacTellsWrong : ChangeSpec := { name := "chacTells", fn := fun _ => fun
  | [d1, d2, d3, d4] => { results := [.lit (.bool false)], args := [d1, d2, d3, d4] }
  | _ => none }
def ChacTellsWrongFalsely : Prop := chacTellsRow.holds Try.pinned (OpenSpec.ofChange chacTellsWrong)

/-- 'dumbwaiterlaw3.ChacBack': WHATEVER THE INPUT: true; the input reads as it did. -/
def chacBackSpec : ChangeSpec := { name := "chacBack", fn := fun _ => fun
  | [d1, d2, d3, d4, d5] => { results := [.lit (.bool true)], args := [d1, d2, d3, d4, d5] }
  | _ => none }
def chacBackRow : OpenClaim := { program := "ytdkimnigckpncaa", sum := "f0fb0c28036aa9441da13346c3391aa53680b4bda3baf7e74b87847482c5aca4", func := "dumbwaiter/dumbwaiterlaw3.ChacBack", spec := "chacBack", apart := false }
def ChacBackSaid : Prop := chacBackRow.holds Try.pinned (OpenSpec.ofChange chacBackSpec)

/-- ITS FALSE NEIGHBOUR: 'it returns false'. Refute it at one input. -/
def chacBackWrong : ChangeSpec := { name := "chacBack", fn := fun _ => fun
  | [d1, d2, d3, d4, d5] => { results := [.lit (.bool false)], args := [d1, d2, d3, d4, d5] }
  | _ => none }
def ChacBackWrongFalsely : Prop := chacBackRow.holds Try.pinned (OpenSpec.ofChange chacBackWrong)

/-- 'dumbwaiterlaw3.ChacSums': WHATEVER THE INPUT: true; the input reads as it did. -/
def chacSumsSpec : ChangeSpec := { name := "chacSums", fn := fun _ => fun
  | [d1, d2, d3] => { results := [.lit (.bool true)], args := [d1, d2, d3] }
  | _ => none }
def chacSumsRow : OpenClaim := { program := "ytdkimnigckpncaa", sum := "f0fb0c28036aa9441da13346c3391aa53680b4bda3baf7e74b87847482c5aca4", func := "dumbwaiter/dumbwaiterlaw3.ChacSums", spec := "chacSums", apart := false }
def ChacSumsSaid : Prop := chacSumsRow.holds Try.pinned (OpenSpec.ofChange chacSumsSpec)

/-- ITS FALSE NEIGHBOUR: 'it returns false'. Refute it at one input. -/
def chacSumsWrong : ChangeSpec := { name := "chacSums", fn := fun _ => fun
  | [d1, d2, d3] => { results := [.lit (.bool false)], args := [d1, d2, d3] }
  | _ => none }
def ChacSumsWrongFalsely : Prop := chacSumsRow.holds Try.pinned (OpenSpec.ofChange chacSumsWrong)

/-- 'dumbwaiterlaw4.DrawTapes': WHATEVER THE INPUT: true; the input reads as it did. -/
def drawTapesSpec : ChangeSpec := { name := "drawTapes", fn := fun _ => fun
  | [d1, d2] => { results := [.lit (.bool true)], args := [d1, d2] }
  | _ => none }
def drawTapesRow : OpenClaim := { program := "ytdkimnigckpncaa", sum := "f0fb0c28036aa9441da13346c3391aa53680b4bda3baf7e74b87847482c5aca4", func := "dumbwaiter/dumbwaiterlaw4.DrawTapes", spec := "drawTapes", apart := false }
def DrawTapesSaid : Prop := drawTapesRow.holds Try.pinned (OpenSpec.ofChange drawTapesSpec)

/-- ITS FALSE NEIGHBOUR: 'it returns false'. Refute it at one input. -/
def drawTapesWrong : ChangeSpec := { name := "drawTapes", fn := fun _ => fun
  | [d1, d2] => { results := [.lit (.bool false)], args := [d1, d2] }
  | _ => none }
def DrawTapesWrongFalsely : Prop := drawTapesRow.holds Try.pinned (OpenSpec.ofChange drawTapesWrong)

/-- 'dumbwaiterlaw4.DrawLeaves': WHATEVER THE INPUT: true; the input reads as it did. -/
def drawLeavesSpec : ChangeSpec := { name := "drawLeaves", fn := fun _ => fun
  | [d1, d2, d3] => { results := [.lit (.bool true)], args := [d1, d2, d3] }
  | _ => none }
def drawLeavesRow : OpenClaim := { program := "ytdkimnigckpncaa", sum := "f0fb0c28036aa9441da13346c3391aa53680b4bda3baf7e74b87847482c5aca4", func := "dumbwaiter/dumbwaiterlaw4.DrawLeaves", spec := "drawLeaves", apart := false }
def DrawLeavesSaid : Prop := drawLeavesRow.holds Try.pinned (OpenSpec.ofChange drawLeavesSpec)

/-- ITS FALSE NEIGHBOUR: 'it returns false'. Refute it at one input. -/
def drawLeavesWrong : ChangeSpec := { name := "drawLeaves", fn := fun _ => fun
  | [d1, d2, d3] => { results := [.lit (.bool false)], args := [d1, d2, d3] }
  | _ => none }
def DrawLeavesWrongFalsely : Prop := drawLeavesRow.holds Try.pinned (OpenSpec.ofChange drawLeavesWrong)

/-- 'dumbwaiterlaw4.DrawMasks': WHATEVER THE INPUT: true; the input reads as it did. -/
def drawMasksSpec : ChangeSpec := { name := "drawMasks", fn := fun _ => fun
  | [d1, d2, d3, d4] => { results := [.lit (.bool true)], args := [d1, d2, d3, d4] }
  | _ => none }
def drawMasksRow : OpenClaim := { program := "ytdkimnigckpncaa", sum := "f0fb0c28036aa9441da13346c3391aa53680b4bda3baf7e74b87847482c5aca4", func := "dumbwaiter/dumbwaiterlaw4.DrawMasks", spec := "drawMasks", apart := false }
def DrawMasksSaid : Prop := drawMasksRow.holds Try.pinned (OpenSpec.ofChange drawMasksSpec)

/-- ITS FALSE NEIGHBOUR: 'it returns false'. Refute it at one input. -/
def drawMasksWrong : ChangeSpec := { name := "drawMasks", fn := fun _ => fun
  | [d1, d2, d3, d4] => { results := [.lit (.bool false)], args := [d1, d2, d3, d4] }
  | _ => none }
def DrawMasksWrongFalsely : Prop := drawMasksRow.holds Try.pinned (OpenSpec.ofChange drawMasksWrong)

/-- 'dumbwaiterlaw4.DrawTells': WHATEVER THE INPUT: true; the input reads as it did. -/
def drawTellsSpec : ChangeSpec := { name := "drawTells", fn := fun _ => fun
  | [d1, d2, d3, d4, d5] => { results := [.lit (.bool true)], args := [d1, d2, d3, d4, d5] }
  | _ => none }
def drawTellsRow : OpenClaim := { program := "ytdkimnigckpncaa", sum := "f0fb0c28036aa9441da13346c3391aa53680b4bda3baf7e74b87847482c5aca4", func := "dumbwaiter/dumbwaiterlaw4.DrawTells", spec := "drawTells", apart := false }
def DrawTellsSaid : Prop := drawTellsRow.holds Try.pinned (OpenSpec.ofChange drawTellsSpec)

/-- ITS FALSE NEIGHBOUR: 'it returns false'. Refute it at one input. -/
def drawTellsWrong : ChangeSpec := { name := "drawTells", fn := fun _ => fun
  | [d1, d2, d3, d4, d5] => { results := [.lit (.bool false)], args := [d1, d2, d3, d4, d5] }
  | _ => none }
def DrawTellsWrongFalsely : Prop := drawTellsRow.holds Try.pinned (OpenSpec.ofChange drawTellsWrong)

/-- 'dumbwaiterlaw4.DrawWithin': WHATEVER THE INPUT: true; the input reads as it did. -/
def drawWithinSpec : ChangeSpec := { name := "drawWithin", fn := fun _ => fun
  | [d1, d2, d3, d4] => { results := [.lit (.bool true)], args := [d1, d2, d3, d4] }
  | _ => none }
def drawWithinRow : OpenClaim := { program := "ytdkimnigckpncaa", sum := "f0fb0c28036aa9441da13346c3391aa53680b4bda3baf7e74b87847482c5aca4", func := "dumbwaiter/dumbwaiterlaw4.DrawWithin", spec := "drawWithin", apart := false }
def DrawWithinSaid : Prop := drawWithinRow.holds Try.pinned (OpenSpec.ofChange drawWithinSpec)

/-- ITS FALSE NEIGHBOUR: 'it returns false'. Refute it at one input. -/
def drawWithinWrong : ChangeSpec := { name := "drawWithin", fn := fun _ => fun
  | [d1, d2, d3, d4] => { results := [.lit (.bool false)], args := [d1, d2, d3, d4] }
  | _ => none }
def DrawWithinWrongFalsely : Prop := drawWithinRow.holds Try.pinned (OpenSpec.ofChange drawWithinWrong)

/- THE SECOND FORM. 'bulk': how many values and letters a reading holds, each counted each time it is reached (what is shared counts as often as it is met; a slice's spare places count too). A statement '..UptoSaid' is the law's where the arguments, and the package variables that the reading takes, are together of bulk at most 1048576: NARROWER than '..Said'. Prove '..Said' where nothing that the law and all that it calls make is longer than what came in: it says more and counts as full. Else prove '..UptoSaid'. A law counts once. -/
mutual
def uptoBulk {H : Type} : DataW H → Nat
  | .lit (.string bytes) => bytes.length + 1
  | .lit _ => 1
  | .nil => 1
  | .ptr d => uptoBulk d + 1
  | .slice elems spare => uptoBulkAll elems + uptoBulkAll spare + 1
  | .agg parts => uptoBulkAll parts + 1
  | .iface _ d => uptoBulk d + 1
  | .map entries => uptoBulkEntries entries + 1
  | .held _ => 1
def uptoBulkAll {H : Type} : List (DataW H) → Nat
  | [] => 0
  | d :: r => uptoBulk d + uptoBulkAll r
def uptoBulkEntries {H : Type} : List (Lit × DataW H) → Nat
  | [] => 0
  | x :: r => uptoBulkEntry x + uptoBulkEntries r
def uptoBulkEntry {H : Type} : Lit × DataW H → Nat
  | (.string bytes, d) => bytes.length + uptoBulk d + 1
  | (_, d) => uptoBulk d + 1
 end
def uptoSmall : (H : Type) → List (DataW H) → Bool := fun _ ds => decide (uptoBulkAll ds ≤ 1048576)
def OpenSpec.upto (s : _root_.Go.ChangeSpec) : _root_.Go.OpenSpec := { _root_.Go.OpenSpec.ofChange s with cond := some uptoSmall }

/-- 'dumbwaiterlaw2.QuarVectors', WHERE WHAT IT READS IS OF BULK AT MOST 1048576: true; the input reads as it did. -/
def quarVectorsUptoRow : OpenClaim := { program := "ytdkimnigckpncaa", sum := "f0fb0c28036aa9441da13346c3391aa53680b4bda3baf7e74b87847482c5aca4", func := "dumbwaiter/dumbwaiterlaw2.QuarVectors", spec := "quarVectors", apart := false, narrowed := true }
def QuarVectorsUptoSaid : Prop := quarVectorsUptoRow.holds Try.pinned (OpenSpec.upto quarVectorsSpec)

/-- 'dumbwaiterlaw2.QuarBacks', WHERE WHAT IT READS IS OF BULK AT MOST 1048576: true; the input reads as it did. -/
def quarBacksUptoRow : OpenClaim := { program := "ytdkimnigckpncaa", sum := "f0fb0c28036aa9441da13346c3391aa53680b4bda3baf7e74b87847482c5aca4", func := "dumbwaiter/dumbwaiterlaw2.QuarBacks", spec := "quarBacks", apart := false, narrowed := true }
def QuarBacksUptoSaid : Prop := quarBacksUptoRow.holds Try.pinned (OpenSpec.upto quarBacksSpec)

/-- 'dumbwaiterlaw2.QuarTells', WHERE WHAT IT READS IS OF BULK AT MOST 1048576: true; the input reads as it did. -/
def quarTellsUptoRow : OpenClaim := { program := "ytdkimnigckpncaa", sum := "f0fb0c28036aa9441da13346c3391aa53680b4bda3baf7e74b87847482c5aca4", func := "dumbwaiter/dumbwaiterlaw2.QuarTells", spec := "quarTells", apart := false, narrowed := true }
def QuarTellsUptoSaid : Prop := quarTellsUptoRow.holds Try.pinned (OpenSpec.upto quarTellsSpec)

/-- 'dumbwaiterlaw2.QuarTurns', WHERE WHAT IT READS IS OF BULK AT MOST 1048576: true; the input reads as it did. -/
def quarTurnsUptoRow : OpenClaim := { program := "ytdkimnigckpncaa", sum := "f0fb0c28036aa9441da13346c3391aa53680b4bda3baf7e74b87847482c5aca4", func := "dumbwaiter/dumbwaiterlaw2.QuarTurns", spec := "quarTurns", apart := false, narrowed := true }
def QuarTurnsUptoSaid : Prop := quarTurnsUptoRow.holds Try.pinned (OpenSpec.upto quarTurnsSpec)

/-- 'dumbwaiterlaw3.ChacVectors', WHERE WHAT IT READS IS OF BULK AT MOST 1048576: true; the input reads as it did. -/
def chacVectorsUptoRow : OpenClaim := { program := "ytdkimnigckpncaa", sum := "f0fb0c28036aa9441da13346c3391aa53680b4bda3baf7e74b87847482c5aca4", func := "dumbwaiter/dumbwaiterlaw3.ChacVectors", spec := "chacVectors", apart := false, narrowed := true }
def ChacVectorsUptoSaid : Prop := chacVectorsUptoRow.holds Try.pinned (OpenSpec.upto chacVectorsSpec)

/-- 'dumbwaiterlaw3.ChacBounds', WHERE WHAT IT READS IS OF BULK AT MOST 1048576: true; the input reads as it did. -/
def chacBoundsUptoRow : OpenClaim := { program := "ytdkimnigckpncaa", sum := "f0fb0c28036aa9441da13346c3391aa53680b4bda3baf7e74b87847482c5aca4", func := "dumbwaiter/dumbwaiterlaw3.ChacBounds", spec := "chacBounds", apart := false, narrowed := true }
def ChacBoundsUptoSaid : Prop := chacBoundsUptoRow.holds Try.pinned (OpenSpec.upto chacBoundsSpec)

/-- 'dumbwaiterlaw3.ChacAdds', WHERE WHAT IT READS IS OF BULK AT MOST 1048576: true; the input reads as it did. -/
def chacAddsUptoRow : OpenClaim := { program := "ytdkimnigckpncaa", sum := "f0fb0c28036aa9441da13346c3391aa53680b4bda3baf7e74b87847482c5aca4", func := "dumbwaiter/dumbwaiterlaw3.ChacAdds", spec := "chacAdds", apart := false, narrowed := true }
def ChacAddsUptoSaid : Prop := chacAddsUptoRow.holds Try.pinned (OpenSpec.upto chacAddsSpec)

/-- 'dumbwaiterlaw3.ChacTells', WHERE WHAT IT READS IS OF BULK AT MOST 1048576: true; the input reads as it did. -/
def chacTellsUptoRow : OpenClaim := { program := "ytdkimnigckpncaa", sum := "f0fb0c28036aa9441da13346c3391aa53680b4bda3baf7e74b87847482c5aca4", func := "dumbwaiter/dumbwaiterlaw3.ChacTells", spec := "chacTells", apart := false, narrowed := true }
def ChacTellsUptoSaid : Prop := chacTellsUptoRow.holds Try.pinned (OpenSpec.upto chacTellsSpec)

/-- 'dumbwaiterlaw3.ChacBack', WHERE WHAT IT READS IS OF BULK AT MOST 1048576: true; the input reads as it did. -/
def chacBackUptoRow : OpenClaim := { program := "ytdkimnigckpncaa", sum := "f0fb0c28036aa9441da13346c3391aa53680b4bda3baf7e74b87847482c5aca4", func := "dumbwaiter/dumbwaiterlaw3.ChacBack", spec := "chacBack", apart := false, narrowed := true }
def ChacBackUptoSaid : Prop := chacBackUptoRow.holds Try.pinned (OpenSpec.upto chacBackSpec)

/-- 'dumbwaiterlaw3.ChacSums', WHERE WHAT IT READS IS OF BULK AT MOST 1048576: true; the input reads as it did. -/
def chacSumsUptoRow : OpenClaim := { program := "ytdkimnigckpncaa", sum := "f0fb0c28036aa9441da13346c3391aa53680b4bda3baf7e74b87847482c5aca4", func := "dumbwaiter/dumbwaiterlaw3.ChacSums", spec := "chacSums", apart := false, narrowed := true }
def ChacSumsUptoSaid : Prop := chacSumsUptoRow.holds Try.pinned (OpenSpec.upto chacSumsSpec)

/-- 'dumbwaiterlaw4.DrawTapes', WHERE WHAT IT READS IS OF BULK AT MOST 1048576: true; the input reads as it did. -/
def drawTapesUptoRow : OpenClaim := { program := "ytdkimnigckpncaa", sum := "f0fb0c28036aa9441da13346c3391aa53680b4bda3baf7e74b87847482c5aca4", func := "dumbwaiter/dumbwaiterlaw4.DrawTapes", spec := "drawTapes", apart := false, narrowed := true }
def DrawTapesUptoSaid : Prop := drawTapesUptoRow.holds Try.pinned (OpenSpec.upto drawTapesSpec)

/-- 'dumbwaiterlaw4.DrawLeaves', WHERE WHAT IT READS IS OF BULK AT MOST 1048576: true; the input reads as it did. -/
def drawLeavesUptoRow : OpenClaim := { program := "ytdkimnigckpncaa", sum := "f0fb0c28036aa9441da13346c3391aa53680b4bda3baf7e74b87847482c5aca4", func := "dumbwaiter/dumbwaiterlaw4.DrawLeaves", spec := "drawLeaves", apart := false, narrowed := true }
def DrawLeavesUptoSaid : Prop := drawLeavesUptoRow.holds Try.pinned (OpenSpec.upto drawLeavesSpec)

/-- 'dumbwaiterlaw4.DrawMasks', WHERE WHAT IT READS IS OF BULK AT MOST 1048576: true; the input reads as it did. -/
def drawMasksUptoRow : OpenClaim := { program := "ytdkimnigckpncaa", sum := "f0fb0c28036aa9441da13346c3391aa53680b4bda3baf7e74b87847482c5aca4", func := "dumbwaiter/dumbwaiterlaw4.DrawMasks", spec := "drawMasks", apart := false, narrowed := true }
def DrawMasksUptoSaid : Prop := drawMasksUptoRow.holds Try.pinned (OpenSpec.upto drawMasksSpec)

/-- 'dumbwaiterlaw4.DrawTells', WHERE WHAT IT READS IS OF BULK AT MOST 1048576: true; the input reads as it did. -/
def drawTellsUptoRow : OpenClaim := { program := "ytdkimnigckpncaa", sum := "f0fb0c28036aa9441da13346c3391aa53680b4bda3baf7e74b87847482c5aca4", func := "dumbwaiter/dumbwaiterlaw4.DrawTells", spec := "drawTells", apart := false, narrowed := true }
def DrawTellsUptoSaid : Prop := drawTellsUptoRow.holds Try.pinned (OpenSpec.upto drawTellsSpec)

/-- 'dumbwaiterlaw4.DrawWithin', WHERE WHAT IT READS IS OF BULK AT MOST 1048576: true; the input reads as it did. -/
def drawWithinUptoRow : OpenClaim := { program := "ytdkimnigckpncaa", sum := "f0fb0c28036aa9441da13346c3391aa53680b4bda3baf7e74b87847482c5aca4", func := "dumbwaiter/dumbwaiterlaw4.DrawWithin", spec := "drawWithin", apart := false, narrowed := true }
def DrawWithinUptoSaid : Prop := drawWithinUptoRow.holds Try.pinned (OpenSpec.upto drawWithinSpec)

end Rows
end Go.Proofs.Ytdkimnigckpncaa
