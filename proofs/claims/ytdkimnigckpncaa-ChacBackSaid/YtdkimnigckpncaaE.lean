/-
  '==' on two arrays of whole numbers: it tells whether they have the same numbers.
-/
import Derived.Test.YtdkimnigckpncaaW2
namespace Go.Proofs.Ytdkimnigckpncaa
open Go.RowKit

section
variable {P : Program}

/-- The loop over a row of places, told on a list of them. -/
theorem eq_loop (f : Nat → Sem Bool) (b : Nat → Bool) (W : World) : ∀ (l : List Nat), (∀ i ∈ l, (f i).run P W = .ok (b i) W) →
    (forIn l ((none : Option Bool), PUnit.unit) (fun i _ => do if (!(← f i)) = true then pure (ForInStep.done (some false, PUnit.unit)) else pure (ForInStep.yield (none, PUnit.unit)))).run P W =
      .ok (if l.all b then (none, PUnit.unit) else (some false, PUnit.unit)) W
  | [], _ => by simp
  | i :: l, h => by
    have ih := eq_loop f b W l (fun j hj => h j (List.mem_cons_of_mem _ hj))
    rw [List.forIn_cons]
    simp only [Sem.run_bind, h i (List.mem_cons_self ..), Result.andThen_ok]
    cases hb : b i
    · simp [hb]
    · simp only [Bool.not_true, Bool.false_eq_true, if_false, Sem.run_pure, Result.andThen_ok, List.all_cons, hb, Bool.true_and]
      exact ih

theorem run_part_int (e : TypeId) (k : IntKind) (he : P.underlying e = some (.int k)) (hs : (P.info? e).map (·.size) = some 1) (cs : Array Value) (o : Nat) (ho : o < cs.size) (W : World) :
    (part e cs o).run P W = .ok cs[o] W := by
  have hag : (isAgg e).run P W = .ok false W := by
    unfold isAgg
    rw [Sem.run_bind, run_underlying he]
    rfl
  cases hq : P.info? e with
  | none => simp [hq] at hs
  | some i =>
    have h1 : i.size = 1 := by simpa [hq] using hs
    simp [part, Sem.run_bind, hag, sizeOf, typeInfo, hq, h1, ho]

def ints (k : IntKind) (a : List Int) : Array Value := (a.map (Value.int k)).toArray

theorem run_eq_ints (d : Nat) (t e : TypeId) (k : IntKind) (n : Nat) (a b : List Int) (ht : P.underlying t = some (.array n e)) (he : P.underlying e = some (.int k)) (hs : (P.info? e).map (·.size) = some 1)
    (ha : a.length = n) (hb : b.length = n) (W : World) : (Op.equalIn (d + 2) t (.agg (ints k a)) (.agg (ints k b))).run P W = .ok (decide (a = b)) W := by
  have hsz : (sizeOf e).run P W = .ok 1 W := by
    cases hq : P.info? e with
    | none => simp [hq] at hs
    | some i => simp [hq] at hs; simp [sizeOf, typeInfo, hq, hs]
  unfold Op.equalIn
  rw [Sem.run_bind, run_underlying ht]
  simp only [Result.andThen_ok]
  rw [Sem.run_bind, hsz]
  simp only [Result.andThen_ok, Nat.mul_one]
  rw [Sem.run_bind, Std.Legacy.Range.forIn_eq_forIn_range']
  have hall : (List.range' 0 n).all (fun i => a.getD i 0 == b.getD i 0) = decide (a = b) := by
    rw [Bool.eq_iff_iff, List.all_eq_true, decide_eq_true_eq]
    constructor
    · intro h
      refine List.ext_getElem (ha.trans hb.symm) fun i h1 h2 => ?_
      have := h i (by simp; omega)
      simpa [h1, h2] using this
    · rintro rfl i _
      simp
  have hl := eq_loop (P := P) (fun i => do
      let x ← part e (ints k a) i
      let y ← part e (ints k b) i
      Op.equalIn (d + 1) e x y) (fun i => a.getD i 0 == b.getD i 0) W (List.range' 0 n) (fun i hi => by
    have hin : i < n := by simp at hi; omega
    have h1 : i < (ints k a).size := by simp [ints]; omega
    have h2 : i < (ints k b).size := by simp [ints]; omega
    simp only [Sem.run_bind, run_part_int e k he hs _ i h1 W, run_part_int e k he hs _ i h2 W, Result.andThen_ok]
    have e1 : (ints k a)[i] = .int k (a.getD i 0) := by simp [ints, ha, hin]
    have e2 : (ints k b)[i] = .int k (b.getD i 0) := by simp [ints, hb, hin]
    rw [e1, e2]
    exact run_equalIn_int W d e k k _ _ he)
  rw [hall] at hl
  have hsize : (Std.Legacy.Range.size [:n]) = n := by simp [Std.Legacy.Range.size]
  simp only [bind_assoc] at hl
  rw [hsize]
  rw [hl]
  cases decide (a = b) <;> rfl
end

theorem c32_ints (s : List (BitVec 32)) : c32 s = ints .u32 (s.map u) := by simp [c32, ints]
theorem map_u {n : Nat} {s t : List (BitVec n)} : s.map u = t.map u ↔ s = t :=
  ⟨fun h => List.map_inj_right (fun _ _ => u_inj) |>.1 h, fun h => by rw [h]⟩
theorem sz22 : (Try.prog.info? 22).map (·.size) = some 1 := by kernel_rfl
theorem guard23 : Try.prog.eqGuardType Try.prog.depth 23 = false := by kernel_rfl
/-- '==' on two states. -/
theorem eql23 (s t : List (BitVec 32)) (hs : s.length = 16) (ht : t.length = 16) (W : World) : (binOp .eql 23 (.agg (c32 s)) (.agg (c32 t))).run Try.prog W = .ok (.bool (decide (s = t))) W := by
  rw [run_eql_struct, c32_ints, c32_ints, run_eq_ints (d := 9998) 23 22 .u32 16 _ _ Try.underlying23 Try.underlying22 sz22 (by simpa using hs) (by simpa using ht)]
  simp only [Result.andThen_ok, map_u]
/-- A whole array read, as an operation that may be taken first. -/
theorem yield_load_row {P : Program} {o : Oper} {a : Act} {w : World} (ty : TypeId) (x : Operand) (ho : o.op = .load ty x) (g : Nat) (hx : a.eval x = .pointer (some ⟨g, 0, none⟩)) (t : TypeId) (cs : Array Value) (fr : Nat × Nat) (d : TypeDesc)
    (hg : w.heap[g]? = some (.cells cs t fr)) (hu : P.underlying ty = some d) (hd : (match d with | .struct _ | .array _ _ => true | _ => false) = true) (hi : (P.info? ty).map (·.size) = some cs.size) :
    (execOp a.eval o).run P w = .ok (.value (.agg cs)) w := by
  unfold execOp
  simp only [ho, hx, Instr.loadAt, Instr.sureAddr, Sem.run_bind, Sem.run_pure, Result.andThen_ok, run_loadVar_row w g t ty cs fr d hg hu hd hi]
/-- A whole array read by an operation that is guarded. -/
theorem wpList_load_rowG {P : Program} {ops : Array Oper} {rest : List Oper} {o : Oper} {a : Act} {w : World} {Q : Exit → Act → World → Prop} (hw : Region.wanted o (yielded ops a.tmps) = true) (ty : TypeId) (x : Operand) (ho : o.op = .load ty x)
    (g : Nat) (hx : a.eval x = .pointer (some ⟨g, 0, none⟩)) (t : TypeId) (cs : Array Value) (fr : Nat × Nat) (d : TypeDesc) (hg : w.heap[g]? = some (.cells cs t fr))
    (hu : P.underlying ty = some d) (hd : (match d with | .struct _ | .array _ _ => true | _ => false) = true) (hi : (P.info? ty).map (·.size) = some cs.size)
    (h : wpList P ops Q rest (a.put o.dst (.agg cs)) w) : wpList P ops Q (o :: rest) a w :=
  wpList_step fun K hK => by
    rw [if_pos hw]
    exact wp_load_row ty x ho g hx t cs fr d hg hu hd hi (hK _ _ h)
theorem eqin_self (s : List (BitVec 32)) (hs : s.length = 16) (W : World) : (Op.equalIn 10000 23 (.agg (c32 s)) (.agg (c32 s))).run Try.prog W = .ok true W := by
  rw [c32_ints, run_eq_ints (d := 9998) 23 22 .u32 16 _ _ Try.underlying23 Try.underlying22 sz22 (by simpa using hs) (by simpa using hs)]
  simp
theorem eqin_any (s t : List (BitVec 32)) (hs : s.length = 16) (ht : t.length = 16) (W : World) : (Op.equalIn 10000 23 (.agg (c32 s)) (.agg (c32 t))).run Try.prog W = .ok (decide (s = t)) W := by
  rw [c32_ints, c32_ints, run_eq_ints (d := 9998) 23 22 .u32 16 _ _ Try.underlying23 Try.underlying22 sz22 (by simpa using hs) (by simpa using ht)]
  simp only [map_u]

end Go.Proofs.Ytdkimnigckpncaa
