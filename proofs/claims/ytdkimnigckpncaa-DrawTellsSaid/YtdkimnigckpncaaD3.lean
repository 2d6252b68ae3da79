/-
  The walk of a draw out of a key's stream.
-/
import Derived.Test.YtdkimnigckpncaaD2
import Derived.Deep.MidRow
namespace Go.Proofs.Ytdkimnigckpncaa
open Go.RowKit
namespace Ph
section
variable {P : Program} {ops : Array Oper} {Q : Exit → Act → World → Prop} {c : Nat} {S1 S2 : World → Prop}
/-- Two may come up. -/
theorem two {i k : Nat} {oi ok : Oper} {f : Nat} {L : Array Bool} {a : Act} {w : World} (hi : ops[i]? = some oi) (hk : ops[k]? = some ok) (hr : Region.ready .any ops L = [i, k])
    (hgi : Region.wanted oi (yielded ops a.tmps) = true) (hgk : Region.wanted ok (yielded ops a.tmps) = true)
    (h1 : ∀ K : Act → World → Prop, (∀ a' w', at_ c S1 S2 (L.setIfInBounds i true) w' → any P ops Q c S1 S2 f (L.setIfInBounds i true) a' w' → K a' w') → oi.wp P a w K Q)
    (h2 : ∀ K : Act → World → Prop, (∀ a' w', at_ c S1 S2 (L.setIfInBounds k true) w' → any P ops Q c S1 S2 f (L.setIfInBounds k true) a' w' → K a' w') → ok.wp P a w K Q) :
    any P ops Q c S1 S2 (f + 1) L a w := by
  refine ⟨fun h0 => absurd (hr.symm.trans h0) (by simp), fun j hj => ?_⟩
  rw [hr] at hj
  have e : j = i ∨ j = k := by simpa using hj
  rcases e with e | e
  · subst e
    unfold wpOp
    simp only [hi]
    rw [if_pos hgi]
    exact .inl (h1 _ fun a' w' h1 h2 => ⟨h1, h2⟩)
  · subst e
    unfold wpOp
    simp only [hk]
    rw [if_pos hgk]
    exact .inl (h2 _ fun a' w' h1 h2 => ⟨h1, h2⟩)
end
end Ph
namespace Ch
/-- A draw's nonce. -/
def non (y : L) : List Y := pu y 8 ++ List.replicate 4 0#8
theorem non_length (y : L) : (non y).length = 12 := by simp [non, pu_length]
/-- A draw out of a key's stream. -/
def sp (key : List Y) (x : L) : BitVec 32 := w4 (block key (non (x / 16#64)) 0#32) (x.toNat % 16)
theorem non_splice (y : L) : splice (List.replicate 12 0#8) 0 (pu y 8) = non y := by
  simp [splice, non, pu_length]
end Ch
/-- A part of an array in a block of its own, whatever the bounds' kinds. -/
theorem sl_lhk {t : TypeId} {n : Nat} (hu : Try.prog.underlying t = some (.array n 5)) (kl kh : IntKind) (W : World) (b l h : Nat) (x y : Int) (hx : x = l) (hy : y = h) (hl : l < n) (h1 : l ≤ h) (h2 : h ≤ n) :
    (Instr.sliceAt t (.pointer (some ⟨b, 0, none⟩)) (some (.int kl x)) (some (.int kh y)) none).run Try.prog W = .ok (.slice (some ⟨b, l, none⟩) (h - l) (n - l)) W := by
  have e1 : Try.prog.arrayLen t = n := by simp [Program.arrayLen, hu]
  have e2 : Try.prog.elem t = 5 := by simp [Program.elem, hu]
  subst hx hy
  rw [run_sliceAt_array_lh W t ⟨b, 0, none⟩ (by rw [e1, e2]; exact hu) kl kh l h (by omega) (by omega) (by rw [e1]; omega), e1, e2, size5]
  have e4 : ¬ n = l := by omega
  simp only [slicedAt, Result.andThen_ok, Int.toNat_natCast, add_one, if_neg e4]
/-- An array out of the middle of a block, as an operation that may be taken first. -/
theorem yield_load_mid {P : Program} {op : Oper} {a : Act} {w : World} (ty : TypeId) (x : Operand) (ho : op.op = .load ty x) (b o : Nat) (hx : a.eval x = .pointer (some ⟨b, o, none⟩)) (cs : List Value) (d : TypeDesc) (hc : w.rangeAt b o cs)
    (hu : P.underlying ty = some d) (hd : d.isRow = true) (hi : (P.info? ty).map (·.size) = some cs.length) :
    (execOp a.eval op).run P w = .ok (.value (.agg cs.toArray)) w := by
  unfold execOp
  simp only [ho, hx, Instr.loadAt, Instr.sureAddr, Sem.run_bind, Sem.run_pure, Result.andThen_ok, run_loadVar_mid w b o ty cs d hc hu hd hi]
theorem Sc.key {w : World} {B : Nat} {tv : Value} {st : Bool} {key : List (BitVec 8)} {nx : BitVec 64} (h : Sc w B tv st key nx) : w.rangeAt B 2 (key.map cell8) := by
  intro j v hj
  have hlt : j < (key.map cell8).length := by
    rcases Nat.lt_or_ge j (key.map cell8).length with k | k
    · exact k
    · rw [List.getElem?_eq_none k] at hj; cases hj
  rw [cell_of_row w B (2 + j) _ 71 (0, 0) h.hp, ← hj, Nat.add_comm 2 j]
  simp only [src, List.getElem?_toArray, List.getElem?_cons_succ]
  rw [List.getElem?_append_left hlt]
theorem q_div (x : BitVec 64) : IntKind.u64.wrap ((u x).tdiv 16) = u (x / 16#64) := by
  have h := wrap_self (x / 16#64)
  unfold u
  rw [BitVec.toNat_udiv] at h ⊢
  rw [Int.tdiv_eq_ediv_of_nonneg (by omega)]
  simpa using h
theorem q_rem (x : BitVec 64) : u x % 16 = ((x.toNat % 16 : Nat) : Int) := by
  unfold u
  simp
/-- Key and nonce lie there. -/
def KN (B nb : Nat) (key : List (BitVec 8)) (no : List (BitVec 8)) (w : World) : Prop := w.rangeAt B 2 (key.map cell8) ∧ w.heap[nb]? = some (.cells (c8 no) 35 (0, 0))

set_option maxRecDepth 100000 in
set_option maxHeartbeats 1000000 in
theorem draw_k {w : World} {B : Nat} {tv : Value} {key : List (BitVec 8)} {nx : BitVec 64} (h : Sc w B tv true key nx) (x : BitVec 64) :
    Calls Try.prog 50 #[.pointer (some ⟨B, 0, none⟩), .int .u64 (u x)] w fun e w' => e = .returned (.int .u32 (u (Ch.sp key x))) ∧ Below w.heap.size w w' := by
  have hc1 := h.c1
  have HS := Lib.hid h
  have HK := Lib.hid h.kl
  have hlt := h.lt
  clear h
  have hd := q_div x
  have hx0 : 0 ≤ u x := by unfold u; omega
  go_enter Try.func50, Try.ntmps50
  go_wp2_with fail
  have hO := Lib.hid (heap_alloc_new w (.cells (c8 (List.replicate 12 0#8)) 35))
  have hb0 : Below w.heap.size w (w.alloc (.cells (c8 (List.replicate 12 0#8)) 35)) := (Below.refl _ _).alloc (Nat.le_refl _) _
  have HS1 := Lib.hid (HS.out.below hb0 hlt)
  have hz0 : w.heap.size < (w.alloc (.cells (c8 (List.replicate 12 0#8)) 35)).heap.size := by simp
  obtain ⟨nb, hnb⟩ : ∃ nb, nb = w.heap.size := ⟨_, rfl⟩
  rw [← hnb] at hO hz0 hlt hb0
  simp only [← hnb]
  obtain ⟨wa, hwa⟩ : ∃ wa, wa = w.alloc (.cells (c8 (List.replicate 12 0#8)) 35) := ⟨_, rfl⟩
  rw [← hwa] at hO hz0 hb0 HS1
  have hB0 := Lib.hid hb0
  clear hb0 HS hc1
  show Code.wp _ _ _ _ (w.alloc (.cells (c8 (List.replicate 12 0#8)) 35))
  rw [← hwa]
  have HNB := Lib.hid hnb
  clear hwa hnb
  have e1 : Try.prog.arrayLen 35 = 12 := by simp [Program.arrayLen, Try.underlying35]
  have e2 : Try.prog.elem 35 = 5 := by simp [Program.elem, Try.underlying35]
  have hsl : ∀ W, (Instr.sliceAt 35 (.pointer (some ⟨nb, 0, none⟩)) none none none).run Try.prog W = .ok (.slice (some ⟨nb, 0, none⟩) 12 12) W := by
    intro W
    rw [run_sliceAt_array_all W 35 ⟨nb, 0, none⟩ (by rw [e1, e2]; exact Try.underlying35), e1, e2, size5]
    simp [slicedAt, Addr.add]
  clear e1 e2
  refine Ph.region 99 (fun _ => True) (fun _ => True) (by kernel_rfl) ?_
  refine Ph.take2 (i := 0) (d := some 28) rfl rfl (by kernel_rfl) (fun _ h => h) (fun _ _ _ h => h) rfl (v := ?v0) (fun w' hw' => ?y0) trivial ?n0
  case y0 => (go_simp; try (with_reducible rfl))
  simp only [Act.put, List.setIfInBounds_toArray, List.set_cons_zero, List.set_cons_succ]
  refine Ph.take2 (i := 1) (d := some 29) rfl rfl (by kernel_rfl) (fun _ h => h) (fun _ _ _ h => h) rfl (v := ?v1) (fun w' hw' => ?y1) trivial ?n1
  case y1 => (go_simp; try (with_reducible rfl))
  simp only [Act.put, List.setIfInBounds_toArray, List.set_cons_zero, List.set_cons_succ]
  refine Ph.take2 (i := 2) (d := some 30) rfl rfl (by kernel_rfl) (fun _ h => h) (fun _ _ _ h => h) rfl (v := ?v2) (fun w' hw' => ?y2) trivial ?n2
  case y2 => (go_simp; try (with_reducible rfl))
  simp only [Act.put, List.setIfInBounds_toArray, List.set_cons_zero, List.set_cons_succ]
  refine Ph.only (i := 3) rfl (by kernel_rfl) rfl (fun K hK => ?_)
  go_simp
  refine (put_any (x / 16#64) 8 (by omega) _).mono ?_
  rintro e w1 ⟨v, rfl, hown, hb1⟩
  have hb1 : Below wa.heap.size wa w1 := ((Below.refl wa.heap.size wa).drew).trans hb1
  have hO1 := (hb1.block nb hz0).trans hO.out
  have HS2 := Lib.hid (HS1.out.below hb1 (by omega))
  have hB1 := Lib.hid (hB0.out.trans (hb1.mono (by omega)))
  have hzs := hb1.size
  have hz1 : nb < w1.heap.size := by omega
  refine hK _ _ trivial ?_
  clear hK K hO HS1 hB0
  try simp only [List.setIfInBounds_toArray, List.set_cons_zero, List.set_cons_succ]
  obtain ⟨g, cap, rfl, hg, hrd⟩ := own_read hown (by omega)
  refine Ph.only (i := 4) rfl (by kernel_rfl) rfl (fun K hK => ?_)
  refine wp_copy_splice rfl (.tmp 28) (.tmp 31) 32 32 rfl 5 Try.underlying32 (by kernel_rfl) (some ⟨nb, 0, none⟩) (some ⟨g, 0, none⟩) 12 12 8 cap rfl rfl
    nb 0 ((List.replicate 12 0#8).map cell8) 35 hO1 ((Ch.pu (x / 16#64) 8).map cell8) (by rw [List.length_map, Ch.pu_length]; rfl) (fun _ => ⟨rfl, _, rfl, hrd⟩)
    (by simp [Ch.pu_length]) (cell8_one _) nb w1 (Below.refl _ _) (Nat.le_refl _) ?_
  intro w2 hg2 hb2
  have hO2 : Hid (w2.heap[nb]? = some (.cells (c8 (Ch.non (x / 16#64))) 35 (0, 0))) := by
    show _ = _
    rw [hg2.out, splice_map, Ch.non_splice]; rfl
  have HS3 := Lib.hid (HS2.out.below hb2 hlt)
  have hB2 := Lib.hid (hB1.out.trans hb2)
  have hzt := hb2.size
  have hz2 : nb < w2.heap.size := by omega
  change K (Act.put _ (some 32) _) w2
  simp only [Act.put, List.setIfInBounds_toArray, List.set_cons_zero, List.set_cons_succ]
  refine hK _ _ trivial ?_
  clear hK K hO1 hb2 hg2 hb1 hown hrd HS2 hB1 hzs hzt hz1
  refine Ph.done (by kernel_rfl) ?_ _
  try simp only [List.setIfInBounds_toArray, List.set_cons_zero, List.set_cons_succ]
  clear hsl hd
  go_wp2_with fail
  have hnl := Ch.non_length (x / 16#64)
  have HN := Lib.hid hnl
  clear hnl
  have hno : ∃ no, no = Ch.non (x / 16#64) := ⟨_, rfl⟩
  obtain ⟨no, hno⟩ := hno
  rw [← hno] at hO2 HN
  have HNO := Lib.hid hno
  clear hno
  have hS : KN B nb key no w2.drew := ⟨HS3.out.key, hO2.out⟩
  refine Ph.region 99 (KN B nb key no) (KN B nb key no) (by kernel_rfl) ?_
  refine Ph.take2 (i := 0) (d := some 33) rfl rfl (by kernel_rfl) (fun _ h => h) (fun _ _ _ h => h) rfl (v := ?vC0) (fun w' hw' => ?yC0) hS ?nC0
  case yC0 => (go_simp; try (with_reducible rfl))
  simp only [Act.put, List.setIfInBounds_toArray, List.set_cons_zero, List.set_cons_succ]
  refine Ph.take2 (i := 1) (d := some 34) rfl rfl (by kernel_rfl) (fun _ h => h) (fun _ _ _ h => h) rfl (v := ?vC1) (fun w' hw' => ?yC1) hS ?nC1
  case yC1 => (go_simp; try (with_reducible rfl))
  simp only [Act.put, List.setIfInBounds_toArray, List.set_cons_zero, List.set_cons_succ]
  refine Ph.take2 (i := 2) (d := some 35) rfl rfl (by kernel_rfl) (fun _ h => h) (fun _ _ _ h => h) rfl (v := ?vC2) (fun w' hw' => ?yC2) hS ?nC2
  case yC2 => (go_simp; try (with_reducible rfl))
  simp only [Act.put, List.setIfInBounds_toArray, List.set_cons_zero, List.set_cons_succ]
  refine Ph.take2 (i := 3) (d := some 36) rfl rfl (by kernel_rfl) (fun _ h => h) (fun _ _ _ h => h) rfl (v := .agg (c8 key)) (fun w' hw' => yield_load_mid 31 (.tmp 35) rfl B 2 rfl (key.map cell8) _ hw'.1 Try.underlying31 rfl (by rw [info31, List.length_map, HK.out])) hS ?nC3
  simp only [Act.put, List.setIfInBounds_toArray, List.set_cons_zero, List.set_cons_succ]
  refine Ph.take2 (i := 4) (d := some 37) rfl rfl (by kernel_rfl) (fun _ h => h) (fun _ _ _ h => h) rfl (v := .agg (c8 no)) (fun w' hw' => yield_load_row 35 (.tmp 5) rfl nb rfl 35 (c8 no) (0, 0) _ hw'.2 Try.underlying35 rfl (by rw [info35, c8_size, HN.out])) hS ?nC4
  simp only [Act.put, List.setIfInBounds_toArray, List.set_cons_zero, List.set_cons_succ]
  have hblk := block_any key no HK.out HN.out 0#32
  have hz0 : u 0#32 = 0 := rfl
  rw [hz0] at hblk
  clear hz0
  refine Ph.two (i := 5) (k := 6) rfl rfl (by kernel_rfl) rfl rfl (fun K hK => ?_) (fun K hK => ?_)
  · go_simp
    refine (hblk _).mono ?_
    rintro e w3 ⟨rfl, hb3⟩
    have hb3 : Below w2.heap.size w2 w3 := ((Below.refl w2.heap.size w2).drew).trans hb3
    have HS4 := Lib.hid (HS3.out.below hb3 (by omega))
    have hzs := hb3.size
    refine hK _ _ ⟨HS4.out.key, (hb3.block nb (by omega)).trans hO2.out⟩ ?_
    clear hK K
    try simp only [List.setIfInBounds_toArray, List.set_cons_zero, List.set_cons_succ]
    refine Ph.only (i := 6) rfl (by kernel_rfl) rfl (fun K hK => ?_)
    go_simp
    have hb4 : Below w2.heap.size w2 (w3.alloc (.cells (c8 (List.replicate 64 0#8)) 36)) := hb3.alloc hzs _
    have HS5 := Lib.hid (HS3.out.below hb4 (by omega))
    have hT0 := heap_alloc_new w3 (.cells (c8 (List.replicate 64 0#8)) 36)
    obtain ⟨bb, hbb⟩ : ∃ bb, bb = w3.heap.size := ⟨_, rfl⟩
    have hbb2 : w2.heap.size ≤ bb := by omega
    rw [← hbb] at hT0
    simp only [← hbb]
    clear hbb
    refine hK _ _ ⟨HS5.out.key, (hb4.block nb (by omega)).trans hO2.out⟩ ?_
    clear hK K
    obtain ⟨w4, hw4⟩ : ∃ w4, w4 = w3.alloc (.cells (c8 (List.replicate 64 0#8)) 36) := ⟨_, rfl⟩
    rw [← hw4] at hb4 HS5 hT0
    show Ph.any _ _ _ _ _ _ _ _ _ (w3.alloc (.cells (c8 (List.replicate 64 0#8)) 36))
    rw [← hw4]
    clear hw4 HS5
    try simp only [List.setIfInBounds_toArray, List.set_cons_zero, List.set_cons_succ]
    refine Ph.only (i := 7) rfl (by kernel_rfl) rfl (fun K hK => ?_)
    refine wp_store_row 36 (.tmp 6) (.tmp 38) rfl bb (c8 (Ch.block key no 0#32)) rfl rfl 36 _ hT0 (by rw [info36, c8_size, Ch.block_length]) (by rw [c8_size, c8_size, Ch.block_length]; rfl) (c8_all _) ?_
    have hT := Lib.hid (setRow_heap w4 bb _ (c8 (Ch.block key no 0#32)) 36 (0, 0) hT0)
    have hb5 : Below w2.heap.size w2 (w4.setRow bb (c8 (Ch.block key no 0#32))) := below_row hb4 hbb2 _
    have HS5 := Lib.hid (HS3.out.below hb5 (by omega))
    have hB5 := Lib.hid (hB2.out.trans (hb5.mono (by omega)))
    clear hb4 hT0
    have hb4 := hb5
    clear hb5
    generalize w4.setRow bb (c8 (Ch.block key no 0#32)) = w5 at *
    refine hK _ _ ⟨HS5.out.key, (hb4.block nb (by omega)).trans hO2.out⟩ ?_
    clear hK K
    refine Ph.done (by kernel_rfl) ?_ _
    try simp only [List.setIfInBounds_toArray, List.set_cons_zero, List.set_cons_succ]
    have hbl := Lib.hid (Ch.block_length key no 0#32)
    have hsp : Hid (Ch.sp key x = Ch.w4 (Ch.block key no 0#32) (x.toNat % 16)) := by show _ = _; rw [HNO.out]; rfl
    clear HNO hO2 HS3
    generalize Ch.block key no 0#32 = bk at *
    have hq := q_rem x
    have hq16 : x.toNat % 16 < 16 := by omega
    generalize x.toNat % 16 = q at *
    have hm : IntKind.u64.wrap (4 * (q : Int)) = 4 * (q : Int) := by rw [IntKind.wrap_u64]; omega
    have ha : IntKind.u64.wrap (4 * (q : Int) + 4) = 4 * (q : Int) + 4 := by rw [IntKind.wrap_u64]; omega
    have hsl := fun W => sl_lhk Try.underlying36 .u64 .u64 W bb (4 * q) (4 * q + 4) (4 * (q : Int)) (4 * (q : Int) + 4) (by omega) (by omega) (by omega) (by omega) (by omega)
    have e4 : 4 * q + 4 - 4 * q = 4 := by omega
    rw [e4] at hsl
    clear e4
    go_wp2_with fail
    refine (get_any _ _ _ ((bk.drop (4 * q)).take 4) (by simp [hbl.out]; omega) (by omega) _ (rd_c8 hT.out (4 * q) 4 (by rw [hbl.out]; omega))).mono ?_
    rintro e w6 ⟨rfl, rfl⟩
    have hcv := c_64_32 (Ch.ge (((bk.drop (4 * q)).take 4).take 8))
    go_wp2_with fail
    go_ret
    exact ⟨by rw [hsp.out, ← w4_eq]; rfl, by rw [← HNB.out]; exact hB5.out⟩
  · go_simp
    have hb4 : Below w2.heap.size w2 (w2.drew.alloc (.cells (c8 (List.replicate 64 0#8)) 36)) := (Below.refl w2.heap.size w2).drew.alloc (Nat.le_refl _) _
    have HS5 := Lib.hid (HS3.out.below hb4 (by omega))
    have hT0 := heap_alloc_new w2.drew (.cells (c8 (List.replicate 64 0#8)) 36)
    obtain ⟨bb, hbb⟩ : ∃ bb, bb = w2.heap.size := ⟨_, rfl⟩
    have hbb2 : w2.heap.size ≤ bb := by omega
    have hbb3 : bb < (w2.drew.alloc (.cells (c8 (List.replicate 64 0#8)) 36)).heap.size := by
      have e : w2.drew.heap.size = w2.heap.size := rfl
      simp
      omega
    have eb : w2.drew.heap.size = bb := hbb.symm
    rw [eb] at hT0
    simp only [← hbb]
    clear hbb eb
    refine hK _ _ ⟨HS5.out.key, (hb4.block nb (by omega)).trans hO2.out⟩ ?_
    clear hK K
    obtain ⟨w4, hw4⟩ : ∃ w4, w4 = w2.drew.alloc (.cells (c8 (List.replicate 64 0#8)) 36) := ⟨_, rfl⟩
    rw [← hw4] at hb4 HS5 hT0 hbb3
    show Ph.any _ _ _ _ _ _ _ _ _ (w2.drew.alloc (.cells (c8 (List.replicate 64 0#8)) 36))
    rw [← hw4]
    clear hw4
    try simp only [List.setIfInBounds_toArray, List.set_cons_zero, List.set_cons_succ]
    refine Ph.only (i := 5) rfl (by kernel_rfl) rfl (fun K hK => ?_)
    go_simp
    refine (hblk _).mono ?_
    rintro e w3 ⟨rfl, hb3⟩
    have hb4 : Below w2.heap.size w2 w3 := hb4.trans (hb3.mono hb4.size)
    have HS6 := Lib.hid (HS3.out.below hb4 (by omega))
    have hT0 := (hb3.block bb hbb3).trans hT0
    refine hK _ _ ⟨HS6.out.key, (hb4.block nb (by omega)).trans hO2.out⟩ ?_
    clear hK K HS5 HS6 hb3 hbb3
    try simp only [List.setIfInBounds_toArray, List.set_cons_zero, List.set_cons_succ]
    refine Ph.only (i := 7) rfl (by kernel_rfl) rfl (fun K hK => ?_)
    refine wp_store_row 36 (.tmp 6) (.tmp 38) rfl bb (c8 (Ch.block key no 0#32)) rfl rfl 36 _ hT0 (by rw [info36, c8_size, Ch.block_length]) (by rw [c8_size, c8_size, Ch.block_length]; rfl) (c8_all _) ?_
    have hT := Lib.hid (setRow_heap w3 bb _ (c8 (Ch.block key no 0#32)) 36 (0, 0) hT0)
    have hb5 : Below w2.heap.size w2 (w3.setRow bb (c8 (Ch.block key no 0#32))) := below_row hb4 hbb2 _
    have HS5 := Lib.hid (HS3.out.below hb5 (by omega))
    have hB5 := Lib.hid (hB2.out.trans (hb5.mono (by omega)))
    clear hb4 hT0
    have hb4 := hb5
    clear hb5
    generalize w3.setRow bb (c8 (Ch.block key no 0#32)) = w5 at *
    refine hK _ _ ⟨HS5.out.key, (hb4.block nb (by omega)).trans hO2.out⟩ ?_
    clear hK K
    refine Ph.done (by kernel_rfl) ?_ _
    try simp only [List.setIfInBounds_toArray, List.set_cons_zero, List.set_cons_succ]
    have hbl := Lib.hid (Ch.block_length key no 0#32)
    have hsp : Hid (Ch.sp key x = Ch.w4 (Ch.block key no 0#32) (x.toNat % 16)) := by show _ = _; rw [HNO.out]; rfl
    clear HNO hO2 HS3
    generalize Ch.block key no 0#32 = bk at *
    have hq := q_rem x
    have hq16 : x.toNat % 16 < 16 := by omega
    generalize x.toNat % 16 = q at *
    have hm : IntKind.u64.wrap (4 * (q : Int)) = 4 * (q : Int) := by rw [IntKind.wrap_u64]; omega
    have ha : IntKind.u64.wrap (4 * (q : Int) + 4) = 4 * (q : Int) + 4 := by rw [IntKind.wrap_u64]; omega
    have hsl := fun W => sl_lhk Try.underlying36 .u64 .u64 W bb (4 * q) (4 * q + 4) (4 * (q : Int)) (4 * (q : Int) + 4) (by omega) (by omega) (by omega) (by omega) (by omega)
    have e4 : 4 * q + 4 - 4 * q = 4 := by omega
    rw [e4] at hsl
    clear e4
    go_wp2_with fail
    refine (get_any _ _ _ ((bk.drop (4 * q)).take 4) (by simp [hbl.out]; omega) (by omega) _ (rd_c8 hT.out (4 * q) 4 (by rw [hbl.out]; omega))).mono ?_
    rintro e w6 ⟨rfl, rfl⟩
    have hcv := c_64_32 (Ch.ge (((bk.drop (4 * q)).take 4).take 8))
    go_wp2_with fail
    go_ret
    exact ⟨by rw [hsp.out, ← w4_eq]; rfl, by rw [← HNB.out]; exact hB5.out⟩
end Go.Proofs.Ytdkimnigckpncaa
