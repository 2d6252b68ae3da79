/-
  The walk of the law ChacSums.
-/
import Derived.Test.YtdkimnigckpncaaA
namespace Go.Proofs.Ytdkimnigckpncaa
open Go.RowKit
attribute [local go_sem] w_add
namespace Ch
open Qu (W wd dbl)
def val : List Y → Nat
  | [] => 0
  | b :: r => b.toNat + 256 * val r
theorem val_lt : ∀ l : List Y, val l < 256 ^ l.length
  | [] => by decide
  | b :: r => by
    have := val_lt r
    have := b.isLt
    rw [val, List.length_cons, Nat.pow_succ]; omega
theorem ge_val : ∀ l : List Y, l.length ≤ 8 → (ge l).toNat = val l
  | [], _ => rfl
  | b :: r, h => by
    have h7 : r.length ≤ 7 := by simpa using h
    have ih := ge_val r (by omega)
    have hlt := val_lt r
    have hp : 256 ^ r.length ≤ 256 ^ 7 := Nat.pow_le_pow_right (by decide) h7
    have hb := b.isLt
    have e7 : (256 : Nat) ^ 7 = 72057594037927936 := by decide
    rw [e7] at hp
    have e1 : (b.setWidth 64).toNat = b.toNat := by rw [BitVec.toNat_setWidth]; omega
    rw [ge, val, BitVec.toNat_or, BitVec.toNat_shiftLeft, ih, e1, Nat.mod_eq_of_lt (by rw [Nat.shiftLeft_eq]; omega), ← Nat.shiftLeft_add_eq_or_of_lt (by omega), Nat.shiftLeft_eq]
    omega
theorem ge_word (x : W) : (ge (pu (x.setWidth 64) 4)).setWidth 32 = x := by
  apply BitVec.eq_of_toNat_eq
  have hx := x.isLt
  rw [BitVec.toNat_setWidth, ge_val _ (by rw [pu_length]; omega)]
  simp only [pu, low8, List.nil_append, List.cons_append, val, BitVec.toNat_setWidth, BitVec.toNat_ushiftRight, Nat.shiftRight_eq_div_pow]
  omega
theorem outs_word (s t : List W) (i : Nat) (hi : i < 16) : ((outs s t 16).drop (4 * i)).take 4 = word s t i := by
  unfold outs
  have e : 16 = i + 1 + (15 - i) := by omega
  have h1 := outs_pre s t i
  have h2 := outs_pre s t (i + 1)
  have hr : List.range 16 = List.range (i + 1) ++ (List.range (15 - i)).map (· + (i + 1)) := by
    rw [e, List.range_add]
    simp only [Nat.add_comm]
  rw [hr, List.flatMap_append, List.range_succ, List.flatMap_append, List.append_assoc, List.append_assoc, List.drop_append_of_le_length (by omega), List.drop_of_length_le (by omega)]
  simp only [List.flatMap_cons, List.flatMap_nil, List.append_nil, List.nil_append]
  rw [List.take_append_of_le_length (by rw [word_length]; omega), List.take_of_length_le (by rw [word_length]; omega)]
theorem block_word (key nonce : List Y) (c : W) (i : Nat) (hi : i < 16) :
    (ge (((block key nonce c).drop (4 * i)).take 4)).setWidth 32 = wd (rep dbl 10 (start key nonce c)) i + wd (start key nonce c) i := by
  rw [← outs_all, outs_word _ _ i hi, word, ge_word, BitVec.add_comm]
end Ch

/-- Two words can be read, and a block of the stream lies there. -/
def Th (b tb ab k : Nat) (s t : List (BitVec 32)) (bk : List (BitVec 8)) (w : World) : Prop :=
  w.cell? ⟨b, k, none⟩ = some (.int .u32 (u (Qu.wd s k))) ∧ w.cell? ⟨tb, k, none⟩ = some (.int .u32 (u (Qu.wd t k))) ∧ w.heap[ab]? = some (.cells (c8 bk) 36 (0, 0))
/-- The key, the nonce, a block of the stream, a state. -/
structure Bs (w : World) (key nonce : List (BitVec 8)) (ab : Nat) (bk : List (BitVec 8)) (sb : Nat) (s : List (BitVec 32)) (X : World) : Prop where
  xl : Xl w key nonce X
  o1 : w.heap.size + 1 < ab
  o2 : ab < sb
  ab : X.heap[ab]? = some (.cells (c8 bk) 36 (0, 0))
  st : X.heap[sb]? = some (.cells (c32 s) 23 (0, 0))
  sz : sb < X.heap.size
section
variable {w X Y : World} {key nonce bk : List (BitVec 8)} {s : List (BitVec 32)} {ab sb : Nat}
theorem Bs.new (h : Xl w key nonce X) (ha : X.heap[ab]? = some (.cells (c8 bk) 36 (0, 0))) (h1 : w.heap.size + 1 < ab) (h2 : ab < X.heap.size) (cs : Array Value) (hs : cs = c32 s) :
    Bs w key nonce ab bk X.heap.size s (X.alloc (.cells cs 23)) :=
  ⟨h.over (B := X.heap.size) (by have := h.sz; omega) ((Below.refl _ _).alloc (Nat.le_refl _) _), h1, h2, (Below.heap_alloc _ _ _ h2).trans ha, by rw [← hs]; exact heap_alloc_new _ _, by simp⟩
theorem Bs.ky (h : Bs w key nonce ab bk sb s X) : X.heap[w.heap.size]? = some (.cells (c8 key) 31 (0, 0)) := h.xl.ky
theorem Bs.no (h : Bs w key nonce ab bk sb s X) : X.heap[w.heap.size + 1]? = some (.cells (c8 nonce) 35 (0, 0)) := h.xl.no
theorem Bs.set (h : Bs w key nonce ab bk sb s X) (j : Nat) (x : BitVec 32) : Bs w key nonce ab bk sb (s.set j x) (X.setCell ⟨sb, j, none⟩ (.int .u32 (u x))) := by
  have ho : ∀ g, g ≠ sb → (X.setCell ⟨sb, j, none⟩ (.int .u32 (u x))).heap[g]? = X.heap[g]? := fun g hg => heap_setCell_other X ⟨_, j, none⟩ g _ hg
  have h1 := h.o1
  have h2 := h.o2
  have hgr : X.grownBy (X.setCell ⟨sb, j, none⟩ (.int .u32 (u x))) (some sb) := ⟨rfl, rfl, rfl, by simp [World.setCell], fun i _ hne => ho i (fun e => hne (by rw [e]))⟩
  refine ⟨h.xl.aside (by omega) hgr, h1, h2, (ho _ (by omega)).trans h.ab, ?_, by simpa [World.setCell] using h.sz⟩
  rw [← c32_set]; exact heap_setCell_same X _ j (c32 s) 23 _ h.st
theorem Bs.cell (h : Bs w key nonce ab bk sb s X) {j : Nat} (hj : j < s.length) : X.cell? ⟨sb, j, none⟩ = some (.int .u32 (u (Qu.wd s j))) :=
  (cell_of_row X _ j _ 23 (0, 0) h.st).trans (c32_get s j hj)
theorem Bs.free (h : Bs w key nonce ab bk sb s X) (j : Nat) : X.frozen? ⟨sb, j, none⟩ = false := frozen_of_row X _ j _ 23 h.st
theorem Bs.over (h : Bs w key nonce ab bk sb s X) {B : Nat} (hB : sb < B) (hb : Below B X Y) : Bs w key nonce ab bk sb s Y := by
  have h1 := h.o1
  have h2 := h.o2
  exact ⟨h.xl.over (by omega) hb, h1, h2, (hb.block _ (by omega)).trans h.ab, (hb.block _ (by omega)).trans h.st, Nat.lt_of_lt_of_le h.sz hb.size⟩
theorem Bs.later (h : Bs w key nonce ab bk sb s X) (hb : Below X.heap.size X Y) : Bs w key nonce ab bk sb s Y := h.over h.sz hb
theorem Bs.aside (h : Bs w key nonce ab bk sb s X) {g : Nat} (hg : sb < g) (hb : X.grownBy Y (some g)) : Bs w key nonce ab bk sb s Y := by
  have h1 := h.o1
  have h2 := h.o2
  have h3 := h.sz
  exact ⟨h.xl.aside (by omega) hb, h1, h2, (hb.block _ (by omega) (by simp; omega)).trans h.ab, (hb.block _ (by omega) (by simp; omega)).trans h.st, Nat.lt_of_lt_of_le h.sz hb.size⟩
end

set_option maxRecDepth 100000 in
set_option maxHeartbeats 4000000 in
theorem sums_any (key nonce : List (BitVec 8)) (hk : key.length = 32) (hn : nonce.length = 12) (c : BitVec 32) (w : World) : Calls Try.prog 12 #[.agg (c8 key), .agg (c8 nonce), .int .u32 (u c)] w fun e w' => e = .returned (.bool true) ∧ Below w.heap.size w w' := by
  go_enter Try.func12, Try.ntmps12
  have HK := Lib.hid hk; have HN := Lib.hid hn
  clear hk hn
  have h0 := Xl.new w key nonce
  have hky := h0.ky
  have hno := h0.no
  go_wp2_with (first | (refine wpList_load_row rfl 31 (.tmp 3) rfl w.heap.size rfl 31 (c8 key) (0, 0) _ hky Try.underlying31 rfl (by rw [info31, c8_size, HK.out]) ?_) | (refine wpList_load_row rfl 35 (.tmp 4) rfl (w.heap.size + 1) rfl 35 (c8 nonce) (0, 0) _ hno Try.underlying35 rfl (by rw [info35, c8_size, HN.out]) ?_))
  refine (block_any key nonce HK.out HN.out _ _).mono ?_
  rintro e w1 ⟨rfl, hb1⟩
  have hbl := Ch.block_length key nonce c
  have hbw : Hid (∀ i, i < 16 → (Ch.ge (((Ch.block key nonce c).drop (4 * i)).take 4)).setWidth 32 = Qu.wd (Ch.rep Qu.dbl 10 (Ch.start key nonce c)) i + Qu.wd (Ch.start key nonce c) i) := Ch.block_word key nonce c
  generalize Ch.block key nonce c = bk at *
  have h1 := h0.over (by simp) hb1
  have hz1 := h1.sz
  clear hky hno hb1 h0
  go_wp2_with (refine wpList_store_whole rfl 36 (.tmp 7) (.tmp 17) rfl w1.heap.size 36 _ (c8 bk) rfl rfl (heap_alloc_new _ _) (by rw [info36, c8_size, hbl]) (by rw [c8_size, hbl]; rfl) (c8_all _) ?_; intro w2 hT2 gr2)
  have h2 : Xl w key nonce w2 := h1.over (B := w1.heap.size) hz1 (new_below (Below.refl _ _) (Nat.le_refl _) gr2)
  obtain ⟨ab, hab⟩ : ∃ ab, ab = w1.heap.size := ⟨_, rfl⟩
  have hz2 : ab < w2.heap.size := by rw [hab]; exact Blk_lt hT2
  rw [← hab] at hT2 hz1
  simp only [← hab]
  clear gr2 hab h1
  go_wp2_with fail
  obtain ⟨sb, hsb⟩ : ∃ sb, sb = w2.heap.size := ⟨_, rfl⟩
  have hB0 := Bs.new h2 hT2 hz1 hz2 (c32 Ch.st0) rfl
  simp only [← hsb]
  rw [← hsb] at hB0
  clear h2 hT2 hz2 hsb
  go_loopw [9] (fun i wr => ∃ (k : Nat) (s' : List (BitVec 32)), k ≤ 8 ∧ (i = .int .i64 k) ∧ Hid (s' = Ch.fil key 4 k Ch.st0) ∧ Hid (s'.length = 16) ∧ Hid (Bs w key nonce ab bk sb s' wr)) (fun i _ => 8 - (intOf i).toNat)
  case atStart => exact ⟨0, Ch.st0, by omega, rfl, rfl, rfl, hB0⟩
  case round =>
    obtain ⟨k, s', hk, rfl, hs1, hs2, HB⟩ := hrel
    by_cases hlt : k < 8
    · have hk8 : (k : Int) < 8 := by omega
      have a1 : (4 : Int) + k < 16 := by omega
      have hsl := fun W => sl_lh Try.underlying31 W w.heap.size (4 * k) (4 * k + 4) (4 * (k : Int)) (4 * (k : Int) + 4) (by omega) (by omega) (by omega) (by omega) (by omega)
      have e4 : 4 * k + 4 - 4 * k = 4 := by omega
      rw [e4] at hsl
      clear e4
      go_wp2_with fail
      refine (rget_any _ _ _ ((key.drop (4 * k)).take 4) (by simp [HK.out]; omega) (by omega) _ (rd_c8 HB.out.ky (4 * k) 4 (by rw [HK.out]; omega))).mono ?_
      rintro e w1 ⟨rfl, rfl⟩
      have hcv := c_64_32 (Ch.ge (((key.drop (4 * k)).take 4).take 8))
      have cc := HB.out.cell (j := 4 + k) (by rw [hs2.out]; omega)
      have ff := HB.out.free (4 + k)
      have e5 : ((4 : Int) + (k : Int)).toNat = 4 + k := by omega
      go_wp2_with fail
      go_roundw
      case rel => exact ⟨k + 1, s'.set (4 + k) (Ch.w4 key k), by omega, by go_num, by show _ = _; rw [Ch.fil, ← hs1.out], by show _ = _; rw [List.length_set]; exact hs2.out, by rw [w4_eq]; exact HB.out.set _ _⟩
      case measure => simp [intOf]; omega
    · have hk8 : k = 8 := by omega
      subst hk8
      have cc := HB.out.cell (j := 12) (by rw [hs2.out]; omega)
      have ff := HB.out.free 12
      go_wp2_with fail
      have HB2 := Lib.hid (HB.out.set 12 c)
      have hz1 : Hid ((s'.set 12 c) = (Ch.fil key 4 8 Ch.st0).set 12 c) := by show _ = _; rw [hs1.out]
      have hz2 : Hid ((s'.set 12 c).length = 16) := by show _ = _; rw [List.length_set]; exact hs2.out
      clear HB cc ff hs1 hs2
      generalize hsg : s'.set 12 c = s at *
      clear hsg s'
      generalize hwg : wr.setCell { block := sb, off := 12, spot := none } (.int .u32 (u c)) = wq at *
      clear hwg wr
      go_loopw [10] (fun i wr => ∃ (k : Nat) (s' : List (BitVec 32)), k ≤ 3 ∧ (i = .int .i64 k) ∧ Hid (s' = Ch.fil nonce 13 k s) ∧ Hid (s'.length = 16) ∧ Hid (Bs w key nonce ab bk sb s' wr)) (fun i _ => 3 - (intOf i).toNat)
      case atStart => exact ⟨0, s, by omega, rfl, rfl, hz2, HB2⟩
      case round =>
        obtain ⟨k, s', hk, rfl, hs1, hs2, HB⟩ := hrel
        by_cases hlt : k < 3
        · have hk8 : (k : Int) < 3 := by omega
          have a1 : (13 : Int) + k < 16 := by omega
          have hsl := fun W => sl_lh Try.underlying35 W (w.heap.size + 1) (4 * k) (4 * k + 4) (4 * (k : Int)) (4 * (k : Int) + 4) (by omega) (by omega) (by omega) (by omega) (by omega)
          have e4 : 4 * k + 4 - 4 * k = 4 := by omega
          rw [e4] at hsl
          clear e4
          go_wp2_with fail
          refine (rget_any _ _ _ ((nonce.drop (4 * k)).take 4) (by simp [HN.out]; omega) (by omega) _ (rd_c8 HB.out.no (4 * k) 4 (by rw [HN.out]; omega))).mono ?_
          rintro e w1 ⟨rfl, rfl⟩
          have hcv := c_64_32 (Ch.ge (((nonce.drop (4 * k)).take 4).take 8))
          have cc := HB.out.cell (j := 13 + k) (by rw [hs2.out]; omega)
          have ff := HB.out.free (13 + k)
          have e5 : ((13 : Int) + (k : Int)).toNat = 13 + k := by omega
          go_wp2_with fail
          go_roundw
          case rel => (repeat apply Exists.intro); exact ⟨⟨k + 1, s'.set (13 + k) (Ch.w4 nonce k), by omega, by go_num, by show _ = _; rw [Ch.fil, ← hs1.out], by show _ = _; rw [List.length_set]; exact hs2.out, by rw [w4_eq]; exact HB.out.set _ _⟩, rfl⟩
          case measure => simp [intOf]; omega
        · have hk3 : k = 3 := by omega
          subst hk3
          have hs3 : Hid (s' = Ch.start key nonce c) := by show _ = _; rw [hs1.out, hz1.out]; exact Ch.filled key nonce c
          clear hs1 hz1 hz2 HB2
          have hst := HB.out.st
          go_wp2_with (first | (refine wpList_load_row rfl 23 (.tmp 8) rfl sb rfl 23 (c32 s') (0, 0) _ hst Try.underlying23 rfl (by rw [info23, c32_size, hs2.out]) ?_) | (refine wpList_store_whole rfl 23 (.tmp 11) (.tmp 51) rfl wr.heap.size 23 _ (c32 s') rfl rfl (heap_alloc_new _ _) (by rw [info23, c32_size, hs2.out]) (by rw [c32_size, hs2.out]; rfl) (c32_all _) ?_; intro w2 hT gr))
          have hbb := HB.out.sz
          have hg1 : Hid (Bs w key nonce ab bk sb s' w2) := HB.out.later (new_below (Below.refl _ _) (by omega) gr)
          obtain ⟨tb, htb⟩ : ∃ tb, tb = wr.heap.size := ⟨_, rfl⟩
          rw [← htb] at hT hbb
          have hz2 : tb < w2.heap.size := Blk_lt hT
          simp only [← htb]
          clear gr hst HB htb wr
          go_loopw [12] (fun i wr => ∃ (k : Nat) (t : List (BitVec 32)), k ≤ 10 ∧ (i = .int .i64 k) ∧ Hid (t = Ch.rep Qu.dbl k s') ∧ Hid (t.length = 16) ∧ Hid (Bs w key nonce ab bk sb s' wr) ∧ wr.heap[tb]? = some (.cells (c32 t) 23 (0, 0)) ∧ tb < wr.heap.size) (fun i _ => 10 - (intOf i).toNat)
          case atStart => exact ⟨0, s', by omega, rfl, rfl, hs2, hg1, hT, hz2⟩
          case round =>
            obtain ⟨k, t, hk, rfl, ht1, ht2, HB, hH, hzr⟩ := hrel
            clear hg1 hT hz2
            by_cases hlt : k < 10
            · have hk8 : (k : Int) < 10 := by omega
              go_wp2_with (refine wpList_load_row rfl 23 (.tmp 11) rfl tb rfl 23 (c32 t) (0, 0) _ hH Try.underlying23 rfl (by rw [info23, c32_size, ht2.out]) ?_)
              refine (rdouble_any _ ht2.out _).mono ?_
              rintro e w1 ⟨rfl, hb1⟩
              have HB1 := Lib.hid (HB.out.later hb1)
              have hH1 := (hb1.block tb hzr).trans hH
              have hzs := hb1.size
              have hd2 : (Qu.dbl t).length = 16 := (Qu.dbl_length t).trans ht2.out
              clear hH HB
              go_wp2_with (refine wpList_store_whole rfl 23 (.tmp 11) (.tmp 57) rfl tb 23 _ (c32 (Qu.dbl t)) rfl rfl hH1 (by rw [info23, c32_size, hd2]) (by rw [c32_size, c32_size, hd2, ht2.out]) (c32_all _) ?_; intro w3 hT gr)
              have R1 : Hid (Bs w key nonce ab bk sb s' w3) := HB1.out.aside hbb gr
              have R2 : tb < w3.heap.size := by have := gr.size; omega
              clear gr hH1 HB1
              go_wp2_with fail
              go_roundw
              case rel => exact ⟨k + 1, Qu.dbl t, by omega, by go_num, by show _ = _; rw [Ch.rep, ← ht1.out], hd2, R1, hT, R2⟩
              case measure => simp [intOf]; omega
            · have hk10 : k = 10 := by omega
              subst hk10
              go_wp2_with fail
              have HT1 : Hid (t = Ch.rep Qu.dbl 10 (Ch.start key nonce c)) := by show _ = _; rw [← hs3.out]; exact ht1.out
              go_loopw [13] (fun i wr => ∃ (k : Nat), k ≤ 16 ∧ (i = .int .i64 k) ∧ Hid (Bs w key nonce ab bk sb s' wr) ∧ Hid (wr.heap[tb]? = some (.cells (c32 t) 23 (0, 0))) ∧ tb < wr.heap.size) (fun i _ => 16 - (intOf i).toNat)
              case atStart => exact ⟨0, by omega, rfl, HB, hH, hzr⟩
              case round =>
                clear HB hH hzr
                obtain ⟨k, hk, rfl, HB, hH, hz5⟩ := hrel
                by_cases hlt : k < 16
                · have hk8 : (k : Int) < 16 := by omega
                  have hS : Th sb tb ab k s' t bk wr.drew :=
                    ⟨HB.out.cell (by rw [hs2.out]; omega), (cell_of_row wr tb k _ 23 (0, 0) hH.out).trans (c32_get t k (by rw [ht2.out]; omega)), HB.out.ab⟩
                  have hsl := fun W => sl_lh Try.underlying36 W ab (4 * k) (4 * k + 4) (4 * (k : Int)) (4 * (k : Int) + 4) (by omega) (by omega) (by omega) (by omega) (by omega)
                  have e4 : 4 * k + 4 - 4 * k = 4 := by omega
                  rw [e4] at hsl
                  clear e4
                  have hwr : IntKind.i64.wrap (4 * (k : Int)) = 4 * (k : Int) := by rw [IntKind.wrap_i64]; omega
                  have hwr2 : IntKind.i64.wrap (4 * (k : Int) + 4) = 4 * (k : Int) + 4 := by rw [IntKind.wrap_i64]; omega
                  go_wp2_with fail
                  refine Ph.region 99 (Th sb tb ab k s' t bk) (Th sb tb ab k s' t bk) (by kernel_rfl) ?_
                  refine Ph.take2 (i := 0) (d := some 62) rfl rfl (by kernel_rfl) (fun _ h => h) (fun _ _ _ h => h) rfl (v := ?v0) (fun w' hw' => ?y0) hS ?n0
                  case y0 => (obtain ⟨q0, q1, q2⟩ := hw'; go_simp; try (with_reducible rfl))
                  simp only [Act.put, List.setIfInBounds_toArray, List.set_cons_zero, List.set_cons_succ]
                  refine Ph.take2 (i := 1) (d := some 63) rfl rfl (by kernel_rfl) (fun _ h => h) (fun _ _ _ h => h) rfl (v := ?v1) (fun w' hw' => ?y1) hS ?n1
                  case y1 => (obtain ⟨q0, q1, q2⟩ := hw'; go_simp; try (with_reducible rfl))
                  simp only [Act.put, List.setIfInBounds_toArray, List.set_cons_zero, List.set_cons_succ]
                  refine Ph.take2 (i := 2) (d := some 64) rfl rfl (by kernel_rfl) (fun _ h => h) (fun _ _ _ h => h) rfl (v := ?v2) (fun w' hw' => ?y2) hS ?n2
                  case y2 => (obtain ⟨q0, q1, q2⟩ := hw'; go_simp; try (with_reducible rfl))
                  simp only [Act.put, List.setIfInBounds_toArray, List.set_cons_zero, List.set_cons_succ]
                  refine Ph.take2 (i := 3) (d := some 65) rfl rfl (by kernel_rfl) (fun _ h => h) (fun _ _ _ h => h) rfl (v := ?v3) (fun w' hw' => ?y3) hS ?n3
                  case y3 => (obtain ⟨q0, q1, q2⟩ := hw'; go_simp; try (with_reducible rfl))
                  simp only [Act.put, List.setIfInBounds_toArray, List.set_cons_zero, List.set_cons_succ]
                  refine Ph.take2 (i := 4) (d := some 66) rfl rfl (by kernel_rfl) (fun _ h => h) (fun _ _ _ h => h) rfl (v := ?v4) (fun w' hw' => ?y4) hS ?n4
                  case y4 => (obtain ⟨q0, q1, q2⟩ := hw'; go_simp; try (with_reducible rfl))
                  simp only [Act.put, List.setIfInBounds_toArray, List.set_cons_zero, List.set_cons_succ]
                  refine Ph.take2 (i := 5) (d := some 67) rfl rfl (by kernel_rfl) (fun _ h => h) (fun _ _ _ h => h) rfl (v := ?v5) (fun w' hw' => ?y5) hS ?n5
                  case y5 => (obtain ⟨q0, q1, q2⟩ := hw'; go_simp; try (with_reducible rfl))
                  simp only [Act.put, List.setIfInBounds_toArray, List.set_cons_zero, List.set_cons_succ]
                  refine Ph.take2 (i := 8) (d := some 70) rfl rfl (by kernel_rfl) (fun _ h => h) (fun _ _ _ h => h) rfl (v := ?v8) (fun w' hw' => ?y8) hS ?n8
                  case y8 => (obtain ⟨q0, q1, q2⟩ := hw'; go_simp; try (with_reducible rfl))
                  simp only [Act.put, List.setIfInBounds_toArray, List.set_cons_zero, List.set_cons_succ]
                  refine Ph.take2 (i := 9) (d := some 71) rfl rfl (by kernel_rfl) (fun _ h => h) (fun _ _ _ h => h) rfl (v := ?v9) (fun w' hw' => ?y9) hS ?n9
                  case y9 => (obtain ⟨q0, q1, q2⟩ := hw'; go_simp; try (with_reducible rfl))
                  simp only [Act.put, List.setIfInBounds_toArray, List.set_cons_zero, List.set_cons_succ]
                  refine Ph.take2 (i := 10) (d := some 72) rfl rfl (by kernel_rfl) (fun _ h => h) (fun _ _ _ h => h) rfl (v := ?v10) (fun w' hw' => ?y10) hS ?n10
                  case y10 => (obtain ⟨q0, q1, q2⟩ := hw'; go_simp; try (with_reducible rfl))
                  simp only [Act.put, List.setIfInBounds_toArray, List.set_cons_zero, List.set_cons_succ]
                  refine Ph.take2 (i := 11) (d := some 73) rfl rfl (by kernel_rfl) (fun _ h => h) (fun _ _ _ h => h) rfl (v := ?v11) (fun w' hw' => ?y11) hS ?n11
                  case y11 => (obtain ⟨q0, q1, q2⟩ := hw'; go_simp; try (with_reducible rfl))
                  simp only [Act.put, List.setIfInBounds_toArray, List.set_cons_zero, List.set_cons_succ]
                  refine Ph.take2 (i := 12) (d := some 74) rfl rfl (by kernel_rfl) (fun _ h => h) (fun _ _ _ h => h) rfl (v := ?v12) (fun w' hw' => ?y12) hS ?n12
                  case y12 => (obtain ⟨q0, q1, q2⟩ := hw'; go_simp; try (with_reducible rfl))
                  simp only [Act.put, List.setIfInBounds_toArray, List.set_cons_zero, List.set_cons_succ]
                  refine Ph.take2 (i := 13) (d := some 75) rfl rfl (by kernel_rfl) (fun _ h => h) (fun _ _ _ h => h) rfl (v := ?v13) (fun w' hw' => ?y13) hS ?n13
                  case y13 => (obtain ⟨q0, q1, q2⟩ := hw'; go_simp; try (with_reducible rfl))
                  simp only [Act.put, List.setIfInBounds_toArray, List.set_cons_zero, List.set_cons_succ]
                  refine Ph.take2 (i := 14) (d := some 76) rfl rfl (by kernel_rfl) (fun _ h => h) (fun _ _ _ h => h) rfl (v := ?v14) (fun w' hw' => ?y14) hS ?n14
                  case y14 => (obtain ⟨q0, q1, q2⟩ := hw'; go_simp; try (with_reducible rfl))
                  simp only [Act.put, List.setIfInBounds_toArray, List.set_cons_zero, List.set_cons_succ]
                  refine Ph.only (i := 6) rfl (by kernel_rfl) rfl (fun K hK => ?_)
                  go_simp
                  refine (rget_any _ _ _ ((bk.drop (4 * k)).take 4) (by simp [hbl]; omega) (by omega) _ (rd_c8 hS.2.2 (4 * k) 4 (by rw [hbl]; omega))).mono ?_
                  rintro e w1 ⟨rfl, rfl⟩
                  have hcv := c_64_32 (Ch.ge (((bk.drop (4 * k)).take 4).take 8))
                  have hv := hbw.out k (by omega)
                  rw [List.take_take] at hcv
                  have e48 : min 8 4 = 4 := rfl
                  rw [e48, hv, ← HT1.out, ← hs3.out] at hcv
                  have e9 : ((bk.drop (4 * k)).take 4).take 8 = (bk.drop (4 * k)).take 4 := by rw [List.take_take]; rfl
                  rw [e9]
                  refine hK _ _ hS ?_
                  clear hK K
                  try simp only [List.setIfInBounds_toArray, List.set_cons_zero, List.set_cons_succ]
                  refine Ph.take2 (i := 7) (d := some 69) rfl rfl (by kernel_rfl) (fun _ h => h) (fun _ _ _ h => h) rfl (v := ?v7) (fun w' hw' => ?y7) hS ?n7
                  case y7 => (obtain ⟨q0, q1, q2⟩ := hw'; go_simp; try (with_reducible rfl))
                  simp only [Act.put, List.setIfInBounds_toArray, List.set_cons_zero, List.set_cons_succ]
                  refine Ph.take2 (i := 15) (d := some 77) rfl rfl (by kernel_rfl) (fun _ h => h) (fun _ _ _ h => h) rfl (v := ?v15) (fun w' hw' => ?y15) hS ?n15
                  case y15 => (obtain ⟨q0, q1, q2⟩ := hw'; go_simp; try (with_reducible rfl))
                  simp only [Act.put, List.setIfInBounds_toArray, List.set_cons_zero, List.set_cons_succ]
                  refine Ph.done (by kernel_rfl) ?_ _
                  have HB1 := Lib.hid (HB.out.later (Below.refl _ wr).drew)
                  have hH1 : Hid (wr.drew.heap[tb]? = some (.cells (c32 t) 23 (0, 0))) := hH.out
                  have hz6 : tb < wr.drew.heap.size := hz5
                  clear HB hH hz5 hS
                  generalize wr.drew = wq at *
                  clear wr
                  go_wp2_with fail
                  go_roundw
                  case rel => first | exact ⟨k + 1, by omega, by go_num, HB1, hH1, hz6⟩ | ((repeat apply Exists.intro); exact ⟨⟨k + 1, by omega, by go_num, HB1, hH1, hz6⟩, rfl⟩)
                  case measure => simp [intOf]; omega
                · have hk16 : k = 16 := by omega
                  subst hk16
                  go_wp2_with fail
                  refine (awake3_any _).mono ?_
                  rintro e w1 ⟨rfl, hb1⟩
                  have hbl1 := HB.out.xl.bl
                  have hzz := hbl1.size
                  go_wp2_with fail
                  go_ret
                  exact ⟨rfl, hbl1.trans (hb1.mono (by omega))⟩
end Go.Proofs.Ytdkimnigckpncaa
