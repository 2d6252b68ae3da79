/-
  The walks of the sealing of a row: plain words; the program's own.
-/
import Derived.Test.YtdkimnigckpncaaV3
import Derived.Laws.AppendOwnNone
namespace Go.Proofs.Ytdkimnigckpncaa
open Go.RowKit
attribute [local go_sem] w_add
theorem results_tmp2 {fn : Func} {t u : Tmp} (h : fn.results = #[.tmp t, .tmp u]) (tmps : Array Value) (P : Program) (w : World) :
    (results fn tmps).run P w = .ok (.tuple #[tmps.getD t undef, tmps.getD u undef]) w := by simp [results, h]
namespace Ch
open Qu (W wd dbl)
/-- The first p bytes turned. -/
def mix (key nonce : List Y) (c : W) (l : List Y) (p : Nat) : List Y := l.mapIdx fun i x => if i < p then x ^^^ stream key nonce c i else x
theorem mix_length (key nonce : List Y) (c : W) (l : List Y) (p : Nat) : (mix key nonce c l p).length = l.length := by simp [mix]
theorem mix_zero (key nonce : List Y) (c : W) (l : List Y) : mix key nonce c l 0 = l := by
  apply List.ext_getElem <;> simp [mix]
theorem mix_all (key nonce : List Y) (c : W) (l : List Y) (p : Nat) (hp : l.length ≤ p) : mix key nonce c l p = xor key nonce c l := by
  apply List.ext_getElem
  · simp [mix, xor]
  · intro i h1 h2
    have : i < p := by simp [mix] at h1; omega
    simp [mix, xor, this]
theorem mix_at (key nonce : List Y) (c : W) (l : List Y) (p : Nat) : (mix key nonce c l p).getD p 0#8 = l.getD p 0#8 := by
  simp only [mix, List.getD_eq_getElem?_getD, List.getElem?_mapIdx]
  cases l[p]? <;> simp
theorem mix_next (key nonce : List Y) (c : W) (l : List Y) (p : Nat) : (mix key nonce c l p).set p (l.getD p 0#8 ^^^ stream key nonce c p) = mix key nonce c l (p + 1) := by
  apply List.ext_getElem
  · simp [mix]
  · intro i h1 h2
    have hi : i < l.length := by simp [mix] at h2; omega
    simp only [mix, List.getElem_set, List.getElem_mapIdx, List.getD_eq_getElem?_getD]
    by_cases h : p = i
    · subst h
      simp [hi]
    · rw [if_neg h]
      by_cases h3 : i < p
      · rw [if_pos h3, if_pos (by omega)]
      · rw [if_neg h3, if_neg (by omega)]
end Ch

theorem Rd.later {X Y : World} {A : Option Addr} {l : List (BitVec 8)} (h : Rd X A l) (hb : Below X.heap.size X Y) : Rd Y A l := by
  intro i hi
  obtain ⟨ad, e, hc⟩ := h i hi
  refine ⟨ad, e, ?_⟩
  have hlt : (ad.add i).block < X.heap.size := by
    rcases Nat.lt_or_ge (ad.add i).block X.heap.size with h | h
    · exact h
    · unfold World.cell? at hc
      rw [Array.getElem?_eq_none h] at hc
      cases hc
  rw [← hc]
  unfold World.cell?
  rw [hb.block _ hlt]
theorem b_xor8 (x y : BitVec 8) : bits .xor .u8 (u x) (u y) = u (x ^^^ y) := by
  have hw : ∀ x : BitVec 8, IntKind.u8.wrap (x.toNat : Int) = (x.toNat : Int) := fun x => by rw [IntKind.wrap_u8]; have := x.isLt; omega
  show IntKind.u8.wrap ((BitVec.ofInt 8 (x.toNat : Int) ^^^ BitVec.ofInt 8 (y.toNat : Int)).toNat : Int) = _
  rw [ofI, ofI, hw]
  rfl
theorem own_cell {W : World} {base g n cap : Nat} {L : List (BitVec 8)} (h : W.ownsRow base 5 1 (.slice (some ⟨g, 0, none⟩) n cap) n (L.map cell8)) (j : Nat) (hj : j < n) : W.cell? ⟨g, j, none⟩ = some (.int .u8 (u (L.getD j 0#8))) := by
  have hl := h.1
  rw [List.length_map] at hl
  rw [h.cellAt j (by omega), List.getElem?_map, List.getD_eq_getElem?_getD, List.getElem?_eq_getElem (by omega)]
  rfl
/-- A byte of the row and a byte of the stream can be read. -/
def CC (g sb i k : Nat) (x y : BitVec 8) (w : World) : Prop := w.cell? ⟨g, i, none⟩ = some (.int .u8 (u x)) ∧ w.cell? ⟨sb, k, none⟩ = some (.int .u8 (u y))
theorem own_base {W : World} {base base' n : Nat} {v : Value} {xs : List Value} (h : W.ownsRow base 5 1 v n xs) (hb : base' ≤ base) : W.ownsRow base' 5 1 v n xs := by
  rcases h with ⟨h0, h1 | ⟨g, cap, cur, hv, hg, hr⟩⟩
  · exact ⟨h0, .inl h1⟩
  · exact ⟨h0, .inr ⟨g, cap, cur, hv, by omega, hr⟩⟩
/-- The key and the nonce lie in the first two new blocks. -/
structure Xl (w : World) (key nonce : List (BitVec 8)) (X : World) : Prop where
  ky : X.heap[w.heap.size]? = some (.cells (c8 key) 31 (0, 0))
  no : X.heap[w.heap.size + 1]? = some (.cells (c8 nonce) 35 (0, 0))
  bl : Below w.heap.size w X
  sz : w.heap.size + 1 < X.heap.size
section
variable {w X Y : World} {key nonce : List (BitVec 8)}
theorem Xl.new (w : World) (key nonce : List (BitVec 8)) : Xl w key nonce ((w.alloc (.cells (c8 key) 31)).alloc (.cells (c8 nonce) 35)) := by
  refine ⟨?_, ?_, ?_, by simp⟩
  · rw [Below.heap_alloc _ _ _ (by simp), heap_alloc_new]
  · exact heap_alloc2_new _ _ _
  · exact ((Below.refl _ _).alloc (Nat.le_refl _) _).alloc (by simp) _
theorem Xl.over (h : Xl w key nonce X) {B : Nat} (hB : w.heap.size + 1 < B) (hb : Below B X Y) : Xl w key nonce Y := by
  have h0 := h.sz
  have h1 := hb.size
  exact ⟨(hb.block _ (by omega)).trans h.ky, (hb.block _ (by omega)).trans h.no, h.bl.trans (hb.mono (by omega)), by omega⟩
theorem Xl.aside (h : Xl w key nonce X) {g : Nat} (hg : w.heap.size + 1 < g) (hb : X.grownBy Y (some g)) : Xl w key nonce Y := by
  have h0 := h.sz
  have h1 := hb.size
  have hk : ∀ i, i < w.heap.size + 1 + 1 → Y.heap[i]? = X.heap[i]? := fun i hi => hb.block i (by omega) (by simp; omega)
  exact ⟨(hk _ (by omega)).trans h.ky, (hk _ (by omega)).trans h.no, grown_below h.bl hb (by omega) (by omega), by omega⟩
end
theorem u_ofNat (m : Nat) : IntKind.u32.wrap (m : Int) = u (BitVec.ofNat 32 m) := wr32 m

set_option maxRecDepth 100000 in
set_option maxHeartbeats 4000000 in
theorem xor_any (key nonce : List (BitVec 8)) (hk : key.length = 32) (hn : nonce.length = 12) (c : BitVec 32) (A : Option Addr) (n cap : Nat) (hA : A = none → n = 0 ∧ cap = 0) (l : List (BitVec 8)) (hl : l.length = n) (hm : n ≤ 1100) (w : World) (hr : Rd w A l) :
    Calls Try.prog 24 #[.agg (c8 key), .agg (c8 nonce), .int .u32 (u c), .slice A n cap] w fun e w' => Below w.heap.size w w' ∧
      ((Ch.room c n = true ∧ ∃ v, e = .returned (.tuple #[v, .bool true]) ∧ w'.ownsRow w.heap.size 5 1 v n ((Ch.xor key nonce c l).map cell8)) ∨
       (Ch.room c n = false ∧ e = .returned (.tuple #[.slice none 0 0, .bool false]))) := by
  obtain ⟨i0, hi, hz0, hz1, hz2⟩ := info_parts Try.info5
  obtain ⟨q, hq⟩ : ∃ q, q = (n + 63) / 64 := ⟨_, rfl⟩
  have hqi : ((n : Int) + 64 - 1) / 64 = (q : Int) := by omega
  have hc := c.isLt
  have hcu : u c = (c.toNat : Int) := rfl
  have hw1 : IntKind.u64.wrap (u c) = u c := by rw [IntKind.wrap_u64, hcu]; omega
  have hw2 : IntKind.u64.wrap (u c + q) = u c + q := by rw [IntKind.wrap_u64, hcu]; omega
  have HK := Lib.hid hk; have HN := Lib.hid hn; have HL := Lib.hid hl
  clear hk hn hl
  have hroom : Ch.room c n = decide (c.toNat + q ≤ 4294967296) := by rw [hq]; rfl
  have HR := Lib.hid hroom
  have HQ := Lib.hid hq
  clear hroom hq
  by_cases h0 : q = 0
  · obtain rfl : n = 0 := by have := HQ.out; omega
    subst h0
    obtain rfl : l = [] := List.eq_nil_of_length_eq_zero HL.out
    have hT : Ch.room c 0 = true := by rw [HR.out]; simp; omega
    have HTR := Lib.hid hT
    clear hcu hc hT
    cases A with
    | none =>
      obtain ⟨-, rfl⟩ := hA rfl
      have HB0 : Hid (Below w.heap.size w ((w.alloc (.cells (c8 key) 31)).alloc (.cells (c8 nonce) 35))) := ((Below.refl _ _).alloc (Nat.le_refl _) _).alloc (by simp) _
      go_enter Try.func24, Try.ntmps24
      go_wp2_with (at_builtin; refine wpList_append_own_none rfl (.const (.slice none 0 0)) (.tmp 31) 32 rfl (w.heap.size + 1 + 1) 5 i0 1 Try.underlying32 hi _ _ _ rfl (World.ownsRow_nil _ _ _ _) rfl ?_)
      go_loopw [12] (fun i wr => i = .int .i64 0 ∧ Hid (Below w.heap.size w wr)) (fun _ _ => 0)
      case atStart => exact ⟨rfl, HB0.out⟩
      case round =>
        obtain ⟨rfl, HB⟩ := hrel
        go_wp2_with fail
        refine bodyPost_ret (results_tmp2 rfl _ _ _) rfl ?_
        exact ⟨HB.out, .inl ⟨HTR.out, _, rfl, World.ownsRow_nil _ _ _ _⟩⟩
    | some ad =>
      have HB0 : Hid (Below w.heap.size w ((w.alloc (.cells (c8 key) 31)).alloc (.cells (c8 nonce) 35))) := ((Below.refl _ _).alloc (Nat.le_refl _) _).alloc (by simp) _
      go_enter Try.func24, Try.ntmps24
      go_wp2_with (at_builtin; refine wpList_append_own _ rfl (.const (.slice none 0 0)) (.tmp 31) 32 rfl (w.heap.size + 1 + 1) 5 i0 (.int .u8 0) 1 1 Try.underlying32 hi hz0 hz1 hz2 rfl (by decide) _ _ _ rfl (World.ownsRow_nil _ _ _ _) ad 0 cap [] rfl rfl (by simp) (by simp) (by decide) (by decide) (by simp) ?_)
      intro v w1 _ hgr hv
      obtain rfl := hv
      have HB1 := Lib.hid (HB0.out.grown hgr (by simp; omega) (by simp [Value.ownBlock]))
      clear HB0 hgr
      go_wp2_with fail
      go_loopw [12] (fun i wr => i = .int .i64 0 ∧ Hid (Below w.heap.size w wr)) (fun _ _ => 0)
      case atStart => exact ⟨rfl, HB1.out⟩
      case round =>
        obtain ⟨rfl, HB⟩ := hrel
        go_wp2_with fail
        refine bodyPost_ret (results_tmp2 rfl _ _ _) rfl ?_
        exact ⟨HB.out, .inl ⟨HTR.out, _, rfl, World.ownsRow_nil _ _ _ _⟩⟩
  · have hq0 : (0 : Int) < (q : Int) := by omega
    have hw3 : IntKind.u64.wrap (u c + q - 1) = u c + q - 1 := by rw [IntKind.wrap_u64, hcu]; omega
    by_cases hbig : (4294967295 : Int) < u c + q - 1
    · have HTF : Hid (Ch.room c n = false) := by show _ = _; rw [HR.out]; simp; omega
      clear hcu hc
      go_enter Try.func24, Try.ntmps24
      go_wp2
      refine bodyPost_ret (results_tmp2 rfl _ _ _) rfl ?_
      exact ⟨((Below.refl _ _).alloc (Nat.le_refl _) _).alloc (by simp) _, .inr ⟨HTF.out, rfl⟩⟩
    · have HTR : Hid (Ch.room c n = true) := by show _ = _; rw [HR.out]; simp; omega
      have hn0 : 0 < n := by have := HQ.out; omega
      have hn0' : 0 < (n : Int) := by omega
      obtain ⟨ad, rfl, -⟩ := hr 0 (by rw [HL.out]; exact hn0)
      clear hcu hc hqi hA
      have hqi : ((n : Int) + 64 - 1) / 64 = (q : Int) := by have := HQ.out; omega
      have HRD := Lib.hid hr
      clear hr
      go_enter Try.func24, Try.ntmps24
      go_wp2_with (at_builtin; refine wpList_append_own _ rfl (.const (.slice none 0 0)) (.tmp 31) 32 rfl (w.heap.size + 1 + 1) 5 i0 (.int .u8 0) 1 1 Try.underlying32 hi hz0 hz1 hz2 rfl (by decide) _ _ _ rfl (World.ownsRow_nil _ _ _ _) ad n cap (l.map cell8) rfl (by simp [HL.out]) ?c2 (cell8_one _) ?c3 ?c4 ?c5 ?_)
      case c2 =>
        intro j v hj
        have hj2 : j < l.length := by
          rcases Nat.lt_or_ge j l.length with h | h
          · exact h
          · rw [List.getElem?_eq_none h] at hj; cases hj
        obtain ⟨_, e, hc⟩ := (HRD.out.later (((Below.refl _ _).alloc (Nat.le_refl _) (.cells (c8 key) 31)).alloc (by simp) (.cells (c8 nonce) 35))) j hj2
        obtain rfl : ad = _ := Option.some.inj e
        rw [hc, List.getD_eq_getElem?_getD, hj]
        rfl
      case c3 => unfold maxLen; omega
      case c4 => omega
      intro v w1 hown hgr hnil
      obtain ⟨g, cp, cur, rfl, hg, hgh, hcp, hcm, hcs, htk⟩ : ∃ g cap cur, v = .slice (some ⟨g, 0, none⟩) n cap ∧ w.heap.size + 1 + 1 ≤ g ∧ w1.heap[g]? = some (.cells cur 5 (0, 0)) ∧ n ≤ cap ∧ cap ≤ maxLen ∧ cur.size = cap * 1 ∧ cur.toList.take (n * 1) = l.map cell8 := by
        rcases hown.2 with ⟨_, h0⟩ | h
        · omega
        · simpa using h
      have HX : Hid (Xl w key nonce w1) := (Xl.new w key nonce).over (B := w.heap.size + 1 + 1) (by omega) ⟨hgr.os, hgr.tape, hgr.output, by simpa using hgr.size, fun k hk => hgr.block k (by simpa using hk) (by simp [Value.ownBlock])⟩
      have hgz : g < w1.heap.size := Blk_lt hgh
      have hO : Hid (w1.ownsRow (w.heap.size + 1 + 1) 5 1 (.slice (some ⟨g, 0, none⟩) n cp) n ((Ch.mix key nonce c l 0).map cell8)) := by
        show World.ownsRow _ _ _ _ _ _ _
        rw [Ch.mix_zero]; simpa using hown
      clear hown hgr hnil hgh hcs htk
      go_wp2_with fail
      have hcp' : (n : Int) ≤ (cp : Int) := by omega
      clear hbig hw1 hw2 hw3 hqi hq0
      go_loopw [12] (fun i wr => ∃ (m p : Nat), p = 64 * m ∧ p ≤ n + 63 ∧ i = .int .i64 p ∧ Hid (wr.ownsRow (w.heap.size + 1 + 1) 5 1 (.slice (some ⟨g, 0, none⟩) n cp) n ((Ch.mix key nonce c l p).map cell8)) ∧ Hid (Xl w key nonce wr) ∧ g < wr.heap.size) (fun i _ => n + 64 - (intOf i).toNat)
      case atStart => exact ⟨0, 0, rfl, by omega, rfl, hO, HX, hgz⟩
      case round =>
        obtain ⟨m, p, hp, hpn, rfl, hO, HX, hgz⟩ := hrel
        by_cases hlt : p < n
        · have hlt' : (p : Int) < (n : Int) := by omega
          have hd : (p : Int) / 64 = (m : Int) := by omega
          have hun := u_ofNat m
          have hky := HX.out.ky
          have hno := HX.out.no
          have hxz := HX.out.sz
          have HP := Lib.hid hp
          clear hp
          go_wp2_with (first | (refine wpList_load_row rfl 31 (.tmp 4) rfl w.heap.size rfl 31 (c8 key) (0, 0) _ hky Try.underlying31 rfl (by rw [info31, c8_size, HK.out]) ?_) | (refine wpList_load_row rfl 35 (.tmp 5) rfl (w.heap.size + 1) rfl 35 (c8 nonce) (0, 0) _ hno Try.underlying35 rfl (by rw [info35, c8_size, HN.out]) ?_))
          refine (block_any key nonce HK.out HN.out _ _).mono ?_
          rintro e w2 ⟨rfl, hb2⟩
          have hbl := Ch.block_length key nonce (c + BitVec.ofNat 32 m)
          have hz2 := hb2.size
          generalize hbk : Ch.block key nonce (c + BitVec.ofNat 32 m) = bk at *
          have HBK := Lib.hid hbk
          clear hbk hun hd
          obtain ⟨L, hL⟩ : ∃ L, L = min 64 (n - p) := ⟨_, rfl⟩
          have hL1 : L ≤ 64 := by omega
          have hL2 : p + L ≤ n := by omega
          have hL3 : L = 64 ∨ p + L = n := by omega
          have HL3 := Lib.hid hL3
          by_cases h64 : (p : Int) + 64 ≤ (n : Int)
          · have e1 : ((p : Int) + 64).toNat - p = L := by omega
            clear hL hL3
            go_wp2_with (refine wpList_store_whole rfl 36 (.tmp 13) (.tmp 46) rfl w2.heap.size 36 _ (c8 bk) rfl rfl (heap_alloc_new _ _) (by rw [info36, c8_size, hbl]) (by rw [c8_size, hbl]; rfl) (c8_all _) ?_; intro w3 hT gr)
            have hb3 := new_below hb2 (by omega) gr
            have hz3 : w2.heap.size < w3.heap.size := Blk_lt hT
            have HX3 : Hid (Xl w key nonce w3) := HX.out.over (by omega) hb3
            have hO3 : Hid (w3.ownsRow (w.heap.size + 1 + 1) 5 1 (.slice (some ⟨g, 0, none⟩) n cp) n ((Ch.mix key nonce c l (p + 0)).map cell8)) := hO.out.kept ⟨hb3.os, hb3.tape, hb3.output, hb3.size, fun i hi _ => hb3.block i hi⟩ (row := none) (.inr (by simp [Value.ownBlock]))
            obtain ⟨sb, hsb⟩ : ∃ sb, sb = w2.heap.size := ⟨_, rfl⟩
            have hgs : g < sb := by omega
            rw [← hsb] at hT hz3
            simp only [← hsb]
            have HT := Lib.hid hT
            clear gr hb3 hb2 hz2 hky hno hxz HX hO hsb hT
            go_loopw [56] (fun i wr => ∃ (k : Nat), k ≤ L ∧ i = .int .i64 k ∧ Hid (wr.ownsRow (w.heap.size + 1 + 1) 5 1 (.slice (some ⟨g, 0, none⟩) n cp) n ((Ch.mix key nonce c l (p + k)).map cell8)) ∧ Hid (Xl w key nonce wr) ∧ Hid (wr.heap[sb]? = some (.cells (c8 bk) 36 (0, 0))) ∧ sb < wr.heap.size) (fun i _ => L - (intOf i).toNat)
            case atStart => exact ⟨0, Nat.zero_le _, rfl, hO3, HX3, HT, hz3⟩
            case round =>
              obtain ⟨k, hkL, rfl, hO, HX, HT, hz3⟩ := hrel
              by_cases hkl : k < L
              · have hkl' : (k : Int) < (L : Int) := by omega
                have h64 : (k : Int) < 64 := by omega
                have hpk : (p : Int) + (k : Int) < (n : Int) := by omega
                have hpk0 : 0 ≤ (p : Int) + (k : Int) := by omega
                have hpk' : p + k < n := by omega
                have e5 : ((p : Int) + (k : Int)).toNat = p + k := by omega
                have hwr : IntKind.i64.wrap ((p : Int) + (k : Int)) = (p : Int) + (k : Int) := by rw [IntKind.wrap_i64]; omega
                obtain ⟨x, hx⟩ : ∃ x, x = l.getD (p + k) 0#8 := ⟨_, rfl⟩
                obtain ⟨y, hy⟩ : ∃ y, y = bk.getD k 0#8 := ⟨_, rfl⟩
                have HXE := Lib.hid hx
                have HYE := Lib.hid hy
                clear hx hy
                have hor := b_xor8 x y
                go_wp2_with fail
                have hS : CC g sb (p + k) k x y wr.drew := by
                  refine ⟨?_, by rw [HYE.out]; exact cell_c8 (HT.out : wr.drew.heap[sb]? = _) k (by omega)⟩
                  have := own_cell hO.out.drew (p + k) hpk'
                  rwa [Ch.mix_at, ← HXE.out] at this
                have hff := hO.out.drew.frozenAt (p + k)
                refine Ph.region 11 (CC g sb (p + k) k x y) (fun _ => True) (by kernel_rfl) ?_
                refine Ph.take1 (i := 0) (d := some 59) rfl rfl (by kernel_rfl) (fun _ _ _ h => h) rfl (v := ?v0) (fun w' hw' => ?y0) hS ?n0
                case y0 => (obtain ⟨q0, q1⟩ := hw'; go_simp; try (with_reducible rfl))
                simp only [Act.put, List.setIfInBounds_toArray, List.set_cons_zero, List.set_cons_succ]
                refine Ph.take1 (i := 1) (d := some 60) rfl rfl (by kernel_rfl) (fun _ _ _ h => h) rfl (v := ?v1) (fun w' hw' => ?y1) hS ?n1
                case y1 => (obtain ⟨q0, q1⟩ := hw'; go_simp; try (with_reducible rfl))
                simp only [Act.put, List.setIfInBounds_toArray, List.set_cons_zero, List.set_cons_succ]
                refine Ph.take1 (i := 2) (d := some 61) rfl rfl (by kernel_rfl) (fun _ _ _ h => h) rfl (v := ?v2) (fun w' hw' => ?y2) hS ?n2
                case y2 => (obtain ⟨q0, q1⟩ := hw'; go_simp; try (with_reducible rfl))
                simp only [Act.put, List.setIfInBounds_toArray, List.set_cons_zero, List.set_cons_succ]
                refine Ph.take1 (i := 3) (d := some 62) rfl rfl (by kernel_rfl) (fun _ _ _ h => h) rfl (v := ?v3) (fun w' hw' => ?y3) hS ?n3
                case y3 => (obtain ⟨q0, q1⟩ := hw'; go_simp; try (with_reducible rfl))
                simp only [Act.put, List.setIfInBounds_toArray, List.set_cons_zero, List.set_cons_succ]
                refine Ph.take1 (i := 4) (d := some 63) rfl rfl (by kernel_rfl) (fun _ _ _ h => h) rfl (v := ?v4) (fun w' hw' => ?y4) hS ?n4
                case y4 => (obtain ⟨q0, q1⟩ := hw'; go_simp; try (with_reducible rfl))
                simp only [Act.put, List.setIfInBounds_toArray, List.set_cons_zero, List.set_cons_succ]
                refine Ph.take1 (i := 5) (d := some 64) rfl rfl (by kernel_rfl) (fun _ _ _ h => h) rfl (v := ?v5) (fun w' hw' => ?y5) hS ?n5
                case y5 => (obtain ⟨q0, q1⟩ := hw'; go_simp; try (with_reducible rfl))
                simp only [Act.put, List.setIfInBounds_toArray, List.set_cons_zero, List.set_cons_succ]
                refine Ph.take1 (i := 6) (d := some 65) rfl rfl (by kernel_rfl) (fun _ _ _ h => h) rfl (v := ?v6) (fun w' hw' => ?y6) hS ?n6
                case y6 => (obtain ⟨q0, q1⟩ := hw'; go_simp; try (with_reducible rfl))
                simp only [Act.put, List.setIfInBounds_toArray, List.set_cons_zero, List.set_cons_succ]
                refine Ph.take1 (i := 7) (d := some 66) rfl rfl (by kernel_rfl) (fun _ _ _ h => h) rfl (v := ?v7) (fun w' hw' => ?y7) hS ?n7
                case y7 => (obtain ⟨q0, q1⟩ := hw'; go_simp; try (with_reducible rfl))
                simp only [Act.put, List.setIfInBounds_toArray, List.set_cons_zero, List.set_cons_succ]
                refine Ph.take1 (i := 8) (d := some 67) rfl rfl (by kernel_rfl) (fun _ _ _ h => h) rfl (v := ?v8) (fun w' hw' => ?y8) hS ?n8
                case y8 => (obtain ⟨q0, q1⟩ := hw'; go_simp; try (with_reducible rfl))
                simp only [Act.put, List.setIfInBounds_toArray, List.set_cons_zero, List.set_cons_succ]
                refine Ph.take1 (i := 9) (d := some 68) rfl rfl (by kernel_rfl) (fun _ _ _ h => h) rfl (v := ?v9) (fun w' hw' => ?y9) hS ?n9
                case y9 => (obtain ⟨q0, q1⟩ := hw'; go_simp; try (with_reducible rfl))
                simp only [Act.put, List.setIfInBounds_toArray, List.set_cons_zero, List.set_cons_succ]
                refine Ph.take1 (i := 10) (d := some 69) rfl rfl (by kernel_rfl) (fun _ _ _ h => h) rfl (v := ?v10) (fun w' hw' => ?y10) hS ?n10
                case y10 => (obtain ⟨q0, q1⟩ := hw'; go_simp; try (with_reducible rfl))
                simp only [Act.put, List.setIfInBounds_toArray, List.set_cons_zero, List.set_cons_succ]
                refine Ph.only (i := 11) rfl (by kernel_rfl) rfl (fun K hK => ?_)
                obtain ⟨q0, q1⟩ := hS
                go_simp
                have hst : Ch.stream key nonce c (p + k) = y := by
                  have hp64 := HP.out
                  have ed : (p + k) / 64 = m := by omega
                  have em : (p + k) % 64 = k := by omega
                  unfold Ch.stream
                  rw [ed, em, HBK.out, HYE.out]
                obtain ⟨hO1, hgr⟩ := hO.out.drew.stored (p + k) (.int .u8 (u (x ^^^ y)))
                have hO2 : Hid ((wr.drew.setCell ⟨g, p + k, none⟩ (.int .u8 (u (x ^^^ y)))).ownsRow (w.heap.size + 1 + 1) 5 1 (.slice (some ⟨g, 0, none⟩) n cp) n ((Ch.mix key nonce c l (p + (k + 1))).map cell8)) := by
                  show World.ownsRow _ _ _ _ _ _ _
                  have e2 := Ch.mix_next key nonce c l (p + k)
                  rw [hst, ← HXE.out] at e2
                  have e3 : p + (k + 1) = p + k + 1 := by omega
                  rw [e3, ← e2, List.map_set]
                  exact hO1
                have HX2 : Hid (Xl w key nonce (wr.drew.setCell ⟨g, p + k, none⟩ (.int .u8 (u (x ^^^ y))))) := Xl.aside (X := wr.drew) ⟨HX.out.ky, HX.out.no, HX.out.bl.drew, HX.out.sz⟩ (by omega) hgr
                have HT2 : Hid ((wr.drew.setCell ⟨g, p + k, none⟩ (.int .u8 (u (x ^^^ y)))).heap[sb]? = some (.cells (c8 bk) 36 (0, 0))) :=
                  (hgr.block sb hz3 (by simp; omega)).trans HT.out
                have hz4 : sb < (wr.drew.setCell ⟨g, p + k, none⟩ (.int .u8 (u (x ^^^ y)))).heap.size := Nat.lt_of_lt_of_le hz3 hgr.size
                refine hK _ _ (by unfold Ph.at_; split <;> trivial) ?_
                clear hK K q0 q1 hff hO HX HT hO1 hgr
                try simp only [List.setIfInBounds_toArray, List.set_cons_zero, List.set_cons_succ]
                refine Ph.done (by kernel_rfl) ?_ _
                go_wp2_with fail
                go_roundw
                case rel => exact ⟨k + 1, by omega, by go_num, hO2, HX2, HT2, hz4⟩
                case measure => simp [intOf]; omega
              · have hkL2 : k = L := by omega
                subst hkL2
                have hmx : Ch.mix key nonce c l (p + k) = Ch.mix key nonce c l (p + 64) := by
                  rcases HL3.out with h | h
                  · rw [h]
                  · rw [Ch.mix_all _ _ _ _ _ (by rw [HL.out]; omega), Ch.mix_all _ _ _ _ _ (by rw [HL.out]; omega)]
                have hO4 : Hid (wr.ownsRow (w.heap.size + 1 + 1) 5 1 (.slice (some ⟨g, 0, none⟩) n cp) n ((Ch.mix key nonce c l (p + 64)).map cell8)) := by
                  show World.ownsRow _ _ _ _ _ _ _
                  rw [← hmx]; exact hO.out
                clear hmx hO
                go_wp2_with fail
                go_roundw
                case rel => first | exact ⟨m + 1, p + 64, by have := HP.out; omega, by omega, by go_num, hO4, HX, by omega⟩ | ((repeat apply Exists.intro); exact ⟨⟨m + 1, p + 64, by have := HP.out; omega, by omega, by go_num, hO4, HX, by omega⟩, rfl⟩)
                case measure => simp [intOf]; omega
          · have e1 : n - p = L := by omega
            have h64' : (n : Int) < (p : Int) + 64 := by omega
            clear hL hL3
            go_wp2_with (refine wpList_store_whole rfl 36 (.tmp 13) (.tmp 46) rfl w2.heap.size 36 _ (c8 bk) rfl rfl (heap_alloc_new _ _) (by rw [info36, c8_size, hbl]) (by rw [c8_size, hbl]; rfl) (c8_all _) ?_; intro w3 hT gr)
            have hb3 := new_below hb2 (by omega) gr
            have hz3 : w2.heap.size < w3.heap.size := Blk_lt hT
            have HX3 : Hid (Xl w key nonce w3) := HX.out.over (by omega) hb3
            have hO3 : Hid (w3.ownsRow (w.heap.size + 1 + 1) 5 1 (.slice (some ⟨g, 0, none⟩) n cp) n ((Ch.mix key nonce c l (p + 0)).map cell8)) := hO.out.kept ⟨hb3.os, hb3.tape, hb3.output, hb3.size, fun i hi _ => hb3.block i hi⟩ (row := none) (.inr (by simp [Value.ownBlock]))
            obtain ⟨sb, hsb⟩ : ∃ sb, sb = w2.heap.size := ⟨_, rfl⟩
            have hgs : g < sb := by omega
            rw [← hsb] at hT hz3
            simp only [← hsb]
            have HT := Lib.hid hT
            clear gr hb3 hb2 hz2 hky hno hxz HX hO hsb hT
            go_loopw [56] (fun i wr => ∃ (k : Nat), k ≤ L ∧ i = .int .i64 k ∧ Hid (wr.ownsRow (w.heap.size + 1 + 1) 5 1 (.slice (some ⟨g, 0, none⟩) n cp) n ((Ch.mix key nonce c l (p + k)).map cell8)) ∧ Hid (Xl w key nonce wr) ∧ Hid (wr.heap[sb]? = some (.cells (c8 bk) 36 (0, 0))) ∧ sb < wr.heap.size) (fun i _ => L - (intOf i).toNat)
            case atStart => exact ⟨0, Nat.zero_le _, rfl, hO3, HX3, HT, hz3⟩
            case round =>
              obtain ⟨k, hkL, rfl, hO, HX, HT, hz3⟩ := hrel
              by_cases hkl : k < L
              · have hkl' : (k : Int) < (L : Int) := by omega
                have h64 : (k : Int) < 64 := by omega
                have hpk : (p : Int) + (k : Int) < (n : Int) := by omega
                have hpk0 : 0 ≤ (p : Int) + (k : Int) := by omega
                have hpk' : p + k < n := by omega
                have e5 : ((p : Int) + (k : Int)).toNat = p + k := by omega
                have hwr : IntKind.i64.wrap ((p : Int) + (k : Int)) = (p : Int) + (k : Int) := by rw [IntKind.wrap_i64]; omega
                obtain ⟨x, hx⟩ : ∃ x, x = l.getD (p + k) 0#8 := ⟨_, rfl⟩
                obtain ⟨y, hy⟩ : ∃ y, y = bk.getD k 0#8 := ⟨_, rfl⟩
                have HXE := Lib.hid hx
                have HYE := Lib.hid hy
                clear hx hy
                have hor := b_xor8 x y
                go_wp2_with fail
                have hS : CC g sb (p + k) k x y wr.drew := by
                  refine ⟨?_, by rw [HYE.out]; exact cell_c8 (HT.out : wr.drew.heap[sb]? = _) k (by omega)⟩
                  have := own_cell hO.out.drew (p + k) hpk'
                  rwa [Ch.mix_at, ← HXE.out] at this
                have hff := hO.out.drew.frozenAt (p + k)
                refine Ph.region 11 (CC g sb (p + k) k x y) (fun _ => True) (by kernel_rfl) ?_
                refine Ph.take1 (i := 0) (d := some 59) rfl rfl (by kernel_rfl) (fun _ _ _ h => h) rfl (v := ?vB0) (fun w' hw' => ?yB0) hS ?nB0
                case yB0 => (obtain ⟨q0, q1⟩ := hw'; go_simp; try (with_reducible rfl))
                simp only [Act.put, List.setIfInBounds_toArray, List.set_cons_zero, List.set_cons_succ]
                refine Ph.take1 (i := 1) (d := some 60) rfl rfl (by kernel_rfl) (fun _ _ _ h => h) rfl (v := ?vB1) (fun w' hw' => ?yB1) hS ?nB1
                case yB1 => (obtain ⟨q0, q1⟩ := hw'; go_simp; try (with_reducible rfl))
                simp only [Act.put, List.setIfInBounds_toArray, List.set_cons_zero, List.set_cons_succ]
                refine Ph.take1 (i := 2) (d := some 61) rfl rfl (by kernel_rfl) (fun _ _ _ h => h) rfl (v := ?vB2) (fun w' hw' => ?yB2) hS ?nB2
                case yB2 => (obtain ⟨q0, q1⟩ := hw'; go_simp; try (with_reducible rfl))
                simp only [Act.put, List.setIfInBounds_toArray, List.set_cons_zero, List.set_cons_succ]
                refine Ph.take1 (i := 3) (d := some 62) rfl rfl (by kernel_rfl) (fun _ _ _ h => h) rfl (v := ?vB3) (fun w' hw' => ?yB3) hS ?nB3
                case yB3 => (obtain ⟨q0, q1⟩ := hw'; go_simp; try (with_reducible rfl))
                simp only [Act.put, List.setIfInBounds_toArray, List.set_cons_zero, List.set_cons_succ]
                refine Ph.take1 (i := 4) (d := some 63) rfl rfl (by kernel_rfl) (fun _ _ _ h => h) rfl (v := ?vB4) (fun w' hw' => ?yB4) hS ?nB4
                case yB4 => (obtain ⟨q0, q1⟩ := hw'; go_simp; try (with_reducible rfl))
                simp only [Act.put, List.setIfInBounds_toArray, List.set_cons_zero, List.set_cons_succ]
                refine Ph.take1 (i := 5) (d := some 64) rfl rfl (by kernel_rfl) (fun _ _ _ h => h) rfl (v := ?vB5) (fun w' hw' => ?yB5) hS ?nB5
                case yB5 => (obtain ⟨q0, q1⟩ := hw'; go_simp; try (with_reducible rfl))
                simp only [Act.put, List.setIfInBounds_toArray, List.set_cons_zero, List.set_cons_succ]
                refine Ph.take1 (i := 6) (d := some 65) rfl rfl (by kernel_rfl) (fun _ _ _ h => h) rfl (v := ?vB6) (fun w' hw' => ?yB6) hS ?nB6
                case yB6 => (obtain ⟨q0, q1⟩ := hw'; go_simp; try (with_reducible rfl))
                simp only [Act.put, List.setIfInBounds_toArray, List.set_cons_zero, List.set_cons_succ]
                refine Ph.take1 (i := 7) (d := some 66) rfl rfl (by kernel_rfl) (fun _ _ _ h => h) rfl (v := ?vB7) (fun w' hw' => ?yB7) hS ?nB7
                case yB7 => (obtain ⟨q0, q1⟩ := hw'; go_simp; try (with_reducible rfl))
                simp only [Act.put, List.setIfInBounds_toArray, List.set_cons_zero, List.set_cons_succ]
                refine Ph.take1 (i := 8) (d := some 67) rfl rfl (by kernel_rfl) (fun _ _ _ h => h) rfl (v := ?vB8) (fun w' hw' => ?yB8) hS ?nB8
                case yB8 => (obtain ⟨q0, q1⟩ := hw'; go_simp; try (with_reducible rfl))
                simp only [Act.put, List.setIfInBounds_toArray, List.set_cons_zero, List.set_cons_succ]
                refine Ph.take1 (i := 9) (d := some 68) rfl rfl (by kernel_rfl) (fun _ _ _ h => h) rfl (v := ?vB9) (fun w' hw' => ?yB9) hS ?nB9
                case yB9 => (obtain ⟨q0, q1⟩ := hw'; go_simp; try (with_reducible rfl))
                simp only [Act.put, List.setIfInBounds_toArray, List.set_cons_zero, List.set_cons_succ]
                refine Ph.take1 (i := 10) (d := some 69) rfl rfl (by kernel_rfl) (fun _ _ _ h => h) rfl (v := ?vB10) (fun w' hw' => ?yB10) hS ?nB10
                case yB10 => (obtain ⟨q0, q1⟩ := hw'; go_simp; try (with_reducible rfl))
                simp only [Act.put, List.setIfInBounds_toArray, List.set_cons_zero, List.set_cons_succ]
                refine Ph.only (i := 11) rfl (by kernel_rfl) rfl (fun K hK => ?_)
                obtain ⟨q0, q1⟩ := hS
                go_simp
                have hst : Ch.stream key nonce c (p + k) = y := by
                  have hp64 := HP.out
                  have ed : (p + k) / 64 = m := by omega
                  have em : (p + k) % 64 = k := by omega
                  unfold Ch.stream
                  rw [ed, em, HBK.out, HYE.out]
                obtain ⟨hO1, hgr⟩ := hO.out.drew.stored (p + k) (.int .u8 (u (x ^^^ y)))
                have hO2 : Hid ((wr.drew.setCell ⟨g, p + k, none⟩ (.int .u8 (u (x ^^^ y)))).ownsRow (w.heap.size + 1 + 1) 5 1 (.slice (some ⟨g, 0, none⟩) n cp) n ((Ch.mix key nonce c l (p + (k + 1))).map cell8)) := by
                  show World.ownsRow _ _ _ _ _ _ _
                  have e2 := Ch.mix_next key nonce c l (p + k)
                  rw [hst, ← HXE.out] at e2
                  have e3 : p + (k + 1) = p + k + 1 := by omega
                  rw [e3, ← e2, List.map_set]
                  exact hO1
                have HX2 : Hid (Xl w key nonce (wr.drew.setCell ⟨g, p + k, none⟩ (.int .u8 (u (x ^^^ y))))) := Xl.aside (X := wr.drew) ⟨HX.out.ky, HX.out.no, HX.out.bl.drew, HX.out.sz⟩ (by omega) hgr
                have HT2 : Hid ((wr.drew.setCell ⟨g, p + k, none⟩ (.int .u8 (u (x ^^^ y)))).heap[sb]? = some (.cells (c8 bk) 36 (0, 0))) :=
                  (hgr.block sb hz3 (by simp; omega)).trans HT.out
                have hz4 : sb < (wr.drew.setCell ⟨g, p + k, none⟩ (.int .u8 (u (x ^^^ y)))).heap.size := Nat.lt_of_lt_of_le hz3 hgr.size
                refine hK _ _ (by unfold Ph.at_; split <;> trivial) ?_
                clear hK K q0 q1 hff hO HX HT hO1 hgr
                try simp only [List.setIfInBounds_toArray, List.set_cons_zero, List.set_cons_succ]
                refine Ph.done (by kernel_rfl) ?_ _
                go_wp2_with fail
                go_roundw
                case rel => exact ⟨k + 1, by omega, by go_num, hO2, HX2, HT2, hz4⟩
                case measure => simp [intOf]; omega
              · have hkL2 : k = L := by omega
                subst hkL2
                have hmx : Ch.mix key nonce c l (p + k) = Ch.mix key nonce c l (p + 64) := by
                  rcases HL3.out with h | h
                  · rw [h]
                  · rw [Ch.mix_all _ _ _ _ _ (by rw [HL.out]; omega), Ch.mix_all _ _ _ _ _ (by rw [HL.out]; omega)]
                have hO4 : Hid (wr.ownsRow (w.heap.size + 1 + 1) 5 1 (.slice (some ⟨g, 0, none⟩) n cp) n ((Ch.mix key nonce c l (p + 64)).map cell8)) := by
                  show World.ownsRow _ _ _ _ _ _ _
                  rw [← hmx]; exact hO.out
                clear hmx hO
                go_wp2_with fail
                go_roundw
                case rel => first | exact ⟨m + 1, p + 64, by have := HP.out; omega, by omega, by go_num, hO4, HX, by omega⟩ | ((repeat apply Exists.intro); exact ⟨⟨m + 1, p + 64, by have := HP.out; omega, by omega, by go_num, hO4, HX, by omega⟩, rfl⟩)
                case measure => simp [intOf]; omega
        · have hge : n ≤ p := by omega
          have hge' : ¬ (p : Int) < (n : Int) := by omega
          have hO2 := hO.out
          rw [Ch.mix_all _ _ _ _ _ (by rw [HL.out]; exact hge)] at hO2
          go_wp2_with fail
          refine bodyPost_ret (results_tmp2 rfl _ _ _) rfl ?_
          exact ⟨HX.out.bl, .inl ⟨HTR.out, _, rfl, own_base hO2 (by omega)⟩⟩
end Go.Proofs.Ytdkimnigckpncaa
