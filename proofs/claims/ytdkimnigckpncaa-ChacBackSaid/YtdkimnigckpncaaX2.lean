/-
  The walk of the sealing of a row: the document's.
-/
import Derived.Test.YtdkimnigckpncaaX
namespace Go.Proofs.Ytdkimnigckpncaa
open Go.RowKit
attribute [local go_sem] w_add

set_option maxRecDepth 100000 in
set_option maxHeartbeats 4000000 in
theorem rxor_any (key nonce : List (BitVec 8)) (hk : key.length = 32) (hn : nonce.length = 12) (c : BitVec 32) (A : Option Addr) (n cap : Nat) (hA : A = none → n = 0 ∧ cap = 0) (l : List (BitVec 8)) (hl : l.length = n) (hm : n ≤ 1100) (w : World) (hr : Rd w A l) :
    Calls Try.prog 28 #[.agg (c8 key), .agg (c8 nonce), .int .u32 (u c), .slice A n cap] w fun e w' => Below w.heap.size w w' ∧
      ((Ch.room c n = true ∧ ∃ v, e = .returned (.tuple #[v, .bool true]) ∧ w'.ownsRow w.heap.size 5 1 v n ((Ch.xor key nonce c l).map cell8)) ∨
       (Ch.room c n = false ∧ e = .returned (.tuple #[.slice none 0 0, .bool false]))) := by
  obtain ⟨i0, hi, hz0, hz1, hz2⟩ := info_parts Try.info5
  obtain ⟨q, hq⟩ : ∃ q, q = (n + 63) / 64 := ⟨_, rfl⟩
  have hqi : ((n : Int) + 63) / 64 = (q : Int) := by omega
  have hc := c.isLt
  have hcu : u c = (c.toNat : Int) := rfl
  have hw1 : IntKind.i64.wrap (u c) = u c := by rw [IntKind.wrap_i64, hcu]; omega
  have hw2 : IntKind.i64.wrap (4294967296 - u c) = 4294967296 - u c := by rw [IntKind.wrap_i64, hcu]; omega
  have HK := Lib.hid hk; have HN := Lib.hid hn; have HL := Lib.hid hl
  clear hk hn hl
  have hroom : Ch.room c n = decide (c.toNat + q ≤ 4294967296) := by rw [hq]; rfl
  have HR := Lib.hid hroom
  have HQ := Lib.hid hq
  clear hroom hq
  by_cases hbig : 4294967296 - u c < (q : Int)
  · have HTF : Hid (Ch.room c n = false) := by show _ = _; rw [HR.out]; simp; omega
    clear hcu hc
    go_enter Try.func28, Try.ntmps28
    go_wp2
    refine bodyPost_ret (results_tmp2 rfl _ _ _) rfl ?_
    exact ⟨((Below.refl _ _).alloc (Nat.le_refl _) _).alloc (by simp) _, .inr ⟨HTF.out, rfl⟩⟩
  · have HTR : Hid (Ch.room c n = true) := by show _ = _; rw [HR.out]; simp; omega
    clear hcu hc
    cases A with
    | none =>
      obtain ⟨rfl, rfl⟩ := hA rfl
      obtain rfl : l = [] := List.eq_nil_of_length_eq_zero HL.out
      have HB0 : Hid (Below w.heap.size w (((w.alloc (.cells (c8 key) 31)).alloc (.cells (c8 nonce) 35)).alloc (.cells #[] 5))) := (((Below.refl _ _).alloc (Nat.le_refl _) _).alloc (by simp) _).alloc (by simp; omega) _
      have HO0 : Hid ((((w.alloc (.cells (c8 key) 31)).alloc (.cells (c8 nonce) 35)).alloc (.cells #[] 5)).ownsRow w.heap.size 5 1 (.slice (some ⟨w.heap.size + 1 + 1, 0, none⟩) 0 0) 0 []) := by
        have := World.ownsRow_lit (e := 5) (size := 1) (base := w.heap.size) ((w.alloc (.cells (c8 key) 31)).alloc (.cells (c8 nonce) 35)) #[] 0 (by simp; omega) (by decide) rfl
        show World.ownsRow _ _ _ _ _ _ _
        simpa using this
      go_enter Try.func28, Try.ntmps28
      go_wp2_with (at_builtin; refine wpList_append_own_none rfl (.tmp 22) (.tmp 23) 32 rfl w.heap.size 5 i0 1 Try.underlying32 hi _ _ _ rfl HO0.out rfl ?_)
      go_loopw [11] (fun i wr => i = .int .i64 0 ∧ Hid (Below w.heap.size w wr) ∧ Hid (wr.ownsRow w.heap.size 5 1 (.slice (some ⟨w.heap.size + 1 + 1, 0, none⟩) 0 0) 0 [])) (fun _ _ => 0)
      case atStart => exact ⟨rfl, HB0.out, HO0.out⟩
      case round =>
        obtain ⟨rfl, HB, HO⟩ := hrel
        go_wp2_with fail
        refine bodyPost_ret (results_tmp2 rfl _ _ _) rfl ?_
        exact ⟨HB.out, .inl ⟨HTR.out, _, rfl, HO.out⟩⟩
    | some ad =>
      have HRD := Lib.hid hr
      have hcr : (0 : Int) ≤ (n : Int) := by omega
      clear hr hA
      have HO0 : Hid ((((w.alloc (.cells (c8 key) 31)).alloc (.cells (c8 nonce) 35)).alloc (.cells #[] 5)).ownsRow (w.heap.size + 1 + 1) 5 1 (.slice (some ⟨w.heap.size + 1 + 1, 0, none⟩) 0 0) 0 []) := by
        have := World.ownsRow_lit (e := 5) (size := 1) (base := w.heap.size + 1 + 1) ((w.alloc (.cells (c8 key) 31)).alloc (.cells (c8 nonce) 35)) #[] 0 (by simp) (by decide) rfl
        show World.ownsRow _ _ _ _ _ _ _
        simpa using this
      go_enter Try.func28, Try.ntmps28
      go_wp2_with (at_builtin; refine wpList_append_own _ rfl (.tmp 22) (.tmp 23) 32 rfl (w.heap.size + 1 + 1) 5 i0 (.int .u8 0) 1 1 Try.underlying32 hi hz0 hz1 hz2 rfl (by decide) _ _ _ rfl HO0.out ad n cap (l.map cell8) rfl (by simp [HL.out]) ?c2 (cell8_one _) ?c3 ?c4 ?c5 ?_)
      case c2 =>
        intro j v hj
        have hj2 : j < l.length := by
          rcases Nat.lt_or_ge j l.length with h | h
          · exact h
          · simp [List.getElem?_eq_none h] at hj
        obtain ⟨_, e, hc⟩ := (HRD.out.later ((((Below.refl _ _).alloc (Nat.le_refl _) (.cells (c8 key) 31)).alloc (by simp) (.cells (c8 nonce) 35)).alloc (by simp; omega) (.cells #[] 5))) j hj2
        obtain rfl : ad = _ := Option.some.inj e
        simp [hj2] at hj
        rw [hc, ← hj]
        simp [cell8, hj2]
      case c3 => unfold maxLen; omega
      case c4 => omega
      intro v w1 hown hgr hnil
      obtain ⟨g, cp, cur, rfl, hg, hgh, hcp, hcm, hcs, htk⟩ : ∃ g cap cur, v = .slice (some ⟨g, 0, none⟩) n cap ∧ w.heap.size + 1 + 1 ≤ g ∧ w1.heap[g]? = some (.cells cur 5 (0, 0)) ∧ n ≤ cap ∧ cap ≤ maxLen ∧ cur.size = cap * 1 ∧ cur.toList.take (n * 1) = l.map cell8 := by
        rcases hown.2 with ⟨h0, _⟩ | h
        · simp [h0] at hnil
        · simpa using h
      have hX0 : Xl w key nonce (((w.alloc (.cells (c8 key) 31)).alloc (.cells (c8 nonce) 35)).alloc (.cells #[] 5)) := (Xl.new w key nonce).over (B := w.heap.size + 1 + 1) (by omega) ((Below.refl _ _).alloc (by simp) _)
      have HX : Hid (Xl w key nonce w1) := hX0.over (B := w.heap.size + 1 + 1) (by omega) ⟨hgr.os, hgr.tape, hgr.output, by simpa using hgr.size, fun k hk => hgr.block k (by simp at hk ⊢; omega) (by simp [Value.ownBlock]; omega)⟩
      have hgz : g < w1.heap.size := Blk_lt hgh
      have hO : Hid (w1.ownsRow (w.heap.size + 1 + 1) 5 1 (.slice (some ⟨g, 0, none⟩) n cp) n ((Ch.mix key nonce c l 0).map cell8)) := by
        show World.ownsRow _ _ _ _ _ _ _
        rw [Ch.mix_zero]; simpa using hown
      clear hown hgr hnil hgh hcs htk hX0 HO0
      have hcp' : (n : Int) ≤ (cp : Int) := by omega
      clear hbig hw1 hw2 hqi hcr
      go_wp2_with fail
      go_loopw [11] (fun i wr => ∃ (m p : Nat), p = 64 * m ∧ p ≤ n + 63 ∧ i = .int .i64 p ∧ Hid (wr.ownsRow (w.heap.size + 1 + 1) 5 1 (.slice (some ⟨g, 0, none⟩) n cp) n ((Ch.mix key nonce c l p).map cell8)) ∧ Hid (Xl w key nonce wr) ∧ g < wr.heap.size) (fun i _ => n + 64 - (intOf i).toNat)
      case atStart => exact ⟨0, 0, rfl, by omega, rfl, hO, HX, hgz⟩
      case round =>
        obtain ⟨m, p, hp, hpn, rfl, hO, HX, hgz⟩ := hrel
        by_cases hlt : p < n
        · have hlt' : (p : Int) < (n : Int) := by omega
          have hd : (p : Int) / 64 = (m : Int) := by omega
          have hun := u_ofNat m
          have hky := HX.out.ky
          have hno := HX.out.no
          have hxz := HX.out.sz
          have HP := Lib.hid hp
          clear hp
          go_wp2_with (first | (refine wpList_load_row rfl 31 (.tmp 4) rfl w.heap.size rfl 31 (c8 key) (0, 0) _ hky Try.underlying31 rfl (by rw [info31, c8_size, HK.out]) ?_) | (refine wpList_load_row rfl 35 (.tmp 5) rfl (w.heap.size + 1) rfl 35 (c8 nonce) (0, 0) _ hno Try.underlying35 rfl (by rw [info35, c8_size, HN.out]) ?_))
          refine (rblock_any key nonce HK.out HN.out _ _).mono ?_
          rintro e w2 ⟨rfl, hb2⟩
          have hbl := Ch.block_length key nonce (c + BitVec.ofNat 32 m)
          have hz2 := hb2.size
          generalize hbk : Ch.block key nonce (c + BitVec.ofNat 32 m) = bk at *
          have HBK := Lib.hid hbk
          clear hbk hun hd
          obtain ⟨L, hL⟩ : ∃ L, L = min 64 (n - p) := ⟨_, rfl⟩
          have hL1 : L ≤ 64 := by omega
          have hL2 : p + L ≤ n := by omega
          have hL3 : L = 64 ∨ p + L = n := by omega
          have HL3 := Lib.hid hL3
          clear hL hL3
          go_wp2_with (refine wpList_store_whole rfl 36 (.tmp 12) (.tmp 38) rfl w2.heap.size 36 _ (c8 bk) rfl rfl (heap_alloc_new _ _) (by rw [info36, c8_size, hbl]) (by rw [c8_size, hbl]; rfl) (c8_all _) ?_; intro w3 hT gr)
          have hb3 := new_below hb2 (by omega) gr
          have hz3 : w2.heap.size < w3.heap.size := Blk_lt hT
          have HX3 : Hid (Xl w key nonce w3) := HX.out.over (by omega) hb3
          have hO3 : Hid (w3.ownsRow (w.heap.size + 1 + 1) 5 1 (.slice (some ⟨g, 0, none⟩) n cp) n ((Ch.mix key nonce c l (p + 0)).map cell8)) := hO.out.kept ⟨hb3.os, hb3.tape, hb3.output, hb3.size, fun i hi _ => hb3.block i hi⟩ (row := none) (.inr (by simp [Value.ownBlock]))
          obtain ⟨sb, hsb⟩ : ∃ sb, sb = w2.heap.size := ⟨_, rfl⟩
          have hgs : g < sb := by omega
          rw [← hsb] at hT hz3
          simp only [← hsb]
          have HT := Lib.hid hT
          clear gr hb3 hb2 hz2 hky hno hxz HX hO hsb hT
          go_loopw [13] (fun i wr => ∃ (k : Nat), k ≤ L ∧ i = .int .i64 k ∧ Hid (wr.ownsRow (w.heap.size + 1 + 1) 5 1 (.slice (some ⟨g, 0, none⟩) n cp) n ((Ch.mix key nonce c l (p + k)).map cell8)) ∧ Hid (Xl w key nonce wr) ∧ Hid (wr.heap[sb]? = some (.cells (c8 bk) 36 (0, 0))) ∧ sb < wr.heap.size) (fun i _ => L - (intOf i).toNat)
          case atStart => exact ⟨0, Nat.zero_le _, rfl, hO3, HX3, HT, hz3⟩
          case round =>
            obtain ⟨k, hkL, rfl, hO, HX, HT, hz3⟩ := hrel
            by_cases hkl : k < L
            · have hkl' : (k : Int) < (L : Int) := by omega
              have h64 : (k : Int) < 64 := by omega
              have hpk : (p : Int) + (k : Int) < (n : Int) := by omega
              have hpk0 : 0 ≤ (p : Int) + (k : Int) := by omega
              have hpk' : p + k < n := by omega
              have e5 : ((p : Int) + (k : Int)).toNat = p + k := by omega
              have hwr : IntKind.i64.wrap ((p : Int) + (k : Int)) = (p : Int) + (k : Int) := by rw [IntKind.wrap_i64]; omega
              obtain ⟨x, hx⟩ : ∃ x, x = l.getD (p + k) 0#8 := ⟨_, rfl⟩
              obtain ⟨y, hy⟩ : ∃ y, y = bk.getD k 0#8 := ⟨_, rfl⟩
              have HXE := Lib.hid hx
              have HYE := Lib.hid hy
              clear hx hy
              have hor := b_xor8 x y
              go_wp2_with fail
              have hS : CC g sb (p + k) k x y wr.drew := by
                refine ⟨?_, by rw [HYE.out]; exact cell_c8 (HT.out : wr.drew.heap[sb]? = _) k (by omega)⟩
                have := own_cell hO.out.drew (p + k) hpk'
                rwa [Ch.mix_at, ← HXE.out] at this
              have hff := hO.out.drew.frozenAt (p + k)
              refine Ph.region 15 (CC g sb (p + k) k x y) (fun _ => True) (by kernel_rfl) ?_
              refine Ph.take1 (i := 0) (d := some 51) rfl rfl (by kernel_rfl) (fun _ _ _ h => h) rfl (v := ?v0) (fun w' hw' => ?y0) hS ?n0
              case y0 => (obtain ⟨q0, q1⟩ := hw'; go_simp; try (with_reducible rfl))
              simp only [Act.put, List.setIfInBounds_toArray, List.set_cons_zero, List.set_cons_succ]
              refine Ph.take1 (i := 1) (d := some 52) rfl rfl (by kernel_rfl) (fun _ _ _ h => h) rfl (v := ?v1) (fun w' hw' => ?y1) hS ?n1
              case y1 => (obtain ⟨q0, q1⟩ := hw'; go_simp; try (with_reducible rfl))
              simp only [Act.put, List.setIfInBounds_toArray, List.set_cons_zero, List.set_cons_succ]
              refine Ph.take1 (i := 2) (d := some 53) rfl rfl (by kernel_rfl) (fun _ _ _ h => h) rfl (v := ?v2) (fun w' hw' => ?y2) hS ?n2
              case y2 => (obtain ⟨q0, q1⟩ := hw'; go_simp; try (with_reducible rfl))
              simp only [Act.put, List.setIfInBounds_toArray, List.set_cons_zero, List.set_cons_succ]
              refine Ph.take1 (i := 3) (d := some 54) rfl rfl (by kernel_rfl) (fun _ _ _ h => h) rfl (v := ?v3) (fun w' hw' => ?y3) hS ?n3
              case y3 => (obtain ⟨q0, q1⟩ := hw'; go_simp; try (with_reducible rfl))
              simp only [Act.put, List.setIfInBounds_toArray, List.set_cons_zero, List.set_cons_succ]
              refine Ph.take1 (i := 4) (d := some 55) rfl rfl (by kernel_rfl) (fun _ _ _ h => h) rfl (v := ?v4) (fun w' hw' => ?y4) hS ?n4
              case y4 => (obtain ⟨q0, q1⟩ := hw'; go_simp; try (with_reducible rfl))
              simp only [Act.put, List.setIfInBounds_toArray, List.set_cons_zero, List.set_cons_succ]
              refine Ph.take1 (i := 5) (d := some 56) rfl rfl (by kernel_rfl) (fun _ _ _ h => h) rfl (v := ?v5) (fun w' hw' => ?y5) hS ?n5
              case y5 => (obtain ⟨q0, q1⟩ := hw'; go_simp; try (with_reducible rfl))
              simp only [Act.put, List.setIfInBounds_toArray, List.set_cons_zero, List.set_cons_succ]
              refine Ph.take1 (i := 6) (d := some 57) rfl rfl (by kernel_rfl) (fun _ _ _ h => h) rfl (v := ?v6) (fun w' hw' => ?y6) hS ?n6
              case y6 => (obtain ⟨q0, q1⟩ := hw'; go_simp; try (with_reducible rfl))
              simp only [Act.put, List.setIfInBounds_toArray, List.set_cons_zero, List.set_cons_succ]
              refine Ph.take1 (i := 7) (d := some 58) rfl rfl (by kernel_rfl) (fun _ _ _ h => h) rfl (v := ?v7) (fun w' hw' => ?y7) hS ?n7
              case y7 => (obtain ⟨q0, q1⟩ := hw'; go_simp; try (with_reducible rfl))
              simp only [Act.put, List.setIfInBounds_toArray, List.set_cons_zero, List.set_cons_succ]
              refine Ph.take1 (i := 8) (d := some 59) rfl rfl (by kernel_rfl) (fun _ _ _ h => h) rfl (v := ?v8) (fun w' hw' => ?y8) hS ?n8
              case y8 => (obtain ⟨q0, q1⟩ := hw'; go_simp; try (with_reducible rfl))
              simp only [Act.put, List.setIfInBounds_toArray, List.set_cons_zero, List.set_cons_succ]
              refine Ph.take1 (i := 9) (d := some 60) rfl rfl (by kernel_rfl) (fun _ _ _ h => h) rfl (v := ?v9) (fun w' hw' => ?y9) hS ?n9
              case y9 => (obtain ⟨q0, q1⟩ := hw'; go_simp; try (with_reducible rfl))
              simp only [Act.put, List.setIfInBounds_toArray, List.set_cons_zero, List.set_cons_succ]
              refine Ph.take1 (i := 10) (d := some 61) rfl rfl (by kernel_rfl) (fun _ _ _ h => h) rfl (v := ?v10) (fun w' hw' => ?y10) hS ?n10
              case y10 => (obtain ⟨q0, q1⟩ := hw'; go_simp; try (with_reducible rfl))
              simp only [Act.put, List.setIfInBounds_toArray, List.set_cons_zero, List.set_cons_succ]
              refine Ph.take1 (i := 11) (d := some 62) rfl rfl (by kernel_rfl) (fun _ _ _ h => h) rfl (v := ?v11) (fun w' hw' => ?y11) hS ?n11
              case y11 => (obtain ⟨q0, q1⟩ := hw'; go_simp; try (with_reducible rfl))
              simp only [Act.put, List.setIfInBounds_toArray, List.set_cons_zero, List.set_cons_succ]
              refine Ph.take1 (i := 12) (d := some 63) rfl rfl (by kernel_rfl) (fun _ _ _ h => h) rfl (v := ?v12) (fun w' hw' => ?y12) hS ?n12
              case y12 => (obtain ⟨q0, q1⟩ := hw'; go_simp; try (with_reducible rfl))
              simp only [Act.put, List.setIfInBounds_toArray, List.set_cons_zero, List.set_cons_succ]
              refine Ph.take1 (i := 13) (d := some 64) rfl rfl (by kernel_rfl) (fun _ _ _ h => h) rfl (v := ?v13) (fun w' hw' => ?y13) hS ?n13
              case y13 => (obtain ⟨q0, q1⟩ := hw'; go_simp; try (with_reducible rfl))
              simp only [Act.put, List.setIfInBounds_toArray, List.set_cons_zero, List.set_cons_succ]
              refine Ph.take1 (i := 14) (d := some 65) rfl rfl (by kernel_rfl) (fun _ _ _ h => h) rfl (v := ?v14) (fun w' hw' => ?y14) hS ?n14
              case y14 => (obtain ⟨q0, q1⟩ := hw'; go_simp; try (with_reducible rfl))
              simp only [Act.put, List.setIfInBounds_toArray, List.set_cons_zero, List.set_cons_succ]
              refine Ph.only (i := 15) rfl (by kernel_rfl) rfl (fun K hK => ?_)
              obtain ⟨q0, q1⟩ := hS
              go_simp
              have hst : Ch.stream key nonce c (p + k) = y := by
                have hp64 := HP.out
                have ed : (p + k) / 64 = m := by omega
                have em : (p + k) % 64 = k := by omega
                unfold Ch.stream
                rw [ed, em, HBK.out, HYE.out]
              obtain ⟨hO1, hgr⟩ := hO.out.drew.stored (p + k) (.int .u8 (u (x ^^^ y)))
              have hO2 : Hid ((wr.drew.setCell ⟨g, p + k, none⟩ (.int .u8 (u (x ^^^ y)))).ownsRow (w.heap.size + 1 + 1) 5 1 (.slice (some ⟨g, 0, none⟩) n cp) n ((Ch.mix key nonce c l (p + (k + 1))).map cell8)) := by
                show World.ownsRow _ _ _ _ _ _ _
                have e2 := Ch.mix_next key nonce c l (p + k)
                rw [hst, ← HXE.out] at e2
                have e3 : p + (k + 1) = p + k + 1 := by omega
                rw [e3, ← e2, List.map_set]
                exact hO1
              have HX2 : Hid (Xl w key nonce (wr.drew.setCell ⟨g, p + k, none⟩ (.int .u8 (u (x ^^^ y))))) := Xl.aside (X := wr.drew) ⟨HX.out.ky, HX.out.no, HX.out.bl.drew, HX.out.sz⟩ (by omega) hgr
              have HT2 : Hid ((wr.drew.setCell ⟨g, p + k, none⟩ (.int .u8 (u (x ^^^ y)))).heap[sb]? = some (.cells (c8 bk) 36 (0, 0))) :=
                (hgr.block sb hz3 (by simp; omega)).trans HT.out
              have hz4 : sb < (wr.drew.setCell ⟨g, p + k, none⟩ (.int .u8 (u (x ^^^ y)))).heap.size := Nat.lt_of_lt_of_le hz3 hgr.size
              refine hK _ _ (by unfold Ph.at_; split <;> trivial) ?_
              clear hK K q0 q1 hff hO HX HT hO1 hgr
              try simp only [List.setIfInBounds_toArray, List.set_cons_zero, List.set_cons_succ]
              refine Ph.done (by kernel_rfl) ?_ _
              go_wp2_with fail
              go_roundw
              case rel => exact ⟨k + 1, by omega, by go_num, hO2, HX2, HT2, hz4⟩
              case measure => simp [intOf]; omega
            · have hkL2 : k = L := by omega
              subst hkL2
              have hmx : Ch.mix key nonce c l (p + k) = Ch.mix key nonce c l (p + 64) := by
                rcases HL3.out with h | h
                · rw [h]
                · rw [Ch.mix_all _ _ _ _ _ (by rw [HL.out]; omega), Ch.mix_all _ _ _ _ _ (by rw [HL.out]; omega)]
              have hO4 : Hid (wr.ownsRow (w.heap.size + 1 + 1) 5 1 (.slice (some ⟨g, 0, none⟩) n cp) n ((Ch.mix key nonce c l (p + 64)).map cell8)) := by
                show World.ownsRow _ _ _ _ _ _ _
                rw [← hmx]; exact hO.out
              clear hmx hO
              by_cases hk64 : k = 64
              · subst hk64
                go_wp2_with fail
                go_roundw
                case rel => first | exact ⟨m + 1, p + 64, by have := HP.out; omega, by omega, by go_num, hO4, HX, by omega⟩ | ((repeat apply Exists.intro); exact ⟨⟨m + 1, p + 64, by have := HP.out; omega, by omega, by go_num, hO4, HX, by omega⟩, rfl⟩)
                case measure => simp [intOf]; omega
              · have hk1 : (k : Int) < 64 := by omega
                have hk2 : ¬ (p : Int) + (k : Int) < (n : Int) := by have := HL3.out; omega
                go_wp2_with fail
                go_roundw
                case rel => first | exact ⟨m + 1, p + 64, by have := HP.out; omega, by omega, by go_num, hO4, HX, by omega⟩ | ((repeat apply Exists.intro); exact ⟨⟨m + 1, p + 64, by have := HP.out; omega, by omega, by go_num, hO4, HX, by omega⟩, rfl⟩)
                case measure => simp [intOf]; omega
        · have hge : n ≤ p := by omega
          have hge' : ¬ (p : Int) < (n : Int) := by omega
          have hO2 := hO.out
          rw [Ch.mix_all _ _ _ _ _ (by rw [HL.out]; exact hge)] at hO2
          go_wp2_with fail
          refine bodyPost_ret (results_tmp2 rfl _ _ _) rfl ?_
          exact ⟨HX.out.bl, .inl ⟨HTR.out, _, rfl, own_base hO2 (by omega)⟩⟩
end Go.Proofs.Ytdkimnigckpncaa
