/-
  The walk of the law DrawTells.
-/
import Derived.Test.YtdkimnigckpncaaD8
import Derived.Test.YtdkimnigckpncaaL17
namespace Go.Proofs.Ytdkimnigckpncaa
open Go.RowKit
theorem b_and64 (x y : BitVec 64) : bits .and .u64 (u x) (u y) = u (x &&& y) := by
  show IntKind.u64.wrap ((BitVec.ofInt 64 (x.toNat : Int) &&& BitVec.ofInt 64 (y.toNat : Int)).toNat : Int) = _
  rw [ofI, ofI, wrap_self]
  rfl
theorem Ky.grown {b : Nat} {key : List (BitVec 8)} {w w' : World} {r : Option Nat} (h : Ky b key w) (g : w.grownBy w' r) (hr : r ≠ some b) : Ky b key w' :=
  (g.block b (Array.getElem?_eq_some_iff.1 h).1 (fun e => hr e.symm)).trans h
theorem u_inj64 {x y : BitVec 64} (h : u x = u y) : x = y := by
  apply BitVec.eq_of_toNat_eq
  unfold u at h
  omega

/-- What is known of the world in a round: the key's block, the tape, the stream; what was there before the call. -/
structure Rn (w : World) (kb T B : Nat) (key : List (BitVec 8)) (l : List (BitVec 32)) (av bv : BitVec 64) (X : World) : Prop where
  ky : Ky kb key X
  tp : Tp X T l av
  sc : Sc X B (.slice none 0 0) true key bv
  bl : Below w.heap.size w X
section
variable {w X Y : World} {kb T B : Nat} {key : List (BitVec 8)} {l : List (BitVec 32)} {av bv : BitVec 64} (h : Rn w kb T B key l av bv X)
include h
theorem Rn.older (hb : Below X.heap.size X Y) : Rn w kb T B key l av bv Y :=
  ⟨h.ky.later hb, h.tp.later (grown_of hb none) (fun _ e => by cases e), h.sc.old hb, h.bl.trans (hb.mono h.bl.size)⟩
theorem Rn.drew : Rn w kb T B key l av bv X.drew := h.older (Below.refl _ _).drew
theorem Rn.tape (hk : kb < T) (hT : T < B) (hw : w.heap.size ≤ kb) {av' : BitVec 64} (g : X.grownBy Y (some T)) (ht : Tp Y T l av') : Rn w kb T B key l av' bv Y :=
  ⟨h.ky.grown g (fun e => by have := Option.some.inj e; omega), ht, h.sc.later g (fun e => by have := Option.some.inj e; omega), h.bl.grown g h.bl.size (fun k' hk' => by cases hk'; omega)⟩
theorem Rn.stream (hk : kb < T) (hT : T < B) (hw : w.heap.size ≤ kb) {bv' : BitVec 64} (g : X.grownBy Y (some B)) (hs : Sc Y B (.slice none 0 0) true key bv') : Rn w kb T B key l av bv' Y :=
  ⟨h.ky.grown g (fun e => by have := Option.some.inj e; omega), h.tp.later g (fun k e => by have := Option.some.inj e; omega), hs, h.bl.grown g h.bl.size (fun k' hk' => by cases hk'; omega)⟩
end

set_option maxRecDepth 100000 in
set_option maxHeartbeats 8000000 in
theorem dtells_any (A : Option Addr) (n cap : Nat) (l : List (BitVec 32)) (key : List (BitVec 8)) (hk : key.length = 32) (nx : BitVec 64) (A3 : Option Addr) (n3 cap3 : Nat) (l3 : List Int) (A4 : Option Addr) (n4 cap4 : Nat) (l4 : List (BitVec 64))
    (w : World) (h0 : IsW w A n cap l) (h3 : IsI w A3 n3 cap3 l3) (h4 : IsU w A4 n4 cap4 l4) :
    Calls Try.prog 16 #[.slice A n cap, .agg (c8 key), .int .u64 (u nx), .slice A3 n3 cap3, .slice A4 n4 cap4] w fun e w' => e = .returned (.bool true) ∧ Below w.heap.size w w' := by
  have HK := Lib.hid hk
  have HI0 := Lib.hid h0
  have HI3 := Lib.hid h3
  have HI4 := Lib.hid h4
  have hn3 : n3 ≤ 9223372036854775807 := by have := h3.cp; have := h3.mx; unfold maxLen at this; omega
  have hn4 : n4 ≤ 9223372036854775807 := by have := h4.cp; have := h4.mx; unfold maxLen at this; omega
  clear hk h0 h3 h4
  by_cases h2 : 100 < n
  · have h2' : (100 : Int) < (n : Int) := by omega
    go_enter Try.func16, Try.ntmps16
    go_wp2_with fail
    refine (awake4_any _).mono ?_
    rintro e w1 ⟨rfl, hb1⟩
    have HB1 := Lib.hid (((Below.refl w.heap.size w).alloc (Nat.le_refl _) (.cells (c8 key) 31)).trans (hb1.mono (by simp)))
    clear hb1
    go_wp2_with fail
    go_ret
    exact ⟨rfl, HB1.out⟩
  · have h2' : ¬ (100 : Int) < (n : Int) := by omega
    have hn100 : n ≤ 100 := by omega
    clear h2
    go_enter Try.func16, Try.ntmps16
    go_wp2_with fail
    have HKy : Hid (Ky w.heap.size key (w.alloc (.cells (c8 key) 31))) := heap_alloc_new w _
    have HB := Lib.hid ((Below.refl w.heap.size w).alloc (Nat.le_refl _) (.cells (c8 key) 31))
    have hzw : w.heap.size < (w.alloc (.cells (c8 key) 31)).heap.size := by simp
    obtain ⟨kb, hkb⟩ : ∃ kb, kb = w.heap.size := ⟨_, rfl⟩
    rw [← hkb] at HKy hzw
    simp only [← hkb]
    have hkw : w.heap.size ≤ kb := by omega
    clear hkb
    generalize w.alloc (.cells (c8 key) 31) = wa at *
    have hS : Ky kb key wa.drew := HKy.out
    refine Ph.region 99 (Ky kb key) (Ky kb key) (by kernel_rfl) ?_
    refine Ph.take2 (i := 0) (d := some 21) rfl rfl (by kernel_rfl) (fun _ h => h) (fun _ _ _ h => h) rfl (v := ?vA0) (fun w' hw' => ?yA0) hS ?nA0
    case yA0 => (go_simp; try (with_reducible rfl))
    simp only [Act.put, List.setIfInBounds_toArray, List.set_cons_zero, List.set_cons_succ]
    refine Ph.take2 (i := 2) (d := some 23) rfl rfl (by kernel_rfl) (fun _ h => h) (fun _ _ _ h => h) rfl (v := .agg (c8 key)) (fun w' hw' => yield_load_row 31 (.tmp 6) rfl kb rfl 31 (c8 key) (0, 0) _ hw' Try.underlying31 rfl (by rw [info31, c8_size, HK.out])) hS ?nA2
    simp only [Act.put, List.setIfInBounds_toArray, List.set_cons_zero, List.set_cons_succ]
    refine Ph.take2 (i := 3) (d := some 24) rfl rfl (by kernel_rfl) (fun _ h => h) (fun _ _ _ h => h) rfl (v := ?vA3) (fun w' hw' => ?yA3) hS ?nA3
    case yA3 => (go_simp; try (with_reducible rfl))
    simp only [Act.put, List.setIfInBounds_toArray, List.set_cons_zero, List.set_cons_succ]
    refine Ph.only (i := 1) rfl (by kernel_rfl) rfl (fun K hK => ?_)
    go_simp
    have hd0 : Below w.heap.size w wa.drew := HB.out.drew
    refine (tape_any A n cap l HI0.out.len (by omega) wa.drew (HI0.out.later hd0).rd).mono ?_
    rintro e w1 ⟨T, rfl, hT0, hT, hb1⟩
    have hS1 := Ky.later hS hb1
    have HB1 := Lib.hid (hd0.trans (hb1.mono hd0.size))
    have HT1 := Lib.hid hT
    have hkT : kb < T := by have e : wa.drew.heap.size = wa.heap.size := rfl; omega
    clear hT hT0 HB hd0
    refine hK _ _ hS1 ?_
    clear hK K hS hb1
    try simp only [List.setIfInBounds_toArray, List.set_cons_zero, List.set_cons_succ]
    refine Ph.only (i := 4) rfl (by kernel_rfl) rfl (fun K hK => ?_)
    go_simp
    refine (stream_any key HK.out nx w1).mono ?_
    rintro e w2 ⟨rfl, hs2, hb2⟩
    have hS2 := Ky.later hS1 hb2
    have hTl := HT1.out.lt
    obtain ⟨B, hB⟩ : ∃ B, B = w1.heap.size + 1 := ⟨_, rfl⟩
    rw [← hB] at hs2
    simp only [← hB]
    have hTB : T < B := by omega
    have HR : Hid (Rn w kb T B key l 0#64 nx w2) := ⟨hS2, HT1.out.later (grown_of hb2 none) (fun _ e => by cases e), hs2, HB1.out.trans (hb2.mono HB1.out.size)⟩
    clear hB hs2 HB1 HT1 hTl
    refine hK _ _ hS2 ?_
    clear hK K hS1 hb2
    try simp only [List.setIfInBounds_toArray, List.set_cons_zero, List.set_cons_succ]
    refine Ph.take2 (i := 5) (d := some 11) rfl rfl (by kernel_rfl) (fun _ h => h) (fun _ _ _ h => h) rfl (v := ?vA5) (fun w' hw' => ?yA5) hS2 ?nA5
    case yA5 => (go_simp; try (with_reducible rfl))
    simp only [Act.put, List.setIfInBounds_toArray, List.set_cons_zero, List.set_cons_succ]
    refine Ph.take2 (i := 6) (d := some 12) rfl rfl (by kernel_rfl) (fun _ h => h) (fun _ _ _ h => h) rfl (v := ?vA6) (fun w' hw' => ?yA6) hS2 ?nA6
    case yA6 => (go_simp; try (with_reducible rfl))
    simp only [Act.put, List.setIfInBounds_toArray, List.set_cons_zero, List.set_cons_succ]
    refine Ph.done (by kernel_rfl) ?_ _
    clear hS2 HKy hzw
    go_wp2_with fail
    go_loopw [13, 14, 15] (fun a b i wr => ∃ (k : Nat) (av bv : BitVec 64), k ≤ n3 ∧ k ≤ 40 ∧ i = .int .i64 k ∧ a = .int .u64 (u av) ∧ b = .int .u64 (u bv) ∧ Hid (Rn w kb T B key l av bv wr)) (fun _ _ i _ => 40 - (intOf i).toNat)
    case atStart => exact ⟨0, 0#64, nx, by omega, by omega, rfl, rfl, rfl, HR⟩
    case round =>
      obtain ⟨k, av, bv, hk3, hk40, rfl, rfl, rfl, HR'⟩ := hrel
      clear HR
      by_cases hlt : k < n3 ∧ k < 40
      · obtain ⟨hlt3, hlt40⟩ := hlt
        have hlt3' : (k : Int) < (n3 : Int) := by omega
        have hlt40' : (k : Int) < 40 := by omega
        obtain ⟨ad3, rfl, hc3⟩ := (HI3.out.later HR'.out.bl).rd k (by rw [HI3.out.len]; exact hlt3)
        have hlb3 : (ad3.add k).block < wr.heap.size := World.block_lt_of_cell? wr _ hc3
        generalize l3.getD k 0 = v at *
        obtain ⟨m1, hm1, hm1e⟩ := and_masked v 1 (by omega)
        have e1 : ((1 : Nat) : Int) = 1 := rfl
        rw [e1] at hm1e
        clear e1
        have hinc1 := c_inc av
        have hinc2 := c_inc bv
        by_cases hev : m1 = 0
        · subst hev
          obtain ⟨m2, hm2, hm2e⟩ := and_masked (v / 2) 255 (by omega)
          have e1 : ((255 : Nat) : Int) = 255 := rfl
          rw [e1] at hm2e
          have e0 : ((0 : Nat) : Int) = 0 := rfl
          rw [e0] at hm1e
          clear e1 e0
          have hwp := wrap_pow (m2 % 18) (by omega)
          generalize 2 ^ (m2 % 18) = P at *
          go_wp2_with fail
          generalize (P : Int) = nn at *
          have R0 := Lib.hid HR'.out.drew
          clear HR' hc3
          have hI0 := Lib.hid (HI0.out.later R0.out.bl)
          have hS := R0.out.ky
          refine Ph.region 99 (Ky kb key) (Ky kb key) (by kernel_rfl) ?_
          generalize wr.drew = x0 at *
          refine Ph.take2 (i := 0) (d := some 56) rfl rfl (by kernel_rfl) (fun _ h => h) (fun _ _ _ h => h) rfl (v := ?vP0) (fun w' hw' => ?yP0) hS ?nP0
          case yP0 => (go_simp; try (with_reducible rfl))
          simp only [Act.put, List.setIfInBounds_toArray, List.set_cons_zero, List.set_cons_succ]
          refine Ph.take2 (i := 2) (d := some 58) rfl rfl (by kernel_rfl) (fun _ h => h) (fun _ _ _ h => h) rfl (v := ?vP2) (fun w' hw' => ?yP2) hS ?nP2
          case yP2 => (go_simp; try (with_reducible rfl))
          simp only [Act.put, List.setIfInBounds_toArray, List.set_cons_zero, List.set_cons_succ]
          refine Ph.only (i := 1) rfl (by kernel_rfl) rfl (fun K hK => ?_)
          go_simp
          refine (R0.out.tp.used).mono ?_
          rintro e wq ⟨rfl, rfl⟩
          refine hK _ _ hS ?_
          clear hK K
          try simp only [List.setIfInBounds_toArray, List.set_cons_zero, List.set_cons_succ]
          refine Ph.take2 (i := 3) (d := some 59) rfl rfl (by kernel_rfl) (fun _ h => h) (fun _ _ _ h => h) rfl (v := .bool false) (fun w' hw' => ?yP3) hS ?nP3
          case yP3 => (go_simp; try (with_reducible rfl))
          simp only [Act.put, List.setIfInBounds_toArray, List.set_cons_zero, List.set_cons_succ]
          refine Ph.take2 (i := 4) (d := some 60) rfl rfl (by kernel_rfl) (fun _ h => h) (fun _ _ _ h => h) rfl (v := .bool false) (fun w' hw' => ?yP4) hS ?nP4
          case yP4 => (go_simp; try (with_reducible rfl))
          simp only [Act.put, List.setIfInBounds_toArray, List.set_cons_zero, List.set_cons_succ]
          refine Ph.take2 (i := 5) (d := some 61) rfl rfl (by kernel_rfl) (fun _ h => h) (fun _ _ _ h => h) rfl (v := ?vP5) (fun w' hw' => ?yP5) hS ?nP5
          case yP5 => (go_simp; try (with_reducible rfl))
          simp only [Act.put, List.setIfInBounds_toArray, List.set_cons_zero, List.set_cons_succ]
          refine Ph.take2 (i := 7) (d := some 63) rfl rfl (by kernel_rfl) (fun _ h => h) (fun _ _ _ h => h) rfl (v := ?vP7) (fun w' hw' => ?yP7) hS ?nP7
          case yP7 => (go_simp; try (with_reducible rfl))
          simp only [Act.put, List.setIfInBounds_toArray, List.set_cons_zero, List.set_cons_succ]
          refine Ph.only (i := 6) rfl (by kernel_rfl) rfl (fun K hK => ?_)
          go_simp
          refine (used_any R0.out.sc).mono ?_
          rintro e wq ⟨rfl, rfl⟩
          refine hK _ _ hS ?_
          clear hK K
          try simp only [List.setIfInBounds_toArray, List.set_cons_zero, List.set_cons_succ]
          refine Ph.take2 (i := 8) (d := some 64) rfl rfl (by kernel_rfl) (fun _ h => h) (fun _ _ _ h => h) rfl (v := .bool false) (fun w' hw' => ?yP8) hS ?nP8
          case yP8 => (go_simp; try (with_reducible rfl))
          simp only [Act.put, List.setIfInBounds_toArray, List.set_cons_zero, List.set_cons_succ]
          refine Ph.take2 (i := 9) (d := some 65) rfl rfl (by kernel_rfl) (fun _ h => h) (fun _ _ _ h => h) rfl (v := .bool false) (fun w' hw' => ?yP9) hS ?nP9
          case yP9 => (go_simp; try (with_reducible rfl))
          simp only [Act.put, List.setIfInBounds_toArray, List.set_cons_zero, List.set_cons_succ]
          refine Ph.take2 (i := 10) (d := some 66) rfl rfl (by kernel_rfl) (fun _ h => h) (fun _ _ _ h => h) rfl (v := .bool false) (fun w' hw' => ?yP10) hS ?nP10
          case yP10 => (go_simp; try (with_reducible rfl))
          simp only [Act.put, List.setIfInBounds_toArray, List.set_cons_zero, List.set_cons_succ]
          refine Ph.take2 (i := 11) (d := some 67) rfl rfl (by kernel_rfl) (fun _ h => h) (fun _ _ _ h => h) rfl (v := ?vP11) (fun w' hw' => ?yP11) hS ?nP11
          case yP11 => (go_simp; try (with_reducible rfl))
          simp only [Act.put, List.setIfInBounds_toArray, List.set_cons_zero, List.set_cons_succ]
          refine Ph.take2 (i := 13) (d := some 69) rfl rfl (by kernel_rfl) (fun _ h => h) (fun _ _ _ h => h) rfl (v := ?vP13) (fun w' hw' => ?yP13) hS ?nP13
          case yP13 => (go_simp; try (with_reducible rfl))
          simp only [Act.put, List.setIfInBounds_toArray, List.set_cons_zero, List.set_cons_succ]
          refine Ph.only (i := 12) rfl (by kernel_rfl) rfl (fun K hK => ?_)
          go_simp
          refine (leaves_any nn _).mono ?_
          rintro e wq ⟨rfl, rfl⟩
          refine hK _ _ hS ?_
          clear hK K
          try simp only [List.setIfInBounds_toArray, List.set_cons_zero, List.set_cons_succ]
          refine Ph.only (i := 14) rfl (by kernel_rfl) rfl (fun K hK => ?_)
          go_simp
          refine (rleaves_any nn _).mono ?_
          rintro e wq ⟨rfl, rfl⟩
          refine hK _ _ hS ?_
          clear hK K
          try simp only [List.setIfInBounds_toArray, List.set_cons_zero, List.set_cons_succ]
          refine Ph.take2 (i := 15) (d := some 71) rfl rfl (by kernel_rfl) (fun _ h => h) (fun _ _ _ h => h) rfl (v := .bool false) (fun w' hw' => ?yP15) hS ?nP15
          case yP15 => (go_simp; try (with_reducible rfl))
          simp only [Act.put, List.setIfInBounds_toArray, List.set_cons_zero, List.set_cons_succ]
          refine Ph.take2 (i := 16) (d := some 72) rfl rfl (by kernel_rfl) (fun _ h => h) (fun _ _ _ h => h) rfl (v := .bool false) (fun w' hw' => ?yP16) hS ?nP16
          case yP16 => (go_simp; try (with_reducible rfl))
          simp only [Act.put, List.setIfInBounds_toArray, List.set_cons_zero, List.set_cons_succ]
          refine Ph.take2 (i := 17) (d := some 73) rfl rfl (by kernel_rfl) (fun _ h => h) (fun _ _ _ h => h) rfl (v := .bool false) (fun w' hw' => ?yP17) hS ?nP17
          case yP17 => (go_simp; try (with_reducible rfl))
          simp only [Act.put, List.setIfInBounds_toArray, List.set_cons_zero, List.set_cons_succ]
          refine Ph.take2 (i := 18) (d := some 74) rfl rfl (by kernel_rfl) (fun _ h => h) (fun _ _ _ h => h) rfl (v := ?vP18) (fun w' hw' => ?yP18) hS ?nP18
          case yP18 => (go_simp; try (with_reducible rfl))
          simp only [Act.put, List.setIfInBounds_toArray, List.set_cons_zero, List.set_cons_succ]
          refine Ph.take2 (i := 19) (d := some 75) rfl rfl (by kernel_rfl) (fun _ h => h) (fun _ _ _ h => h) rfl (v := ?vP19) (fun w' hw' => ?yP19) hS ?nP19
          case yP19 => (go_simp; try (with_reducible rfl))
          simp only [Act.put, List.setIfInBounds_toArray, List.set_cons_zero, List.set_cons_succ]
          refine Ph.take2 (i := 21) (d := some 77) rfl rfl (by kernel_rfl) (fun _ h => h) (fun _ _ _ h => h) rfl (v := ?vP21) (fun w' hw' => ?yP21) hS ?nP21
          case yP21 => (go_simp; try (with_reducible rfl))
          simp only [Act.put, List.setIfInBounds_toArray, List.set_cons_zero, List.set_cons_succ]
          refine Ph.take2 (i := 22) (d := some 78) rfl rfl (by kernel_rfl) (fun _ h => h) (fun _ _ _ h => h) rfl (v := ?vP22) (fun w' hw' => ?yP22) hS ?nP22
          case yP22 => (go_simp; try (with_reducible rfl))
          simp only [Act.put, List.setIfInBounds_toArray, List.set_cons_zero, List.set_cons_succ]
          refine Ph.take2 (i := 24) (d := some 80) rfl rfl (by kernel_rfl) (fun _ h => h) (fun _ _ _ h => h) rfl (v := ?vP24) (fun w' hw' => ?yP24) hS ?nP24
          case yP24 => (go_simp; try (with_reducible rfl))
          simp only [Act.put, List.setIfInBounds_toArray, List.set_cons_zero, List.set_cons_succ]
          refine Ph.only (i := 20) rfl (by kernel_rfl) rfl (fun K hK => ?_)
          go_simp
          refine (R0.out.tp.next nn).mono ?_
          rintro e x1 ⟨rfl, ht1, hg1⟩
          have R1 := Lib.hid (R0.out.tape hkT hTB hkw hg1 ht1)
          have hS1 := R1.out.ky
          have hI1 := Lib.hid (HI0.out.later R1.out.bl)
          clear ht1 hg1
          refine hK _ _ hS1 ?_
          clear hK K
          try simp only [List.setIfInBounds_toArray, List.set_cons_zero, List.set_cons_succ]
          refine Ph.only (i := 23) rfl (by kernel_rfl) rfl (fun K hK => ?_)
          go_simp
          refine (taped_any A n cap l HI0.out.len (by omega) av _ hI1.out.rd).mono ?_
          rintro e wq ⟨rfl, rfl⟩
          refine hK _ _ hS1 ?_
          clear hK K
          try simp only [List.setIfInBounds_toArray, List.set_cons_zero, List.set_cons_succ]
          refine Ph.only (i := 25) rfl (by kernel_rfl) rfl (fun K hK => ?_)
          go_simp
          refine (masked_any (Ch.tp l av) nn _).mono ?_
          rintro e wq ⟨rfl, rfl⟩
          refine hK _ _ hS1 ?_
          clear hK K
          try simp only [List.setIfInBounds_toArray, List.set_cons_zero, List.set_cons_succ]
          generalize Ch.msk (Ch.tp l av) nn = y1 at *
          refine Ph.take2 (i := 26) (d := some 82) rfl rfl (by kernel_rfl) (fun _ h => h) (fun _ _ _ h => h) rfl (v := .bool false) (fun w' hw' => ?yP26) hS1 ?nP26
          case yP26 => (go_simp; try (with_reducible rfl))
          simp only [Act.put, List.setIfInBounds_toArray, List.set_cons_zero, List.set_cons_succ]
          refine Ph.take2 (i := 27) (d := some 83) rfl rfl (by kernel_rfl) (fun _ h => h) (fun _ _ _ h => h) rfl (v := .bool false) (fun w' hw' => ?yP27) hS1 ?nP27
          case yP27 => (go_simp; try (with_reducible rfl))
          simp only [Act.put, List.setIfInBounds_toArray, List.set_cons_zero, List.set_cons_succ]
          refine Ph.take2 (i := 28) (d := some 84) rfl rfl (by kernel_rfl) (fun _ h => h) (fun _ _ _ h => h) rfl (v := .bool false) (fun w' hw' => ?yP28) hS1 ?nP28
          case yP28 => (go_simp; try (with_reducible rfl))
          simp only [Act.put, List.setIfInBounds_toArray, List.set_cons_zero, List.set_cons_succ]
          refine Ph.take2 (i := 29) (d := some 85) rfl rfl (by kernel_rfl) (fun _ h => h) (fun _ _ _ h => h) rfl (v := ?vP29) (fun w' hw' => ?yP29) hS1 ?nP29
          case yP29 => (go_simp; try (with_reducible rfl))
          simp only [Act.put, List.setIfInBounds_toArray, List.set_cons_zero, List.set_cons_succ]
          refine Ph.take2 (i := 30) (d := some 86) rfl rfl (by kernel_rfl) (fun _ h => h) (fun _ _ _ h => h) rfl (v := ?vP30) (fun w' hw' => ?yP30) hS1 ?nP30
          case yP30 => (go_simp; try (with_reducible rfl))
          simp only [Act.put, List.setIfInBounds_toArray, List.set_cons_zero, List.set_cons_succ]
          refine Ph.take2 (i := 32) (d := some 88) rfl rfl (by kernel_rfl) (fun _ h => h) (fun _ _ _ h => h) rfl (v := .agg (c8 key)) (fun w' hw' => yield_load_row 31 (.tmp 6) rfl kb rfl 31 (c8 key) (0, 0) _ hw' Try.underlying31 rfl (by rw [info31, c8_size, HK.out])) hS1 ?nP32
          simp only [Act.put, List.setIfInBounds_toArray, List.set_cons_zero, List.set_cons_succ]
          refine Ph.take2 (i := 33) (d := some 89) rfl rfl (by kernel_rfl) (fun _ h => h) (fun _ _ _ h => h) rfl (v := ?vP33) (fun w' hw' => ?yP33) hS1 ?nP33
          case yP33 => (go_simp; try (with_reducible rfl))
          simp only [Act.put, List.setIfInBounds_toArray, List.set_cons_zero, List.set_cons_succ]
          refine Ph.take2 (i := 35) (d := some 91) rfl rfl (by kernel_rfl) (fun _ h => h) (fun _ _ _ h => h) rfl (v := ?vP35) (fun w' hw' => ?yP35) hS1 ?nP35
          case yP35 => (go_simp; try (with_reducible rfl))
          simp only [Act.put, List.setIfInBounds_toArray, List.set_cons_zero, List.set_cons_succ]
          refine Ph.only (i := 31) rfl (by kernel_rfl) rfl (fun K hK => ?_)
          go_simp
          refine (next_k R1.out.sc nn).mono ?_
          rintro e x2 ⟨rfl, ht2, hg2⟩
          have R2 := Lib.hid (R1.out.stream hkT hTB hkw hg2 ht2)
          have hS2 := R2.out.ky
          clear ht2 hg2
          refine hK _ _ hS2 ?_
          clear hK K
          try simp only [List.setIfInBounds_toArray, List.set_cons_zero, List.set_cons_succ]
          refine Ph.only (i := 34) rfl (by kernel_rfl) rfl (fun K hK => ?_)
          go_simp
          refine (streamed_any key HK.out bv _).mono ?_
          rintro e x3 ⟨rfl, hb3⟩
          have R3 := Lib.hid (R2.out.older hb3)
          have hS3 := R3.out.ky
          clear hb3
          refine hK _ _ hS3 ?_
          clear hK K
          try simp only [List.setIfInBounds_toArray, List.set_cons_zero, List.set_cons_succ]
          refine Ph.only (i := 36) rfl (by kernel_rfl) rfl (fun K hK => ?_)
          go_simp
          refine (masked_any (Ch.sp key bv) nn _).mono ?_
          rintro e wq ⟨rfl, rfl⟩
          refine hK _ _ hS3 ?_
          clear hK K
          try simp only [List.setIfInBounds_toArray, List.set_cons_zero, List.set_cons_succ]
          generalize Ch.msk (Ch.sp key bv) nn = y2 at *
          refine Ph.take2 (i := 37) (d := some 93) rfl rfl (by kernel_rfl) (fun _ h => h) (fun _ _ _ h => h) rfl (v := .bool false) (fun w' hw' => ?yP37) hS3 ?nP37
          case yP37 => (go_simp; try (with_reducible rfl))
          simp only [Act.put, List.setIfInBounds_toArray, List.set_cons_zero, List.set_cons_succ]
          refine Ph.take2 (i := 38) (d := some 94) rfl rfl (by kernel_rfl) (fun _ h => h) (fun _ _ _ h => h) rfl (v := .bool false) (fun w' hw' => ?yP38) hS3 ?nP38
          case yP38 => (go_simp; try (with_reducible rfl))
          simp only [Act.put, List.setIfInBounds_toArray, List.set_cons_zero, List.set_cons_succ]
          refine Ph.done (by kernel_rfl) ?_ _
          clear hS hS1 hS2 hS3 R0 R1 R2 hI0 hI1
          by_cases h4 : k < n4
          · have h4' : (k : Int) < (n4 : Int) := by omega
            obtain ⟨ad4, rfl, hc4⟩ := (HI4.out.later R3.out.bl).rd k (by rw [HI4.out.len]; exact h4)
            generalize l4.getD k 0#64 = z at *
            have hz3 := b_and64 z 3#64
            have u3 : u 3#64 = 3 := rfl
            rw [u3] at hz3
            clear u3
            by_cases hsk : z &&& 3#64 = 1#64
            · rw [hsk] at hz3
              have u1 : u 1#64 = 1 := rfl
              rw [u1] at hz3
              clear u1 hsk
              go_wp2_with fail
              have R3d := Lib.hid R3.out.drew
              have hS5 : C1 (ad4.add k) (.int .u64 (u z)) x3.drew := hc4
              refine Ph.region 99 (C1 (ad4.add k) (.int .u64 (u z))) (C1 (ad4.add k) (.int .u64 (u z))) (by kernel_rfl) ?_
              have hsh : u z / (4 : Int) = u (z >>> 2) := by rw [← d_shr64 z 2]; rfl
              have h255 := b_and64 (z >>> 2) 255#64
              have u255 : u 255#64 = 255 := rfl
              rw [u255] at h255
              clear u255 hc4
              refine Ph.take2 (i := 0) (d := some 111) rfl rfl (by kernel_rfl) (fun _ h => h) (fun _ _ _ h => h) rfl (v := ?vSP0) (fun w' hw' => ?ySP0) hS5 ?nSP0
              case ySP0 => (go_simp; try (with_reducible rfl))
              simp only [Act.put, List.setIfInBounds_toArray, List.set_cons_zero, List.set_cons_succ]
              refine Ph.take2 (i := 1) (d := some 112) rfl rfl (by kernel_rfl) (fun _ h => h) (fun _ _ _ h => h) rfl (v := ?vSP1) (fun w' hw' => ?ySP1) hS5 ?nSP1
              case ySP1 => (go_simp; try (with_reducible rfl))
              simp only [Act.put, List.setIfInBounds_toArray, List.set_cons_zero, List.set_cons_succ]
              refine Ph.take2 (i := 2) (d := some 113) rfl rfl (by kernel_rfl) (fun _ h => h) (fun _ _ _ h => h) rfl (v := ?vSP2) (fun w' hw' => ?ySP2) hS5 ?nSP2
              case ySP2 => (go_simp; try (with_reducible rfl))
              simp only [Act.put, List.setIfInBounds_toArray, List.set_cons_zero, List.set_cons_succ]
              refine Ph.take2 (i := 3) (d := some 114) rfl rfl (by kernel_rfl) (fun _ h => h) (fun _ _ _ h => h) rfl (v := ?vSP3) (fun w' hw' => ?ySP3) hS5 ?nSP3
              case ySP3 => (have q0 : w'.cell? (ad4.add k) = _ := hw'; go_simp; try (with_reducible rfl))
              simp only [Act.put, List.setIfInBounds_toArray, List.set_cons_zero, List.set_cons_succ]
              refine Ph.take2 (i := 4) (d := some 115) rfl rfl (by kernel_rfl) (fun _ h => h) (fun _ _ _ h => h) rfl (v := ?vSP4) (fun w' hw' => ?ySP4) hS5 ?nSP4
              case ySP4 => (go_simp; try (with_reducible rfl))
              simp only [Act.put, List.setIfInBounds_toArray, List.set_cons_zero, List.set_cons_succ]
              refine Ph.take2 (i := 5) (d := some 116) rfl rfl (by kernel_rfl) (fun _ h => h) (fun _ _ _ h => h) rfl (v := ?vSP5) (fun w' hw' => ?ySP5) hS5 ?nSP5
              case ySP5 => (go_simp; try (with_reducible rfl))
              simp only [Act.put, List.setIfInBounds_toArray, List.set_cons_zero, List.set_cons_succ]
              refine Ph.take2 (i := 6) (d := some 117) rfl rfl (by kernel_rfl) (fun _ h => h) (fun _ _ _ h => h) rfl (v := ?vSP6) (fun w' hw' => ?ySP6) hS5 ?nSP6
              case ySP6 => (go_simp; try (with_reducible rfl))
              simp only [Act.put, List.setIfInBounds_toArray, List.set_cons_zero, List.set_cons_succ]
              refine Ph.take2 (i := 7) (d := some 118) rfl rfl (by kernel_rfl) (fun _ h => h) (fun _ _ _ h => h) rfl (v := ?vSP7) (fun w' hw' => ?ySP7) hS5 ?nSP7
              case ySP7 => (go_simp; try (with_reducible rfl))
              simp only [Act.put, List.setIfInBounds_toArray, List.set_cons_zero, List.set_cons_succ]
              refine Ph.take2 (i := 8) (d := some 119) rfl rfl (by kernel_rfl) (fun _ h => h) (fun _ _ _ h => h) rfl (v := ?vSP8) (fun w' hw' => ?ySP8) hS5 ?nSP8
              case ySP8 => (go_simp; try (with_reducible rfl))
              simp only [Act.put, List.setIfInBounds_toArray, List.set_cons_zero, List.set_cons_succ]
              refine Ph.take2 (i := 9) (d := some 120) rfl rfl (by kernel_rfl) (fun _ h => h) (fun _ _ _ h => h) rfl (v := ?vSP9) (fun w' hw' => ?ySP9) hS5 ?nSP9
              case ySP9 => (have q0 : w'.cell? (ad4.add k) = _ := hw'; go_simp; try (with_reducible rfl))
              simp only [Act.put, List.setIfInBounds_toArray, List.set_cons_zero, List.set_cons_succ]
              refine Ph.take2 (i := 10) (d := some 13) rfl rfl (by kernel_rfl) (fun _ h => h) (fun _ _ _ h => h) rfl (v := ?vSP10) (fun w' hw' => ?ySP10) hS5 ?nSP10
              case ySP10 => (go_simp; try (with_reducible rfl))
              simp only [Act.put, List.setIfInBounds_toArray, List.set_cons_zero, List.set_cons_succ]
              refine Ph.take2 (i := 11) (d := some 14) rfl rfl (by kernel_rfl) (fun _ h => h) (fun _ _ _ h => h) rfl (v := ?vSP11) (fun w' hw' => ?ySP11) hS5 ?nSP11
              case ySP11 => (go_simp; try (with_reducible rfl))
              simp only [Act.put, List.setIfInBounds_toArray, List.set_cons_zero, List.set_cons_succ]
              refine Ph.done (by kernel_rfl) ?_ _
              clear hS5 hsh R3
              generalize x3.drew = x4 at *
              go_wp2_with fail
              refine (R3d.out.tp.seek (z >>> 2 &&& 255#64)).mono ?_
              rintro e x5 ⟨rfl, ht5, hg5⟩
              have R5 := Lib.hid (R3d.out.tape hkT hTB hkw hg5 ht5)
              clear ht5 hg5 R3d
              go_wp2_with fail
              refine (seek_any R5.out.sc z).mono ?_
              rintro e x6 ⟨rfl, ht6, hg6⟩
              have R6 := Lib.hid (R5.out.stream hkT hTB hkw hg6 ht6)
              clear ht6 hg6 R5
              go_wp2_with fail
              go_roundw
              case rel => exact ⟨k + 1, z >>> 2 &&& 255#64, z, by omega, by omega, by go_num, rfl, rfl, R6⟩
              case measure => simp [intOf]; omega
            · have hne : (u (z &&& 3#64) == 1) = false := by
                rw [beq_eq_false_iff_ne]
                exact fun e => hsk (u_inj64 (e.trans rfl))
              clear hsk
              generalize z &&& 3#64 = zz at *
              go_wp2_with fail
              go_roundw
              case rel => exact ⟨k + 1, av + 1#64, bv + 1#64, by omega, by omega, by go_num, rfl, rfl, R3⟩
              case measure => simp [intOf]; omega
          · have h4' : decide ((k : Int) < (n4 : Int)) = false := by simp; omega
            go_wp2_with fail
            go_roundw
            case rel => exact ⟨k + 1, av + 1#64, bv + 1#64, by omega, by omega, by go_num, rfl, rfl, R3⟩
            case measure => simp [intOf]; omega
        · have hm11 : m1 = 1 := by omega
          subst hm11
          have e0 : ((1 : Nat) : Int) = 1 := rfl
          rw [e0] at hm1e
          clear e0
          go_wp2_with fail
          generalize hnn : v = nn
          have R0 := Lib.hid HR'.out.drew
          clear HR' hc3
          have hI0 := Lib.hid (HI0.out.later R0.out.bl)
          have hS := R0.out.ky
          refine Ph.region 99 (Ky kb key) (Ky kb key) (by kernel_rfl) ?_
          generalize wr.drew = x0 at *
          refine Ph.take2 (i := 0) (d := some 56) rfl rfl (by kernel_rfl) (fun _ h => h) (fun _ _ _ h => h) rfl (v := ?vQ0) (fun w' hw' => ?yQ0) hS ?nQ0
          case yQ0 => (go_simp; try (with_reducible rfl))
          simp only [Act.put, List.setIfInBounds_toArray, List.set_cons_zero, List.set_cons_succ]
          refine Ph.take2 (i := 2) (d := some 58) rfl rfl (by kernel_rfl) (fun _ h => h) (fun _ _ _ h => h) rfl (v := ?vQ2) (fun w' hw' => ?yQ2) hS ?nQ2
          case yQ2 => (go_simp; try (with_reducible rfl))
          simp only [Act.put, List.setIfInBounds_toArray, List.set_cons_zero, List.set_cons_succ]
          refine Ph.only (i := 1) rfl (by kernel_rfl) rfl (fun K hK => ?_)
          go_simp
          refine (R0.out.tp.used).mono ?_
          rintro e wq ⟨rfl, rfl⟩
          refine hK _ _ hS ?_
          clear hK K
          try simp only [List.setIfInBounds_toArray, List.set_cons_zero, List.set_cons_succ]
          refine Ph.take2 (i := 3) (d := some 59) rfl rfl (by kernel_rfl) (fun _ h => h) (fun _ _ _ h => h) rfl (v := .bool false) (fun w' hw' => ?yQ3) hS ?nQ3
          case yQ3 => (go_simp; try (with_reducible rfl))
          simp only [Act.put, List.setIfInBounds_toArray, List.set_cons_zero, List.set_cons_succ]
          refine Ph.take2 (i := 4) (d := some 60) rfl rfl (by kernel_rfl) (fun _ h => h) (fun _ _ _ h => h) rfl (v := .bool false) (fun w' hw' => ?yQ4) hS ?nQ4
          case yQ4 => (go_simp; try (with_reducible rfl))
          simp only [Act.put, List.setIfInBounds_toArray, List.set_cons_zero, List.set_cons_succ]
          refine Ph.take2 (i := 5) (d := some 61) rfl rfl (by kernel_rfl) (fun _ h => h) (fun _ _ _ h => h) rfl (v := ?vQ5) (fun w' hw' => ?yQ5) hS ?nQ5
          case yQ5 => (go_simp; try (with_reducible rfl))
          simp only [Act.put, List.setIfInBounds_toArray, List.set_cons_zero, List.set_cons_succ]
          refine Ph.take2 (i := 7) (d := some 63) rfl rfl (by kernel_rfl) (fun _ h => h) (fun _ _ _ h => h) rfl (v := ?vQ7) (fun w' hw' => ?yQ7) hS ?nQ7
          case yQ7 => (go_simp; try (with_reducible rfl))
          simp only [Act.put, List.setIfInBounds_toArray, List.set_cons_zero, List.set_cons_succ]
          refine Ph.only (i := 6) rfl (by kernel_rfl) rfl (fun K hK => ?_)
          go_simp
          refine (used_any R0.out.sc).mono ?_
          rintro e wq ⟨rfl, rfl⟩
          refine hK _ _ hS ?_
          clear hK K
          try simp only [List.setIfInBounds_toArray, List.set_cons_zero, List.set_cons_succ]
          refine Ph.take2 (i := 8) (d := some 64) rfl rfl (by kernel_rfl) (fun _ h => h) (fun _ _ _ h => h) rfl (v := .bool false) (fun w' hw' => ?yQ8) hS ?nQ8
          case yQ8 => (go_simp; try (with_reducible rfl))
          simp only [Act.put, List.setIfInBounds_toArray, List.set_cons_zero, List.set_cons_succ]
          refine Ph.take2 (i := 9) (d := some 65) rfl rfl (by kernel_rfl) (fun _ h => h) (fun _ _ _ h => h) rfl (v := .bool false) (fun w' hw' => ?yQ9) hS ?nQ9
          case yQ9 => (go_simp; try (with_reducible rfl))
          simp only [Act.put, List.setIfInBounds_toArray, List.set_cons_zero, List.set_cons_succ]
          refine Ph.take2 (i := 10) (d := some 66) rfl rfl (by kernel_rfl) (fun _ h => h) (fun _ _ _ h => h) rfl (v := .bool false) (fun w' hw' => ?yQ10) hS ?nQ10
          case yQ10 => (go_simp; try (with_reducible rfl))
          simp only [Act.put, List.setIfInBounds_toArray, List.set_cons_zero, List.set_cons_succ]
          refine Ph.take2 (i := 11) (d := some 67) rfl rfl (by kernel_rfl) (fun _ h => h) (fun _ _ _ h => h) rfl (v := ?vQ11) (fun w' hw' => ?yQ11) hS ?nQ11
          case yQ11 => (go_simp; try (with_reducible rfl))
          simp only [Act.put, List.setIfInBounds_toArray, List.set_cons_zero, List.set_cons_succ]
          refine Ph.take2 (i := 13) (d := some 69) rfl rfl (by kernel_rfl) (fun _ h => h) (fun _ _ _ h => h) rfl (v := ?vQ13) (fun w' hw' => ?yQ13) hS ?nQ13
          case yQ13 => (go_simp; try (with_reducible rfl))
          simp only [Act.put, List.setIfInBounds_toArray, List.set_cons_zero, List.set_cons_succ]
          refine Ph.only (i := 12) rfl (by kernel_rfl) rfl (fun K hK => ?_)
          go_simp
          refine (leaves_any nn _).mono ?_
          rintro e wq ⟨rfl, rfl⟩
          refine hK _ _ hS ?_
          clear hK K
          try simp only [List.setIfInBounds_toArray, List.set_cons_zero, List.set_cons_succ]
          refine Ph.only (i := 14) rfl (by kernel_rfl) rfl (fun K hK => ?_)
          go_simp
          refine (rleaves_any nn _).mono ?_
          rintro e wq ⟨rfl, rfl⟩
          refine hK _ _ hS ?_
          clear hK K
          try simp only [List.setIfInBounds_toArray, List.set_cons_zero, List.set_cons_succ]
          refine Ph.take2 (i := 15) (d := some 71) rfl rfl (by kernel_rfl) (fun _ h => h) (fun _ _ _ h => h) rfl (v := .bool false) (fun w' hw' => ?yQ15) hS ?nQ15
          case yQ15 => (go_simp; try (with_reducible rfl))
          simp only [Act.put, List.setIfInBounds_toArray, List.set_cons_zero, List.set_cons_succ]
          refine Ph.take2 (i := 16) (d := some 72) rfl rfl (by kernel_rfl) (fun _ h => h) (fun _ _ _ h => h) rfl (v := .bool false) (fun w' hw' => ?yQ16) hS ?nQ16
          case yQ16 => (go_simp; try (with_reducible rfl))
          simp only [Act.put, List.setIfInBounds_toArray, List.set_cons_zero, List.set_cons_succ]
          refine Ph.take2 (i := 17) (d := some 73) rfl rfl (by kernel_rfl) (fun _ h => h) (fun _ _ _ h => h) rfl (v := .bool false) (fun w' hw' => ?yQ17) hS ?nQ17
          case yQ17 => (go_simp; try (with_reducible rfl))
          simp only [Act.put, List.setIfInBounds_toArray, List.set_cons_zero, List.set_cons_succ]
          refine Ph.take2 (i := 18) (d := some 74) rfl rfl (by kernel_rfl) (fun _ h => h) (fun _ _ _ h => h) rfl (v := ?vQ18) (fun w' hw' => ?yQ18) hS ?nQ18
          case yQ18 => (go_simp; try (with_reducible rfl))
          simp only [Act.put, List.setIfInBounds_toArray, List.set_cons_zero, List.set_cons_succ]
          refine Ph.take2 (i := 19) (d := some 75) rfl rfl (by kernel_rfl) (fun _ h => h) (fun _ _ _ h => h) rfl (v := ?vQ19) (fun w' hw' => ?yQ19) hS ?nQ19
          case yQ19 => (go_simp; try (with_reducible rfl))
          simp only [Act.put, List.setIfInBounds_toArray, List.set_cons_zero, List.set_cons_succ]
          refine Ph.take2 (i := 21) (d := some 77) rfl rfl (by kernel_rfl) (fun _ h => h) (fun _ _ _ h => h) rfl (v := ?vQ21) (fun w' hw' => ?yQ21) hS ?nQ21
          case yQ21 => (go_simp; try (with_reducible rfl))
          simp only [Act.put, List.setIfInBounds_toArray, List.set_cons_zero, List.set_cons_succ]
          refine Ph.take2 (i := 22) (d := some 78) rfl rfl (by kernel_rfl) (fun _ h => h) (fun _ _ _ h => h) rfl (v := ?vQ22) (fun w' hw' => ?yQ22) hS ?nQ22
          case yQ22 => (go_simp; try (with_reducible rfl))
          simp only [Act.put, List.setIfInBounds_toArray, List.set_cons_zero, List.set_cons_succ]
          refine Ph.take2 (i := 24) (d := some 80) rfl rfl (by kernel_rfl) (fun _ h => h) (fun _ _ _ h => h) rfl (v := ?vQ24) (fun w' hw' => ?yQ24) hS ?nQ24
          case yQ24 => (go_simp; try (with_reducible rfl))
          simp only [Act.put, List.setIfInBounds_toArray, List.set_cons_zero, List.set_cons_succ]
          refine Ph.only (i := 20) rfl (by kernel_rfl) rfl (fun K hK => ?_)
          go_simp
          refine (R0.out.tp.next nn).mono ?_
          rintro e x1 ⟨rfl, ht1, hg1⟩
          have R1 := Lib.hid (R0.out.tape hkT hTB hkw hg1 ht1)
          have hS1 := R1.out.ky
          have hI1 := Lib.hid (HI0.out.later R1.out.bl)
          clear ht1 hg1
          refine hK _ _ hS1 ?_
          clear hK K
          try simp only [List.setIfInBounds_toArray, List.set_cons_zero, List.set_cons_succ]
          refine Ph.only (i := 23) rfl (by kernel_rfl) rfl (fun K hK => ?_)
          go_simp
          refine (taped_any A n cap l HI0.out.len (by omega) av _ hI1.out.rd).mono ?_
          rintro e wq ⟨rfl, rfl⟩
          refine hK _ _ hS1 ?_
          clear hK K
          try simp only [List.setIfInBounds_toArray, List.set_cons_zero, List.set_cons_succ]
          refine Ph.only (i := 25) rfl (by kernel_rfl) rfl (fun K hK => ?_)
          go_simp
          refine (masked_any (Ch.tp l av) nn _).mono ?_
          rintro e wq ⟨rfl, rfl⟩
          refine hK _ _ hS1 ?_
          clear hK K
          try simp only [List.setIfInBounds_toArray, List.set_cons_zero, List.set_cons_succ]
          generalize Ch.msk (Ch.tp l av) nn = y1 at *
          refine Ph.take2 (i := 26) (d := some 82) rfl rfl (by kernel_rfl) (fun _ h => h) (fun _ _ _ h => h) rfl (v := .bool false) (fun w' hw' => ?yQ26) hS1 ?nQ26
          case yQ26 => (go_simp; try (with_reducible rfl))
          simp only [Act.put, List.setIfInBounds_toArray, List.set_cons_zero, List.set_cons_succ]
          refine Ph.take2 (i := 27) (d := some 83) rfl rfl (by kernel_rfl) (fun _ h => h) (fun _ _ _ h => h) rfl (v := .bool false) (fun w' hw' => ?yQ27) hS1 ?nQ27
          case yQ27 => (go_simp; try (with_reducible rfl))
          simp only [Act.put, List.setIfInBounds_toArray, List.set_cons_zero, List.set_cons_succ]
          refine Ph.take2 (i := 28) (d := some 84) rfl rfl (by kernel_rfl) (fun _ h => h) (fun _ _ _ h => h) rfl (v := .bool false) (fun w' hw' => ?yQ28) hS1 ?nQ28
          case yQ28 => (go_simp; try (with_reducible rfl))
          simp only [Act.put, List.setIfInBounds_toArray, List.set_cons_zero, List.set_cons_succ]
          refine Ph.take2 (i := 29) (d := some 85) rfl rfl (by kernel_rfl) (fun _ h => h) (fun _ _ _ h => h) rfl (v := ?vQ29) (fun w' hw' => ?yQ29) hS1 ?nQ29
          case yQ29 => (go_simp; try (with_reducible rfl))
          simp only [Act.put, List.setIfInBounds_toArray, List.set_cons_zero, List.set_cons_succ]
          refine Ph.take2 (i := 30) (d := some 86) rfl rfl (by kernel_rfl) (fun _ h => h) (fun _ _ _ h => h) rfl (v := ?vQ30) (fun w' hw' => ?yQ30) hS1 ?nQ30
          case yQ30 => (go_simp; try (with_reducible rfl))
          simp only [Act.put, List.setIfInBounds_toArray, List.set_cons_zero, List.set_cons_succ]
          refine Ph.take2 (i := 32) (d := some 88) rfl rfl (by kernel_rfl) (fun _ h => h) (fun _ _ _ h => h) rfl (v := .agg (c8 key)) (fun w' hw' => yield_load_row 31 (.tmp 6) rfl kb rfl 31 (c8 key) (0, 0) _ hw' Try.underlying31 rfl (by rw [info31, c8_size, HK.out])) hS1 ?nQ32
          simp only [Act.put, List.setIfInBounds_toArray, List.set_cons_zero, List.set_cons_succ]
          refine Ph.take2 (i := 33) (d := some 89) rfl rfl (by kernel_rfl) (fun _ h => h) (fun _ _ _ h => h) rfl (v := ?vQ33) (fun w' hw' => ?yQ33) hS1 ?nQ33
          case yQ33 => (go_simp; try (with_reducible rfl))
          simp only [Act.put, List.setIfInBounds_toArray, List.set_cons_zero, List.set_cons_succ]
          refine Ph.take2 (i := 35) (d := some 91) rfl rfl (by kernel_rfl) (fun _ h => h) (fun _ _ _ h => h) rfl (v := ?vQ35) (fun w' hw' => ?yQ35) hS1 ?nQ35
          case yQ35 => (go_simp; try (with_reducible rfl))
          simp only [Act.put, List.setIfInBounds_toArray, List.set_cons_zero, List.set_cons_succ]
          refine Ph.only (i := 31) rfl (by kernel_rfl) rfl (fun K hK => ?_)
          go_simp
          refine (next_k R1.out.sc nn).mono ?_
          rintro e x2 ⟨rfl, ht2, hg2⟩
          have R2 := Lib.hid (R1.out.stream hkT hTB hkw hg2 ht2)
          have hS2 := R2.out.ky
          clear ht2 hg2
          refine hK _ _ hS2 ?_
          clear hK K
          try simp only [List.setIfInBounds_toArray, List.set_cons_zero, List.set_cons_succ]
          refine Ph.only (i := 34) rfl (by kernel_rfl) rfl (fun K hK => ?_)
          go_simp
          refine (streamed_any key HK.out bv _).mono ?_
          rintro e x3 ⟨rfl, hb3⟩
          have R3 := Lib.hid (R2.out.older hb3)
          have hS3 := R3.out.ky
          clear hb3
          refine hK _ _ hS3 ?_
          clear hK K
          try simp only [List.setIfInBounds_toArray, List.set_cons_zero, List.set_cons_succ]
          refine Ph.only (i := 36) rfl (by kernel_rfl) rfl (fun K hK => ?_)
          go_simp
          refine (masked_any (Ch.sp key bv) nn _).mono ?_
          rintro e wq ⟨rfl, rfl⟩
          refine hK _ _ hS3 ?_
          clear hK K
          try simp only [List.setIfInBounds_toArray, List.set_cons_zero, List.set_cons_succ]
          generalize Ch.msk (Ch.sp key bv) nn = y2 at *
          refine Ph.take2 (i := 37) (d := some 93) rfl rfl (by kernel_rfl) (fun _ h => h) (fun _ _ _ h => h) rfl (v := .bool false) (fun w' hw' => ?yQ37) hS3 ?nQ37
          case yQ37 => (go_simp; try (with_reducible rfl))
          simp only [Act.put, List.setIfInBounds_toArray, List.set_cons_zero, List.set_cons_succ]
          refine Ph.take2 (i := 38) (d := some 94) rfl rfl (by kernel_rfl) (fun _ h => h) (fun _ _ _ h => h) rfl (v := .bool false) (fun w' hw' => ?yQ38) hS3 ?nQ38
          case yQ38 => (go_simp; try (with_reducible rfl))
          simp only [Act.put, List.setIfInBounds_toArray, List.set_cons_zero, List.set_cons_succ]
          refine Ph.done (by kernel_rfl) ?_ _
          clear hS hS1 hS2 hS3 R0 R1 R2 hI0 hI1
          by_cases h4 : k < n4
          · have h4' : (k : Int) < (n4 : Int) := by omega
            obtain ⟨ad4, rfl, hc4⟩ := (HI4.out.later R3.out.bl).rd k (by rw [HI4.out.len]; exact h4)
            generalize l4.getD k 0#64 = z at *
            have hz3 := b_and64 z 3#64
            have u3 : u 3#64 = 3 := rfl
            rw [u3] at hz3
            clear u3
            by_cases hsk : z &&& 3#64 = 1#64
            · rw [hsk] at hz3
              have u1 : u 1#64 = 1 := rfl
              rw [u1] at hz3
              clear u1 hsk
              go_wp2_with fail
              have R3d := Lib.hid R3.out.drew
              have hS5 : C1 (ad4.add k) (.int .u64 (u z)) x3.drew := hc4
              refine Ph.region 99 (C1 (ad4.add k) (.int .u64 (u z))) (C1 (ad4.add k) (.int .u64 (u z))) (by kernel_rfl) ?_
              have hsh : u z / (4 : Int) = u (z >>> 2) := by rw [← d_shr64 z 2]; rfl
              have h255 := b_and64 (z >>> 2) 255#64
              have u255 : u 255#64 = 255 := rfl
              rw [u255] at h255
              clear u255 hc4
              refine Ph.take2 (i := 0) (d := some 111) rfl rfl (by kernel_rfl) (fun _ h => h) (fun _ _ _ h => h) rfl (v := ?vSQ0) (fun w' hw' => ?ySQ0) hS5 ?nSQ0
              case ySQ0 => (go_simp; try (with_reducible rfl))
              simp only [Act.put, List.setIfInBounds_toArray, List.set_cons_zero, List.set_cons_succ]
              refine Ph.take2 (i := 1) (d := some 112) rfl rfl (by kernel_rfl) (fun _ h => h) (fun _ _ _ h => h) rfl (v := ?vSQ1) (fun w' hw' => ?ySQ1) hS5 ?nSQ1
              case ySQ1 => (go_simp; try (with_reducible rfl))
              simp only [Act.put, List.setIfInBounds_toArray, List.set_cons_zero, List.set_cons_succ]
              refine Ph.take2 (i := 2) (d := some 113) rfl rfl (by kernel_rfl) (fun _ h => h) (fun _ _ _ h => h) rfl (v := ?vSQ2) (fun w' hw' => ?ySQ2) hS5 ?nSQ2
              case ySQ2 => (go_simp; try (with_reducible rfl))
              simp only [Act.put, List.setIfInBounds_toArray, List.set_cons_zero, List.set_cons_succ]
              refine Ph.take2 (i := 3) (d := some 114) rfl rfl (by kernel_rfl) (fun _ h => h) (fun _ _ _ h => h) rfl (v := ?vSQ3) (fun w' hw' => ?ySQ3) hS5 ?nSQ3
              case ySQ3 => (have q0 : w'.cell? (ad4.add k) = _ := hw'; go_simp; try (with_reducible rfl))
              simp only [Act.put, List.setIfInBounds_toArray, List.set_cons_zero, List.set_cons_succ]
              refine Ph.take2 (i := 4) (d := some 115) rfl rfl (by kernel_rfl) (fun _ h => h) (fun _ _ _ h => h) rfl (v := ?vSQ4) (fun w' hw' => ?ySQ4) hS5 ?nSQ4
              case ySQ4 => (go_simp; try (with_reducible rfl))
              simp only [Act.put, List.setIfInBounds_toArray, List.set_cons_zero, List.set_cons_succ]
              refine Ph.take2 (i := 5) (d := some 116) rfl rfl (by kernel_rfl) (fun _ h => h) (fun _ _ _ h => h) rfl (v := ?vSQ5) (fun w' hw' => ?ySQ5) hS5 ?nSQ5
              case ySQ5 => (go_simp; try (with_reducible rfl))
              simp only [Act.put, List.setIfInBounds_toArray, List.set_cons_zero, List.set_cons_succ]
              refine Ph.take2 (i := 6) (d := some 117) rfl rfl (by kernel_rfl) (fun _ h => h) (fun _ _ _ h => h) rfl (v := ?vSQ6) (fun w' hw' => ?ySQ6) hS5 ?nSQ6
              case ySQ6 => (go_simp; try (with_reducible rfl))
              simp only [Act.put, List.setIfInBounds_toArray, List.set_cons_zero, List.set_cons_succ]
              refine Ph.take2 (i := 7) (d := some 118) rfl rfl (by kernel_rfl) (fun _ h => h) (fun _ _ _ h => h) rfl (v := ?vSQ7) (fun w' hw' => ?ySQ7) hS5 ?nSQ7
              case ySQ7 => (go_simp; try (with_reducible rfl))
              simp only [Act.put, List.setIfInBounds_toArray, List.set_cons_zero, List.set_cons_succ]
              refine Ph.take2 (i := 8) (d := some 119) rfl rfl (by kernel_rfl) (fun _ h => h) (fun _ _ _ h => h) rfl (v := ?vSQ8) (fun w' hw' => ?ySQ8) hS5 ?nSQ8
              case ySQ8 => (go_simp; try (with_reducible rfl))
              simp only [Act.put, List.setIfInBounds_toArray, List.set_cons_zero, List.set_cons_succ]
              refine Ph.take2 (i := 9) (d := some 120) rfl rfl (by kernel_rfl) (fun _ h => h) (fun _ _ _ h => h) rfl (v := ?vSQ9) (fun w' hw' => ?ySQ9) hS5 ?nSQ9
              case ySQ9 => (have q0 : w'.cell? (ad4.add k) = _ := hw'; go_simp; try (with_reducible rfl))
              simp only [Act.put, List.setIfInBounds_toArray, List.set_cons_zero, List.set_cons_succ]
              refine Ph.take2 (i := 10) (d := some 13) rfl rfl (by kernel_rfl) (fun _ h => h) (fun _ _ _ h => h) rfl (v := ?vSQ10) (fun w' hw' => ?ySQ10) hS5 ?nSQ10
              case ySQ10 => (go_simp; try (with_reducible rfl))
              simp only [Act.put, List.setIfInBounds_toArray, List.set_cons_zero, List.set_cons_succ]
              refine Ph.take2 (i := 11) (d := some 14) rfl rfl (by kernel_rfl) (fun _ h => h) (fun _ _ _ h => h) rfl (v := ?vSQ11) (fun w' hw' => ?ySQ11) hS5 ?nSQ11
              case ySQ11 => (go_simp; try (with_reducible rfl))
              simp only [Act.put, List.setIfInBounds_toArray, List.set_cons_zero, List.set_cons_succ]
              refine Ph.done (by kernel_rfl) ?_ _
              clear hS5 hsh R3
              generalize x3.drew = x4 at *
              go_wp2_with fail
              refine (R3d.out.tp.seek (z >>> 2 &&& 255#64)).mono ?_
              rintro e x5 ⟨rfl, ht5, hg5⟩
              have R5 := Lib.hid (R3d.out.tape hkT hTB hkw hg5 ht5)
              clear ht5 hg5 R3d
              go_wp2_with fail
              refine (seek_any R5.out.sc z).mono ?_
              rintro e x6 ⟨rfl, ht6, hg6⟩
              have R6 := Lib.hid (R5.out.stream hkT hTB hkw hg6 ht6)
              clear ht6 hg6 R5
              go_wp2_with fail
              go_roundw
              case rel => exact ⟨k + 1, z >>> 2 &&& 255#64, z, by omega, by omega, by go_num, rfl, rfl, R6⟩
              case measure => simp [intOf]; omega
            · have hne : (u (z &&& 3#64) == 1) = false := by
                rw [beq_eq_false_iff_ne]
                exact fun e => hsk (u_inj64 (e.trans rfl))
              clear hsk
              generalize z &&& 3#64 = zz at *
              go_wp2_with fail
              go_roundw
              case rel => exact ⟨k + 1, av + 1#64, bv + 1#64, by omega, by omega, by go_num, rfl, rfl, R3⟩
              case measure => simp [intOf]; omega
          · have h4' : decide ((k : Int) < (n4 : Int)) = false := by simp; omega
            go_wp2_with fail
            go_roundw
            case rel => exact ⟨k + 1, av + 1#64, bv + 1#64, by omega, by omega, by go_num, rfl, rfl, R3⟩
            case measure => simp [intOf]; omega
      · have hlt2 : (k : Int) < (n3 : Int) → ¬ (k : Int) < 40 := fun h h' => hlt ⟨by omega, by omega⟩
        by_cases h3 : k < n3
        · have h3' : (k : Int) < (n3 : Int) := by omega
          have h40 : decide ((k : Int) < 40) = false := by simpa using hlt2 h3'
          clear hlt2
          go_wp2_with fail
          refine (awake4_any _).mono ?_
          rintro e w5 ⟨rfl, hb⟩
          have HB5 := Lib.hid (HR'.out.bl.trans (hb.mono HR'.out.bl.size))
          clear hb
          go_wp2_with fail
          go_ret
          exact ⟨rfl, HB5.out⟩
        · have h3' : decide ((k : Int) < (n3 : Int)) = false := by simp; omega
          clear hlt2
          go_wp2_with fail
          refine (awake4_any _).mono ?_
          rintro e w5 ⟨rfl, hb⟩
          have HB5 := Lib.hid (HR'.out.bl.trans (hb.mono HR'.out.bl.size))
          clear hb
          go_wp2_with fail
          go_ret
          exact ⟨rfl, HB5.out⟩
end Go.Proofs.Ytdkimnigckpncaa
