/-
  The walk of the law DrawTapes.
-/
import Derived.Test.YtdkimnigckpncaaA4
import Derived.Test.YtdkimnigckpncaaI
import Derived.Test.YtdkimnigckpncaaX3
namespace Go.Proofs.Ytdkimnigckpncaa
open Go.RowKit
theorem u_nat (k : Nat) (hk : k < 18446744073709551616) : u (BitVec.ofNat 64 k) = (k : Int) := by
  unfold u
  rw [BitVec.toNat_ofNat]
  omega
theorem ofNat_inc (k : Nat) : BitVec.ofNat 64 k + 1#64 = BitVec.ofNat 64 (k + 1) := (BitVec.ofNat_add k 1).symm
theorem Ch.msk_zero (n : Int) : Ch.msk 0#32 n = 0 := by
  unfold Ch.msk
  split
  · have : (0#32).toNat = 0 := rfl
    rw [this, Nat.zero_and]; rfl
  · rfl
theorem Ch.msk_all (x : BitVec 32) : Ch.msk x 65536 = u (x &&& 65535#32) := by
  have h : Ch.lf 65536 = true := by decide +kernel
  unfold Ch.msk u
  rw [if_pos h, BitVec.toNat_and]
  rfl
theorem Ch.tp_at (l : List (BitVec 32)) (k : Nat) (hk : k < 18446744073709551616) : Ch.tp l (BitVec.ofNat 64 k) = l.getD k 0#32 := by
  unfold Ch.tp
  rw [BitVec.toNat_ofNat, Nat.mod_eq_of_lt (by omega)]
theorem Ch.tp_out (l : List (BitVec 32)) (k : Nat) (hl : l.length ≤ k) (hk : k < 18446744073709551616) : Ch.tp l (BitVec.ofNat 64 k) = 0#32 := by
  rw [Ch.tp_at l k hk, List.getD_eq_getElem?_getD, List.getElem?_eq_none hl]
  rfl
/-- A number of a row can be read. -/
def C1 (ad : Addr) (v : Value) (w : World) : Prop := w.cell? ad = some v

set_option maxRecDepth 100000 in
set_option maxHeartbeats 4000000 in
theorem dtapes_any (A : Option Addr) (n cap : Nat) (l : List (BitVec 32)) (leaves : Int) (w : World) (h : IsW w A n cap l) :
    Calls Try.prog 13 #[.slice A n cap, .int .i64 leaves] w fun e w' => e = .returned (.bool true) ∧ Below w.heap.size w w' := by
  have HI := Lib.hid h
  clear h
  by_cases h2 : 200 < n
  · have h2' : (200 : Int) < (n : Int) := by omega
    go_enter Try.func13, Try.ntmps13
    go_wp2_with fail
    refine (awake4_any _).mono ?_
    rintro e w1 ⟨rfl, hb1⟩
    go_wp2_with fail
    go_ret
    exact ⟨rfl, hb1⟩
  · have h2' : ¬ (200 : Int) < (n : Int) := by omega
    have hn200 : n ≤ 200 := by omega
    clear h2
    go_enter Try.func13, Try.ntmps13
    go_wp2_with fail
    refine (tape_any A n cap l HI.out.len (by omega) w HI.out.rd).mono ?_
    rintro e w1 ⟨B, rfl, hB, hT, hb⟩
    have HT := Lib.hid hT
    have HB := Lib.hid hb
    clear hT hb h2'
    go_wp2_with fail
    go_loopw [6] (fun i wr => ∃ (k : Nat), k ≤ n ∧ i = .int .i64 k ∧ Hid (Tp wr B l (BitVec.ofNat 64 k)) ∧ Hid (Below w.heap.size w wr)) (fun i _ => n - (intOf i).toNat)
    case atStart => exact ⟨0, by omega, rfl, HT, HB⟩
    case round =>
      obtain ⟨k, hk, rfl, HT', HB'⟩ := hrel
      clear HT HB
      have HT := HT'; have HB := HB'
      clear HT' HB'
      by_cases hlt : k < n
      · have hkn : (k : Int) < (n : Int) := by omega
        obtain ⟨ad, rfl, hc0⟩ := HI.out.rd k (by rw [HI.out.len]; exact hlt)
        have hadw : (ad.add k).block < w.heap.size := World.block_lt_of_cell? w _ hc0
        have hc := (HB.out.cell hadw).trans hc0
        have HNE : Hid ((ad.add k).block ≠ B) := by show _ ≠ _; omega
        clear hc0
        have hx := Lib.hid (Ch.tp_at l k (by omega))
        have hm := Lib.hid (Ch.msk_all (l.getD k 0#32))
        have hand := b_and32 (l.getD k 0#32) 65535#32
        have u7 : u 65535#32 = 65535 := rfl
        rw [u7] at hand
        clear u7
        have hcv := conv_u32 (l.getD k 0#32 &&& 65535#32)
        generalize l.getD k 0#32 = x at *
        go_wp2_with fail
        have hS : C1 (ad.add k) (.int .u32 (u x)) wr.drew := hc
        clear hc
        refine Ph.region 99 (C1 (ad.add k) (.int .u32 (u x))) (C1 (ad.add k) (.int .u32 (u x))) (by kernel_rfl) ?_
        refine Ph.take2 (i := 0) (d := some 23) rfl rfl (by kernel_rfl) (fun _ h => h) (fun _ _ _ h => h) rfl (v := ?vA0) (fun w' hw' => ?yA0) hS ?nA0
        case yA0 => (go_simp; try (with_reducible rfl))
        simp only [Act.put, List.setIfInBounds_toArray, List.set_cons_zero, List.set_cons_succ]
        refine Ph.take2 (i := 2) (d := some 25) rfl rfl (by kernel_rfl) (fun _ h => h) (fun _ _ _ h => h) rfl (v := ?vA2) (fun w' hw' => ?yA2) hS ?nA2
        case yA2 => (go_simp; try (with_reducible rfl))
        simp only [Act.put, List.setIfInBounds_toArray, List.set_cons_zero, List.set_cons_succ]
        refine Ph.take2 (i := 3) (d := some 26) rfl rfl (by kernel_rfl) (fun _ h => h) (fun _ _ _ h => h) rfl (v := ?vA3) (fun w' hw' => ?yA3) hS ?nA3
        case yA3 => (go_simp; try (with_reducible rfl))
        simp only [Act.put, List.setIfInBounds_toArray, List.set_cons_zero, List.set_cons_succ]
        refine Ph.take2 (i := 4) (d := some 27) rfl rfl (by kernel_rfl) (fun _ h => h) (fun _ _ _ h => h) rfl (v := ?vA4) (fun w' hw' => ?yA4) hS ?nA4
        case yA4 => (go_simp; try (with_reducible rfl))
        simp only [Act.put, List.setIfInBounds_toArray, List.set_cons_zero, List.set_cons_succ]
        refine Ph.take2 (i := 5) (d := some 28) rfl rfl (by kernel_rfl) (fun _ h => h) (fun _ _ _ h => h) rfl (v := ?vA5) (fun w' hw' => ?yA5) hS ?nA5
        case yA5 => (have q0 : w'.cell? (ad.add k) = _ := hw'; go_simp; try (with_reducible rfl))
        simp only [Act.put, List.setIfInBounds_toArray, List.set_cons_zero, List.set_cons_succ]
        refine Ph.take2 (i := 6) (d := some 29) rfl rfl (by kernel_rfl) (fun _ h => h) (fun _ _ _ h => h) rfl (v := ?vA6) (fun w' hw' => ?yA6) hS ?nA6
        case yA6 => (go_simp; try (with_reducible rfl))
        simp only [Act.put, List.setIfInBounds_toArray, List.set_cons_zero, List.set_cons_succ]
        refine Ph.take2 (i := 7) (d := some 30) rfl rfl (by kernel_rfl) (fun _ h => h) (fun _ _ _ h => h) rfl (v := ?vA7) (fun w' hw' => ?yA7) hS ?nA7
        case yA7 => (go_simp; try (with_reducible rfl))
        simp only [Act.put, List.setIfInBounds_toArray, List.set_cons_zero, List.set_cons_succ]
        refine Ph.only (i := 1) rfl (by kernel_rfl) rfl (fun K hK => ?_)
        go_simp
        refine ((HT.out.later (grown_of (Below.refl wr.heap.size wr).drew none) (fun _ e => by cases e)).next 65536).mono ?_
        rintro e w2 ⟨rfl, hT2, hg⟩
        rw [hx.out, hm.out]
        have hlB := HT.out.lt
        have hwl : w.heap.size ≤ wr.heap.size := HB.out.size
        have HB2 := Lib.hid ((HB.out.drew).grown hg (by show _ ≤ wr.heap.size; omega) (fun k' hk' => by cases hk'; omega))
        have hT2' := hT2
        rw [ofNat_inc] at hT2'
        have HT2 := Lib.hid hT2'
        have hS2 : C1 (ad.add k) (.int .u32 (u x)) w2 := by
          have hadl : (ad.add k).block < wr.heap.size := World.block_lt_of_cell? wr _ hS
          exact hg.cell (w := wr.drew) hS (fun e => HNE.out (Option.some.inj e))
        refine hK _ _ hS2 ?_
        clear hK K hS hT2 hT2' hg
        try simp only [List.setIfInBounds_toArray, List.set_cons_zero, List.set_cons_succ]
        refine Ph.take2 (i := 8) (d := some 31) rfl rfl (by kernel_rfl) (fun _ h => h) (fun _ _ _ h => h) rfl (v := ?vA8) (fun w' hw' => ?yA8) hS2 ?nA8
        case yA8 => (go_simp; try (with_reducible rfl))
        simp only [Act.put, List.setIfInBounds_toArray, List.set_cons_zero, List.set_cons_succ]
        refine Ph.done (by kernel_rfl) ?_ _
        clear hS2 HT HB
        go_wp2_with fail
        go_roundw
        case rel => exact ⟨k + 1, by omega, by go_num, HT2, HB2⟩
        case measure => simp [intOf]; omega
      · have hkn : k = n := by omega
        subst hkn
        have z0 := Lib.hid (Ch.tp_out l k (by rw [HI.out.len]; omega) (by omega))
        have z1 := Lib.hid (Ch.tp_out l (k + 1) (by rw [HI.out.len]; omega) (by omega))
        have z2 := Lib.hid (Ch.tp_out l (k + 2) (by rw [HI.out.len]; omega) (by omega))
        have hcv : IntKind.u64.wrap (k : Int) = (k : Int) := by rw [IntKind.wrap_u64]; omega
        have hw2 : IntKind.u64.wrap ((k : Int) + 2) = (k : Int) + 2 := by rw [IntKind.wrap_u64]; omega
        have hw3 : IntKind.u64.wrap ((k : Int) + 3) = (k : Int) + 3 := by rw [IntKind.wrap_u64]; omega
        go_wp2_with fail
        refine (HT.out.next 65536).mono ?_
        rintro e w2 ⟨rfl, hT2, hg⟩
        rw [z0.out, Ch.msk_zero]
        rw [ofNat_inc] at hT2
        have HT2 := Lib.hid hT2
        have HB2 := Lib.hid (HB.out.grown hg HB.out.size (fun k' hk' => by cases hk'; omega))
        clear hT2 hg HT HB
        go_wp2_with fail
        refine (leaves_any _ _).mono ?_
        rintro e w3 ⟨rfl, rfl⟩
        by_cases hl : Ch.lf leaves = true
        · have l1 := Ch.lf_lo hl
          have l2 := Ch.lf_hi hl
          rw [hl]
          clear hl
          go_wp2_with fail
          refine (HT2.out.next leaves).mono ?_
          rintro e w3 ⟨rfl, hT3, hg⟩
          rw [z1.out, Ch.msk_zero]
          rw [ofNat_inc] at hT3
          have HT3 := Lib.hid hT3
          have HB3 := Lib.hid (HB2.out.grown hg HB2.out.size (fun k' hk' => by cases hk'; omega))
          clear hT3 hg HT2 HB2
          go_wp2_with fail
          refine (HT3.out.next _).mono ?_
          rintro e w4 ⟨rfl, hT4, hg⟩
          rw [z2.out, Ch.msk_zero]
          rw [ofNat_inc] at hT4
          have HT4 := Lib.hid hT4
          have HB4 := Lib.hid (HB3.out.grown hg HB3.out.size (fun k' hk' => by cases hk'; omega))
          clear hT4 hg HT3 HB3
          go_wp2_with fail
          refine HT4.out.used.mono ?_
          rintro e w5 ⟨rfl, rfl⟩
          rw [u_nat _ (by omega)]
          have e3 : ((k + 1 + 1 + 1 : Nat) : Int) = (k : Int) + 3 := by omega
          rw [e3]
          clear e3
          go_wp2_with fail
          refine (awake4_any _).mono ?_
          rintro e w5 ⟨rfl, hb⟩
          have HB5 := Lib.hid (HB4.out.trans (hb.mono HB4.out.size))
          clear hb
          go_wp2_with fail
          go_ret
          exact ⟨rfl, HB5.out⟩
        · have hl0 : Ch.lf leaves = false := by simpa using hl
          rw [hl0]
          clear hl hl0
          go_wp2_with fail
          refine (HT2.out.next leaves).mono ?_
          rintro e w3 ⟨rfl, hT3, hg⟩
          rw [z1.out, Ch.msk_zero]
          rw [ofNat_inc] at hT3
          have HT3 := Lib.hid hT3
          have HB3 := Lib.hid (HB2.out.grown hg HB2.out.size (fun k' hk' => by cases hk'; omega))
          clear hT3 hg HT2 HB2
          go_wp2_with fail
          refine HT3.out.used.mono ?_
          rintro e w5 ⟨rfl, rfl⟩
          rw [u_nat _ (by omega)]
          have e3 : ((k + 1 + 1 : Nat) : Int) = (k : Int) + 2 := by omega
          rw [e3]
          clear e3
          go_wp2_with fail
          refine (awake4_any _).mono ?_
          rintro e w5 ⟨rfl, hb⟩
          have HB5 := Lib.hid (HB3.out.trans (hb.mono HB3.out.size))
          clear hb
          go_wp2_with fail
          go_ret
          exact ⟨rfl, HB5.out⟩
end Go.Proofs.Ytdkimnigckpncaa
