/-
  The walk of the law DrawWithin.
-/
import Derived.Test.YtdkimnigckpncaaL15
import Derived.Test.YtdkimnigckpncaaL13
namespace Go.Proofs.Ytdkimnigckpncaa
open Go.RowKit
namespace Ch
/-- The first k draws among P leaves. -/
def dl (key : List Y) (nx : L) (P : Nat) (k : Nat) : List Int := (List.range k).map fun j => msk (sp key (nx + BitVec.ofNat 64 j)) (P : Int)
theorem dl_length (key : List Y) (nx : L) (P k : Nat) : (dl key nx P k).length = k := by simp [dl]
theorem dl_succ (key : List Y) (nx : L) (P k : Nat) : dl key nx P (k + 1) = dl key nx P k ++ [msk (sp key (nx + BitVec.ofNat 64 k)) (P : Int)] := by
  simp [dl, List.range_succ]
theorem dl_get (key : List Y) (nx : L) (P k j : Nat) (h : j < k) : (dl key nx P k).getD j 0 = msk (sp key (nx + BitVec.ofNat 64 j)) (P : Int) := by
  simp [dl, List.getD_eq_getElem?_getD, h]
theorem msk_one (x : BitVec 32) : msk x 1 = 0 := by
  have h : lf 1 = true := by decide
  unfold msk
  rw [if_pos h]
  have : (1 : Int).toNat - 1 = 0 := rfl
  rw [this, Nat.and_zero]; rfl
end Ch
theorem add_inc (x : BitVec 64) (k : Nat) : x + BitVec.ofNat 64 k + 1#64 = x + BitVec.ofNat 64 (k + 1) := by rw [BitVec.add_assoc, ofNat_inc]
theorem add_nat (x : BitVec 64) (m : Nat) : IntKind.u64.wrap (u x + (m : Int)) = u (x + BitVec.ofNat 64 m) := by
  unfold u
  rw [BitVec.toNat_add, BitVec.toNat_ofNat, IntKind.wrap_u64]
  omega
theorem rix_grown {w w' : World} {r : Option Nat} {A : Option Addr} {l : List Int} (h : RIx w A l) (g : w.grownBy w' r) (hr : ∀ ad, A = some ad → r ≠ some ad.block) : RIx w' A l := by
  intro i hi
  obtain ⟨ad, e, hc⟩ := h i hi
  refine ⟨ad, e, g.cell hc ?_⟩
  have : (ad.add i).block = ad.block := by unfold Addr.add; split <;> rfl
  rw [this]
  exact fun e' => hr ad e e'.symm
theorem own_rix {W : World} {base n : Nat} {v : Value} {l : List Int} (h : W.ownsRow base 3 1 v n (l.map (Value.int .i64))) : ∃ A cap, v = .slice A n cap ∧ RIx W A l ∧ (∀ ad, A = some ad → base ≤ ad.block) ∧ (n = 0 ∨ ∃ ad, A = some ad) ∧ n ≤ cap := by
  have hl : l.length = n := by have := h.1; simpa using this
  have hc : ∀ {g : Nat}, v.ownBlock = some g → ∀ j u, (l.map (Value.int .i64))[j]? = some u → W.cell? ((⟨g, 0, none⟩ : Addr).add j) = some u := fun hg => h.cells hg
  rcases h.2 with ⟨rfl, h0⟩ | ⟨g, cap, cur, rfl, hb, _, hcap, _⟩
  · subst h0
    exact ⟨none, 0, rfl, fun i hi => absurd hi (by omega), (fun ad e => by cases e), Or.inl rfl, Nat.le_refl _⟩
  · refine ⟨_, cap, rfl, fun i hi => ⟨_, rfl, ?_⟩, (fun ad e => by cases e; exact hb), Or.inr ⟨_, rfl⟩, hcap⟩
    rw [hc rfl i (.int .i64 (l.getD i 0)) (by simp [hi])]

set_option maxRecDepth 100000 in
set_option maxHeartbeats 4000000 in
theorem dwithin_any (key : List (BitVec 8)) (hk : key.length = 32) (nx : BitVec 64) (bits_ n : Int) (w : World) :
    Calls Try.prog 17 #[.agg (c8 key), .int .u64 (u nx), .int .i64 bits_, .int .i64 n] w fun e w' => e = .returned (.bool true) ∧ Below w.heap.size w w' := by
  have HK := Lib.hid hk
  clear hk
  obtain ⟨k0, hk0, hkm⟩ := and_masked bits_ 255 (by omega)
  obtain ⟨m, hm31, hmm⟩ := and_masked n 31 (by omega)
  have e1 : ((255 : Nat) : Int) = 255 := rfl
  have e2 : ((31 : Nat) : Int) = 31 := rfl
  rw [e1] at hkm
  rw [e2] at hmm
  clear e1 e2
  have hpw := wrap_pow (k0 % 17) (by omega)
  have lp := pow_bd (k0 % 17) 16 (by omega)
  have hval : Hid (∀ x : BitVec 32, ∃ X : Nat, X < 2 ^ (k0 % 17) ∧ Ch.msk x ((2 ^ (k0 % 17) : Nat) : Int) = X) := fun x => ⟨_, Nat.mod_lt _ (by omega), Ch.msk_pow x (k0 % 17) (by omega)⟩
  generalize hP : 2 ^ (k0 % 17) = P at *
  have lp1 := lp.1
  have lp2 : P ≤ 65536 := lp.2
  clear lp hP
  have h3 : (Try.prog.info? 3).map (fun i => (i.zero, i.size, i.bytes)) = some (some (.int .i64 0), 1, 8) := by kernel_rfl
  obtain ⟨i0, hi, hz0, hz1, hz2⟩ := info_parts h3
  clear h3
  go_enter Try.func17, Try.ntmps17
  have HKy := heap_alloc_new w (.cells (c8 key) 31)
  go_wp2_with (refine wpList_load_row rfl 31 (.tmp 4) rfl w.heap.size rfl 31 (c8 key) (0, 0) _ HKy Try.underlying31 rfl (by rw [info31, c8_size, HK.out]) ?_)
  refine (stream_any key HK.out nx _).mono ?_
  rintro e w1 ⟨rfl, hs1, hb1⟩
  have HS := Lib.hid hs1
  have HB := Lib.hid (((Below.refl w.heap.size w).alloc (Nat.le_refl _) (.cells (c8 key) 31)).trans (hb1.mono (by simp)))
  have hz : w.heap.size ≤ (w.alloc (.cells (c8 key) 31)).heap.size := by simp
  obtain ⟨B, hB⟩ : ∃ B, B = (w.alloc (.cells (c8 key) 31)).heap.size + 1 := ⟨_, rfl⟩
  rw [← hB] at HS
  simp only [← hB]
  have hBw : w.heap.size ≤ B := by omega
  clear hs1 hb1 hB hz HKy
  go_wp2_with fail
  have HF : Hid (Sc w1 B (.slice none 0 0) true key (nx + BitVec.ofNat 64 0)) := by show Sc _ _ _ _ _ _; rw [BitVec.add_zero]; exact HS.out
  go_loopw [11, 12] (fun lv i wr => ∃ (k : Nat), k ≤ m ∧ i = .int .i64 k ∧ Hid (Sc wr B (.slice none 0 0) true key (nx + BitVec.ofNat 64 k)) ∧ wr.ownsRow (B + 1) 3 1 lv k ((Ch.dl key nx P k).map (Value.int .i64)) ∧ Hid (Below w.heap.size w wr)) (fun _ i _ => m - (intOf i).toNat)
  case atStart => exact ⟨0, by omega, rfl, HF, World.ownsRow_nil _ _ _ _, HB⟩
  case round =>
    obtain ⟨k, hk, rfl, HS', hown, HB'⟩ := hrel
    clear HS HF HB
    by_cases hlt : k < m
    · have hkm' : (k : Int) < (m : Int) := by omega
      obtain ⟨X, hX, hXe⟩ := hval.out (Ch.sp key (nx + BitVec.ofNat 64 k))
      have hXP : (X : Int) < (P : Int) := by omega
      have hXP2 : ¬ (P : Int) ≤ (X : Int) := by omega
      have HX := Lib.hid hXe
      have HO := Lib.hid hown
      clear hXe hown
      go_wp2_with fail
      refine (next_k HS'.out _).mono ?_
      rintro e w3 ⟨rfl, hs1, hg1⟩
      rw [HX.out]
      rw [add_inc] at hs1
      have hlB := HS'.out.lt
      have hBn : ∀ lvb, (some lvb : Option Nat) = some B → lvb = B := fun _ e => Option.some.inj e
      have hO1 := HO.out.kept hg1 (by
        cases hv : u11.ownBlock with
        | none => exact .inl rfl
        | some g => exact .inr (fun e => by have := (HO.out.lt g hv).1; have := Option.some.inj e; omega))
      have HS1 := Lib.hid hs1
      have HB1 := Lib.hid (HB'.out.grown hg1 HB'.out.size (fun k' hk' => by cases hk'; omega))
      clear hs1 hg1 HO HS' HB' hBn
      have hz3 := HS1.out.lt
      go_wp2_with (at_builtin; refine wpList_append_own _ rfl (.tmp 41) (.tmp 43) 57 rfl (B + 1) 3 i0 (.int .i64 0) 1 8 Try.underlying57 hi hz0 hz1 hz2 rfl (by decide) _ _ _ rfl (hO1.alloc _) ⟨w3.heap.size, 0, none⟩ 1 1 [.int .i64 (X : Int)] rfl rfl ?c1 ?c2 ?c3 ?c4 ?c5 ?_)
      case c1 =>
        intro j v hj
        match j, hj with
        | 0, hj => simp at hj; subst hj; simp [Addr.add]
      case c2 => intro v hv; simp at hv; subst hv; rfl
      case c3 => unfold maxLen; omega
      case c4 => omega
      case c5 => simp; omega
      · intro v' w4 hown' hgrow _
        have HB4 := Lib.hid ((HB1.out.alloc HB1.out.size (.cells #[.int .i64 (X : Int)] 3)).grown hgrow (by have := HB1.out.size; simp; omega) (fun g hg => by have := ((hO1.alloc (.cells #[.int .i64 (X : Int)] 3)).lt g hg).1; omega))
        have HS4 : Hid (Sc w4 B (.slice none 0 0) true key (nx + BitVec.ofNat 64 (k + 1))) := (HS1.out.old ((Below.refl _ _).alloc (Nat.le_refl _) _)).later hgrow (fun e => by have := ((hO1.alloc (.cells #[.int .i64 (X : Int)] 3)).lt B e).1; omega)
        have HO4 : Hid (w4.ownsRow (B + 1) 3 1 v' (k + 1) ((Ch.dl key nx P (k + 1)).map (Value.int .i64))) := by
          show World.ownsRow _ _ _ _ _ _ _
          rw [Ch.dl_succ, List.map_append, HX.out]
          exact hown'
        clear hown' hgrow hO1
        go_wp2_with fail
        go_roundw
        case rel => exact ⟨k + 1, by omega, by go_num, HS4, HO4.out, HB4⟩
        case measure => simp [intOf]; omega
    · have hkm' : k = m := by omega
      subst hkm'
      go_wp2_with fail
      refine (seek_any HS'.out nx).mono ?_
      rintro e w2 ⟨rfl, hs2, hg2⟩
      have hlB := HS'.out.lt
      have hO2 := hown.kept hg2 (by
        cases hv : u11.ownBlock with
        | none => exact .inl rfl
        | some g => exact .inr (fun e => by have := (hown.lt g hv).1; have := Option.some.inj e; omega))
      have HB2 := Lib.hid (HB'.out.grown hg2 HB'.out.size (fun k' hk' => by cases hk'; omega))
      have HS2 : Hid (Sc w2 B (.slice none 0 0) true key (nx + BitVec.ofNat 64 0)) := by show Sc _ _ _ _ _ _; rw [BitVec.add_zero]; exact hs2
      obtain ⟨A, cap, hv, hrx, hAb, hA0, hcap⟩ := own_rix hO2
      subst hv
      have HR := Lib.hid hrx
      have HA := Lib.hid hAb
      clear hown hs2 hg2 hO2 hrx hAb HS' HB'
      go_wp2_with fail
      go_loopw [14] (fun i wr => ∃ (j : Nat), j ≤ k ∧ i = .int .i64 j ∧ Hid (Sc wr B (.slice none 0 0) true key (nx + BitVec.ofNat 64 j)) ∧ Hid (RIx wr A (Ch.dl key nx P k)) ∧ Hid (Below w.heap.size w wr)) (fun i _ => k - (intOf i).toNat)
      case atStart => exact ⟨0, by omega, rfl, HS2, HR, HB2⟩
      case round =>
        obtain ⟨j, hj, rfl, HS', HR', HB'⟩ := hrel
        clear HS2 HR HB2
        by_cases hlt : j < k
        · have hjk : (j : Int) < (k : Int) := by omega
          obtain ⟨ad, rfl, hc⟩ := HR'.out j (by rw [Ch.dl_length]; exact hlt)
          rw [Ch.dl_get _ _ _ _ _ hlt] at hc
          obtain ⟨X, hX, hXe⟩ := hval.out (Ch.sp key (nx + BitVec.ofNat 64 j))
          rw [hXe] at hc
          have HX := Lib.hid hXe
          clear hXe
          have HAd := Lib.hid (HA.out ad rfl)
          go_wp2_with fail
          have hS : C1 (ad.add j) (.int .i64 (X : Int)) wr.drew := hc
          clear hc
          refine Ph.region 99 (C1 (ad.add j) (.int .i64 (X : Int))) (C1 (ad.add j) (.int .i64 (X : Int))) (by kernel_rfl) ?_
          refine Ph.take2 (i := 0) (d := some 54) rfl rfl (by kernel_rfl) (fun _ h => h) (fun _ _ _ h => h) rfl (v := ?vA0) (fun w' hw' => ?yA0) hS ?nA0
          case yA0 => (go_simp; try (with_reducible rfl))
          simp only [Act.put, List.setIfInBounds_toArray, List.set_cons_zero, List.set_cons_succ]
          refine Ph.take2 (i := 1) (d := some 55) rfl rfl (by kernel_rfl) (fun _ h => h) (fun _ _ _ h => h) rfl (v := ?vA1) (fun w' hw' => ?yA1) hS ?nA1
          case yA1 => (go_simp; try (with_reducible rfl))
          simp only [Act.put, List.setIfInBounds_toArray, List.set_cons_zero, List.set_cons_succ]
          refine Ph.take2 (i := 3) (d := some 57) rfl rfl (by kernel_rfl) (fun _ h => h) (fun _ _ _ h => h) rfl (v := ?vA3) (fun w' hw' => ?yA3) hS ?nA3
          case yA3 => (go_simp; try (with_reducible rfl))
          simp only [Act.put, List.setIfInBounds_toArray, List.set_cons_zero, List.set_cons_succ]
          refine Ph.take2 (i := 4) (d := some 58) rfl rfl (by kernel_rfl) (fun _ h => h) (fun _ _ _ h => h) rfl (v := ?vA4) (fun w' hw' => ?yA4) hS ?nA4
          case yA4 => (go_simp; try (with_reducible rfl))
          simp only [Act.put, List.setIfInBounds_toArray, List.set_cons_zero, List.set_cons_succ]
          refine Ph.take2 (i := 5) (d := some 59) rfl rfl (by kernel_rfl) (fun _ h => h) (fun _ _ _ h => h) rfl (v := ?vA5) (fun w' hw' => ?yA5) hS ?nA5
          case yA5 => (go_simp; try (with_reducible rfl))
          simp only [Act.put, List.setIfInBounds_toArray, List.set_cons_zero, List.set_cons_succ]
          refine Ph.take2 (i := 6) (d := some 60) rfl rfl (by kernel_rfl) (fun _ h => h) (fun _ _ _ h => h) rfl (v := ?vA6) (fun w' hw' => ?yA6) hS ?nA6
          case yA6 => (have q0 : w'.cell? (ad.add j) = _ := hw'; go_simp; try (with_reducible rfl))
          simp only [Act.put, List.setIfInBounds_toArray, List.set_cons_zero, List.set_cons_succ]
          refine Ph.only (i := 2) rfl (by kernel_rfl) rfl (fun K hK => ?_)
          go_simp
          have hSd : Sc wr.drew B (.slice none 0 0) true key (nx + BitVec.ofNat 64 j) := HS'.out.old (Below.refl _ wr).drew
          refine (next_k hSd _).mono ?_
          rintro e w3 ⟨rfl, hs1, hg1⟩
          rw [HX.out]
          rw [add_inc] at hs1
          have hwl := HB'.out.size
          have HB3 := Lib.hid ((HB'.out.drew).grown hg1 (by show _ ≤ wr.heap.size; exact hwl) (fun k' hk' => by cases hk'; omega))
          have HS3 := Lib.hid hs1
          have hR0 : RIx wr.drew (some ad) (Ch.dl key nx P k) := HR'.out
          have HR3 := Lib.hid (rix_grown hR0 hg1 (fun ad' e e' => by cases e; have := HAd.out; have := Option.some.inj e'; omega))
          have hS2 : C1 (ad.add j) (.int .i64 (X : Int)) w3 := by
            have hbk : (ad.add j).block = ad.block := by unfold Addr.add; split <;> rfl
            exact hg1.cell (w := wr.drew) hS (fun e => by rw [hbk] at e; have := HAd.out; have := Option.some.inj e; omega)
          refine hK _ _ hS2 ?_
          clear hK K hS hs1 hg1 hSd hR0 hwl
          try simp only [List.setIfInBounds_toArray, List.set_cons_zero, List.set_cons_succ]
          refine Ph.take2 (i := 7) (d := some 61) rfl rfl (by kernel_rfl) (fun _ h => h) (fun _ _ _ h => h) rfl (v := ?vA7) (fun w' hw' => ?yA7) hS2 ?nA7
          case yA7 => (go_simp; try (with_reducible rfl))
          simp only [Act.put, List.setIfInBounds_toArray, List.set_cons_zero, List.set_cons_succ]
          refine Ph.done (by kernel_rfl) ?_ _
          clear hS2 HS' HR' HB'
          go_wp2_with fail
          go_roundw
          case rel => exact ⟨j + 1, by omega, by go_num, HS3, HR3, HB3⟩
          case measure => simp [intOf]; omega
        · have hjk : j = k := by omega
          subst hjk
          have hcv : IntKind.u64.wrap (j : Int) = (j : Int) := by rw [IntKind.wrap_u64]; omega
          have hsum := add_nat nx j
          go_wp2_with fail
          refine (used_any HS'.out).mono ?_
          rintro e w5 ⟨rfl, rfl⟩
          go_wp2_with fail
          refine (next_k HS'.out 1).mono ?_
          rintro e w3 ⟨rfl, hs1, hg1⟩
          rw [Ch.msk_one]
          have HB3 := Lib.hid (HB'.out.grown hg1 HB'.out.size (fun k' hk' => by cases hk'; omega))
          clear hs1 hg1 HS' HR' HB' hsum
          go_wp2_with fail
          refine (awake4_any _).mono ?_
          rintro e w5 ⟨rfl, hb⟩
          have HB5 := Lib.hid (HB3.out.trans (hb.mono HB3.out.size))
          clear hb
          go_wp2_with fail
          go_ret
          exact ⟨rfl, HB5.out⟩
end Go.Proofs.Ytdkimnigckpncaa
