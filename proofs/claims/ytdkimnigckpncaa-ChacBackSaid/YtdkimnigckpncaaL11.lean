/-
  The walk of the law ChacBack.
-/
import Derived.Test.YtdkimnigckpncaaX4
import Derived.Test.YtdkimnigckpncaaL8a
namespace Go.Proofs.Ytdkimnigckpncaa
open Go.RowKit
namespace Ch
open Qu (W wd dbl)
theorem xor_xor (key nonce : List Y) (c : W) (l : List Y) : xor key nonce c (xor key nonce c l) = l := by
  apply List.ext_getElem
  · simp [xor]
  · intro i h1 h2
    simp only [xor, List.getElem_mapIdx]
    rw [BitVec.xor_assoc, BitVec.xor_self, BitVec.xor_zero]
theorem xor_take (key nonce : List Y) (c : W) (l : List Y) (k : Nat) : xor key nonce c (l.take k) = (xor key nonce c l).take k := by
  apply List.ext_getElem
  · simp [xor]
  · intro i h1 h2
    simp [xor]
theorem stream_on (key nonce : List Y) (c : W) (m i : Nat) : stream key nonce (c + BitVec.ofNat 32 m) i = stream key nonce c (64 * m + i) := by
  unfold stream
  rw [BitVec.add_assoc, ← BitVec.ofNat_add, (by omega : (64 * m + i) / 64 = m + i / 64), (by omega : (64 * m + i) % 64 = i % 64)]
theorem xor_drop (key nonce : List Y) (c : W) (l : List Y) (m : Nat) : xor key nonce (c + BitVec.ofNat 32 m) (l.drop (64 * m)) = (xor key nonce c l).drop (64 * m) := by
  apply List.ext_getElem
  · simp [xor]
  · intro i h1 h2
    simp only [xor, List.getElem_mapIdx, List.getElem_drop]
    rw [stream_on]
theorem room_mid (c : W) (n m : Nat) (h : c.toNat ≤ 16777215) (hn : n ≤ 700) (hm : m ≤ 700) : room (c + BitVec.ofNat 32 m) n = true := by
  have e : (c + BitVec.ofNat 32 m).toNat ≤ 16777215 + 700 := by
    rw [BitVec.toNat_add, BitVec.toNat_ofNat]
    refine Nat.le_trans (Nat.mod_le _ _) ?_
    have := Nat.mod_le m (2 ^ 32)
    omega
  generalize c + BitVec.ofNat 32 m = d at *
  unfold room
  exact decide_eq_true (by omega)
end Ch
theorem low24 (c : BitVec 32) : (c &&& 16777215#32).toNat ≤ 16777215 := by rw [BitVec.toNat_and]; exact Nat.and_le_right
theorem add32_nat (x : BitVec 32) (m : Nat) : IntKind.u32.wrap (u x + (m : Int)) = u (x + BitVec.ofNat 32 m) := by
  unfold u
  rw [BitVec.toNat_add, BitVec.toNat_ofNat, IntKind.wrap_u32]
  omega

/-- The rows at the end. -/
structure S5 (w : World) (key nonce : List (BitVec 8)) (n k m : Nat) (Ax Ay Az Av A3 : Option Addr) (cx cy cz cv c3 : Nat) (xs l : List (BitVec 8)) (X : World) : Prop where
  xl : Xl w key nonce X
  x : IsB X Ax n cx xs
  y : IsB X Ay n cy l
  z : IsB X Az k cz (xs.take k)
  v : IsB X Av (n - 64 * m) cv (xs.drop (64 * m))
  b : IsB X A3 n c3 l
theorem S5.later {w X Y : World} {key nonce : List (BitVec 8)} {n k m : Nat} {Ax Ay Az Av A3 : Option Addr} {cx cy cz cv c3 : Nat} {xs l : List (BitVec 8)} (h : S5 w key nonce n k m Ax Ay Az Av A3 cx cy cz cv c3 xs l X) (hb : Below X.heap.size X Y) :
    S5 w key nonce n k m Ax Ay Az Av A3 cx cy cz cv c3 xs l Y := ⟨h.xl.later hb, h.x.later hb, h.y.later hb, h.z.later hb, h.v.later hb, h.b.later hb⟩

set_option maxRecDepth 100000 in
set_option maxHeartbeats 8000000 in
theorem cback_any (key nonce : List (BitVec 8)) (hk : key.length = 32) (hn : nonce.length = 12) (c0 : BitVec 32) (A3 : Option Addr) (n cap3 : Nat) (l : List (BitVec 8)) (at_ : Int) (w : World) (h3 : IsB w A3 n cap3 l) :
    Calls Try.prog 11 #[.agg (c8 key), .agg (c8 nonce), .int .u32 (u c0), .slice A3 n cap3, .int .i64 at_] w fun e w' => e = .returned (.bool true) ∧ Below w.heap.size w w' := by
  have HK := Lib.hid hk; have HN := Lib.hid hn; have H3 := Lib.hid h3
  clear hk hn h3
  by_cases h7 : (700 : Int) < (n : Int)
  · go_enter Try.func11, Try.ntmps11
    go_wp2_with fail
    have hb0 : Below w.heap.size w ((w.alloc (.cells (c8 key) 31)).alloc (.cells (c8 nonce) 35)) := ((Below.refl _ _).alloc (Nat.le_refl _) _).alloc (by simp) _
    refine (awake3_any _).mono ?_
    rintro e w1 ⟨rfl, hb1⟩
    go_wp2_with fail
    go_ret
    exact ⟨rfl, hb0.trans (hb1.mono (by simp; omega))⟩
  · have hn7 : n ≤ 700 := by omega
    have h3c : n ≤ cap3 := H3.out.cp
    obtain ⟨k0, hk0, hkm⟩ := and_masked at_ 65535 (by omega)
    obtain ⟨m0, hm0, hmm⟩ := and_masked at_ 255 (by omega)
    have e1 : ((65535 : Nat) : Int) = 65535 := rfl
    have e2 : ((255 : Nat) : Int) = 255 := rfl
    rw [e1] at hkm
    rw [e2] at hmm
    clear e1 e2
    have e7 := b_and32 c0 16777215#32
    have u7 : u 16777215#32 = 16777215 := rfl
    rw [u7] at e7
    clear u7
    have hlow := low24 c0
    generalize c0 &&& 16777215#32 = c at *
    obtain ⟨k, hk⟩ : ∃ k, k = k0 % (n + 1) := ⟨_, rfl⟩
    obtain ⟨m, hm⟩ : ∃ m, m = m0 % (n / 64 + 1) := ⟨_, rfl⟩
    have hkn : k ≤ n := by have := Nat.mod_lt k0 (by omega : 0 < n + 1); omega
    have hmn : 64 * m ≤ n := by have := Nat.mod_lt m0 (by omega : 0 < n / 64 + 1); omega
    have hkI : (k0 : Int) % ((n : Int) + 1) = (k : Int) := by
      rw [hk]
      have e : ((n + 1 : Nat) : Int) = (n : Int) + 1 := by omega
      rw [← e]; exact (Int.natCast_emod _ _).symm
    have hmI : (m0 : Int) % ((n : Int) / 64 + 1) = (m : Int) := by
      rw [hm]
      have e : ((n / 64 + 1 : Nat) : Int) = (n : Int) / 64 + 1 := by omega
      rw [← e]; exact (Int.natCast_emod _ _).symm
    have HR := Lib.hid (Ch.room_mid c n 0 hlow hn7 (by omega))
    have HRk := Lib.hid (Ch.room_mid c k 0 hlow (by omega) (by omega))
    have HRm := Lib.hid (Ch.room_mid c (n - 64 * m) m hlow (by omega) (by omega))
    rw [BitVec.add_zero] at HR HRk
    have hadd := add32_nat c m
    have hcv : IntKind.u32.wrap (m : Int) = (m : Int) := by rw [IntKind.wrap_u32]; omega
    have hm64 : IntKind.i64.wrap (64 * (m : Int)) = 64 * (m : Int) := by rw [IntKind.wrap_i64]; omega
    have hs3 := fun W => cut_h (A := A3) (n := n) (cap := cap3) k (by omega) (k : Int) rfl W
    have ht3 := fun W => cut_l (A := A3) (n := n) (cap := cap3) (64 * m) hmn (64 * (m : Int)) (by omega) W
    have EX := Lib.hid (Ch.xor_xor key nonce c l)
    have ET := Lib.hid (Ch.xor_take key nonce c l k)
    have ED := Lib.hid (Ch.xor_drop key nonce c l m)
    clear hk hm hlow
    have HX := Lib.hid (Xl.new w key nonce)
    have HI := Lib.hid (H3.out.later HX.out.bl)
    clear H3
    go_enter Try.func11, Try.ntmps11
    go_wp2_with (first | (refine wpList_load_row rfl 31 (.tmp 5) rfl w.heap.size rfl 31 (c8 key) (0, 0) _ HX.out.ky Try.underlying31 rfl (by rw [info31, c8_size, HK.out]) ?_) | (refine wpList_load_row rfl 35 (.tmp 6) rfl (w.heap.size + 1) rfl 35 (c8 nonce) (0, 0) _ HX.out.no Try.underlying35 rfl (by rw [info35, c8_size, HN.out]) ?_))
    refine (xor_in key nonce HK.out HN.out _ HI.out (by omega) HR.out).mono ?_
    rintro e w1 ⟨hb1, Ax, cx, rfl, hIx⟩
    have HX1 := Lib.hid (HX.out.later hb1)
    have HI1 := Lib.hid (HI.out.later hb1)
    have HIx := Lib.hid hIx
    clear HX HI hIx hb1
    go_wp2_with (first | (refine wpList_load_row rfl 31 (.tmp 5) rfl w.heap.size rfl 31 (c8 key) (0, 0) _ HX1.out.ky Try.underlying31 rfl (by rw [info31, c8_size, HK.out]) ?_) | (refine wpList_load_row rfl 35 (.tmp 6) rfl (w.heap.size + 1) rfl 35 (c8 nonce) (0, 0) _ HX1.out.no Try.underlying35 rfl (by rw [info35, c8_size, HN.out]) ?_))
    refine (xor_in key nonce HK.out HN.out _ HIx.out (by omega) HR.out).mono ?_
    rintro e w2 ⟨hb2, Ay, cy, rfl, hIy⟩
    rw [EX.out] at hIy
    have HX2 := Lib.hid (HX1.out.later hb2)
    have HI2 := Lib.hid (HI1.out.later hb2)
    have HIx2 := Lib.hid (HIx.out.later hb2)
    have HIy := Lib.hid hIy
    clear HX1 HI1 HIx hIy hb2
    go_wp2_with fail
    rw [hkI]
    have hS := HX2.out.drew.kn
    refine Ph.region 99 (Kn w key nonce) (Kn w key nonce) (by kernel_rfl) ?_
    have hdr := (Below.refl w2.heap.size w2).drew
    have HXd := Lib.hid (HX2.out.drew)
    have HId := Lib.hid (HI2.out.later hdr)
    have HIxd := Lib.hid (HIx2.out.later hdr)
    have HIyd := Lib.hid (HIy.out.later hdr)
    clear HX2 HI2 HIx2 HIy hdr
    generalize w2.drew = w3 at *
    refine Ph.take2 (i := 0) (d := some 50) rfl rfl (by kernel_rfl) (fun _ h => h) (fun _ _ _ h => h) rfl (v := .agg (c8 key)) (fun w' hw' => yield_load_row 31 (.tmp 5) rfl w.heap.size rfl 31 (c8 key) (0, 0) _ hw'.1 Try.underlying31 rfl (by rw [info31, c8_size, HK.out])) hS ?nA0
    simp only [Act.put, List.setIfInBounds_toArray, List.set_cons_zero, List.set_cons_succ]
    refine Ph.take2 (i := 1) (d := some 51) rfl rfl (by kernel_rfl) (fun _ h => h) (fun _ _ _ h => h) rfl (v := .agg (c8 nonce)) (fun w' hw' => yield_load_row 35 (.tmp 6) rfl (w.heap.size + 1) rfl 35 (c8 nonce) (0, 0) _ hw'.2 Try.underlying35 rfl (by rw [info35, c8_size, HN.out])) hS ?nA1
    simp only [Act.put, List.setIfInBounds_toArray, List.set_cons_zero, List.set_cons_succ]
    refine Ph.take2 (i := 2) (d := some 52) rfl rfl (by kernel_rfl) (fun _ h => h) (fun _ _ _ h => h) rfl (v := ?vA2) (fun w' hw' => ?yA2) hS ?nA2
    case yA2 => (go_simp; try (with_reducible rfl))
    simp only [Act.put, List.setIfInBounds_toArray, List.set_cons_zero, List.set_cons_succ]
    refine Ph.take2 (i := 3) (d := some 53) rfl rfl (by kernel_rfl) (fun _ h => h) (fun _ _ _ h => h) rfl (v := ?vA3) (fun w' hw' => ?yA3) hS ?nA3
    case yA3 => (go_simp; try (with_reducible rfl))
    simp only [Act.put, List.setIfInBounds_toArray, List.set_cons_zero, List.set_cons_succ]
    refine Ph.take2 (i := 4) (d := some 54) rfl rfl (by kernel_rfl) (fun _ h => h) (fun _ _ _ h => h) rfl (v := ?vA4) (fun w' hw' => ?yA4) hS ?nA4
    case yA4 => (go_simp; try (with_reducible rfl))
    simp only [Act.put, List.setIfInBounds_toArray, List.set_cons_zero, List.set_cons_succ]
    refine Ph.take2 (i := 5) (d := some 55) rfl rfl (by kernel_rfl) (fun _ h => h) (fun _ _ _ h => h) rfl (v := ?vA5) (fun w' hw' => ?yA5) hS ?nA5
    case yA5 => (go_simp; try (with_reducible rfl))
    simp only [Act.put, List.setIfInBounds_toArray, List.set_cons_zero, List.set_cons_succ]
    refine Ph.only (i := 6) rfl (by kernel_rfl) rfl (fun K hK => ?_)
    go_simp
    refine (xor_in key nonce HK.out HN.out _ (HId.out.head k hkn) (by omega) HRk.out).mono ?_
    rintro e w4 ⟨hb4, Az, cz, rfl, hIz⟩
    rw [ET.out] at hIz
    have HX4 := Lib.hid (HXd.out.later hb4)
    have HI4 := Lib.hid (HId.out.later hb4)
    have HIx4 := Lib.hid (HIxd.out.later hb4)
    have HIy4 := Lib.hid (HIyd.out.later hb4)
    have HIz := Lib.hid hIz
    have hS4 := HX4.out.kn
    refine hK _ _ hS4 ?_
    clear hK K hS HXd HId HIxd HIyd hIz hb4
    try simp only [List.setIfInBounds_toArray, List.set_cons_zero, List.set_cons_succ]
    refine Ph.take2 (i := 7) (d := some 49) rfl rfl (by kernel_rfl) (fun _ h => h) (fun _ _ _ h => h) rfl (v := ?vA7) (fun w' hw' => ?yA7) hS4 ?nA7
    case yA7 => (go_simp; try (with_reducible rfl))
    simp only [Act.put, List.setIfInBounds_toArray, List.set_cons_zero, List.set_cons_succ]
    refine Ph.take2 (i := 8) (d := some 57) rfl rfl (by kernel_rfl) (fun _ h => h) (fun _ _ _ h => h) rfl (v := ?vA8) (fun w' hw' => ?yA8) hS4 ?nA8
    case yA8 => (go_simp; try (with_reducible rfl))
    simp only [Act.put, List.setIfInBounds_toArray, List.set_cons_zero, List.set_cons_succ]
    refine Ph.take2 (i := 9) (d := some 58) rfl rfl (by kernel_rfl) (fun _ h => h) (fun _ _ _ h => h) rfl (v := ?vA9) (fun w' hw' => ?yA9) hS4 ?nA9
    case yA9 => (go_simp; try (with_reducible rfl))
    simp only [Act.put, List.setIfInBounds_toArray, List.set_cons_zero, List.set_cons_succ]
    refine Ph.take2 (i := 10) (d := some 16) rfl rfl (by kernel_rfl) (fun _ h => h) (fun _ _ _ h => h) rfl (v := ?vA10) (fun w' hw' => ?yA10) hS4 ?nA10
    case yA10 => (go_simp; try (with_reducible rfl))
    simp only [Act.put, List.setIfInBounds_toArray, List.set_cons_zero, List.set_cons_succ]
    refine Ph.take2 (i := 11) (d := some 17) rfl rfl (by kernel_rfl) (fun _ h => h) (fun _ _ _ h => h) rfl (v := ?vA11) (fun w' hw' => ?yA11) hS4 ?nA11
    case yA11 => (go_simp; try (with_reducible rfl))
    simp only [Act.put, List.setIfInBounds_toArray, List.set_cons_zero, List.set_cons_succ]
    refine Ph.done (by kernel_rfl) ?_ _
    clear hS4
    go_wp2_with fail
    rw [hmI]
    have hS := HX4.out.drew.kn
    refine Ph.region 99 (Kn w key nonce) (Kn w key nonce) (by kernel_rfl) ?_
    have hdr := (Below.refl w4.heap.size w4).drew
    have HXd := Lib.hid (HX4.out.drew)
    have HId := Lib.hid (HI4.out.later hdr)
    have HIxd := Lib.hid (HIx4.out.later hdr)
    have HIyd := Lib.hid (HIy4.out.later hdr)
    have HIzd := Lib.hid (HIz.out.later hdr)
    clear HX4 HI4 HIx4 HIy4 HIz hdr
    generalize w4.drew = w5 at *
    refine Ph.take2 (i := 0) (d := some 67) rfl rfl (by kernel_rfl) (fun _ h => h) (fun _ _ _ h => h) rfl (v := .agg (c8 key)) (fun w' hw' => yield_load_row 31 (.tmp 5) rfl w.heap.size rfl 31 (c8 key) (0, 0) _ hw'.1 Try.underlying31 rfl (by rw [info31, c8_size, HK.out])) hS ?nB0
    simp only [Act.put, List.setIfInBounds_toArray, List.set_cons_zero, List.set_cons_succ]
    refine Ph.take2 (i := 1) (d := some 68) rfl rfl (by kernel_rfl) (fun _ h => h) (fun _ _ _ h => h) rfl (v := .agg (c8 nonce)) (fun w' hw' => yield_load_row 35 (.tmp 6) rfl (w.heap.size + 1) rfl 35 (c8 nonce) (0, 0) _ hw'.2 Try.underlying35 rfl (by rw [info35, c8_size, HN.out])) hS ?nB1
    simp only [Act.put, List.setIfInBounds_toArray, List.set_cons_zero, List.set_cons_succ]
    refine Ph.take2 (i := 2) (d := some 69) rfl rfl (by kernel_rfl) (fun _ h => h) (fun _ _ _ h => h) rfl (v := ?vB2) (fun w' hw' => ?yB2) hS ?nB2
    case yB2 => (go_simp; try (with_reducible rfl))
    simp only [Act.put, List.setIfInBounds_toArray, List.set_cons_zero, List.set_cons_succ]
    refine Ph.take2 (i := 3) (d := some 70) rfl rfl (by kernel_rfl) (fun _ h => h) (fun _ _ _ h => h) rfl (v := ?vB3) (fun w' hw' => ?yB3) hS ?nB3
    case yB3 => (go_simp; try (with_reducible rfl))
    simp only [Act.put, List.setIfInBounds_toArray, List.set_cons_zero, List.set_cons_succ]
    refine Ph.take2 (i := 4) (d := some 71) rfl rfl (by kernel_rfl) (fun _ h => h) (fun _ _ _ h => h) rfl (v := ?vB4) (fun w' hw' => ?yB4) hS ?nB4
    case yB4 => (go_simp; try (with_reducible rfl))
    simp only [Act.put, List.setIfInBounds_toArray, List.set_cons_zero, List.set_cons_succ]
    refine Ph.take2 (i := 5) (d := some 72) rfl rfl (by kernel_rfl) (fun _ h => h) (fun _ _ _ h => h) rfl (v := ?vB5) (fun w' hw' => ?yB5) hS ?nB5
    case yB5 => (go_simp; try (with_reducible rfl))
    simp only [Act.put, List.setIfInBounds_toArray, List.set_cons_zero, List.set_cons_succ]
    refine Ph.take2 (i := 6) (d := some 73) rfl rfl (by kernel_rfl) (fun _ h => h) (fun _ _ _ h => h) rfl (v := ?vB6) (fun w' hw' => ?yB6) hS ?nB6
    case yB6 => (go_simp; try (with_reducible rfl))
    simp only [Act.put, List.setIfInBounds_toArray, List.set_cons_zero, List.set_cons_succ]
    refine Ph.take2 (i := 7) (d := some 74) rfl rfl (by kernel_rfl) (fun _ h => h) (fun _ _ _ h => h) rfl (v := ?vB7) (fun w' hw' => ?yB7) hS ?nB7
    case yB7 => (go_simp; try (with_reducible rfl))
    simp only [Act.put, List.setIfInBounds_toArray, List.set_cons_zero, List.set_cons_succ]
    refine Ph.take2 (i := 8) (d := some 75) rfl rfl (by kernel_rfl) (fun _ h => h) (fun _ _ _ h => h) rfl (v := ?vB8) (fun w' hw' => ?yB8) hS ?nB8
    case yB8 => (go_simp; try (with_reducible rfl))
    simp only [Act.put, List.setIfInBounds_toArray, List.set_cons_zero, List.set_cons_succ]
    refine Ph.take2 (i := 9) (d := some 76) rfl rfl (by kernel_rfl) (fun _ h => h) (fun _ _ _ h => h) rfl (v := ?vB9) (fun w' hw' => ?yB9) hS ?nB9
    case yB9 => (go_simp; try (with_reducible rfl))
    simp only [Act.put, List.setIfInBounds_toArray, List.set_cons_zero, List.set_cons_succ]
    refine Ph.only (i := 10) rfl (by kernel_rfl) rfl (fun K hK => ?_)
    go_simp
    refine (xor_in key nonce HK.out HN.out _ (HId.out.tail (64 * m) hmn) (by omega) HRm.out).mono ?_
    rintro e w6 ⟨hb6, Av, cv, rfl, hIv⟩
    rw [ED.out] at hIv
    have HV : Hid (S5 w key nonce n k m Ax Ay Az Av A3 cx cy cz cv cap3 (Ch.xor key nonce c l) l w6) :=
      ⟨HXd.out.later hb6, HIxd.out.later hb6, HIyd.out.later hb6, HIzd.out.later hb6, hIv, HId.out.later hb6⟩
    have hS6 := HV.out.xl.kn
    refine hK _ _ hS6 ?_
    clear hK K hS HXd HId HIxd HIyd HIzd hIv hb6 hadd hcv hs3 ht3 EX ET ED
    try simp only [List.setIfInBounds_toArray, List.set_cons_zero, List.set_cons_succ]
    refine Ph.take2 (i := 11) (d := some 66) rfl rfl (by kernel_rfl) (fun _ h => h) (fun _ _ _ h => h) rfl (v := ?vB11) (fun w' hw' => ?yB11) hS6 ?nB11
    case yB11 => (go_simp; try (with_reducible rfl))
    simp only [Act.put, List.setIfInBounds_toArray, List.set_cons_zero, List.set_cons_succ]
    refine Ph.take2 (i := 12) (d := some 78) rfl rfl (by kernel_rfl) (fun _ h => h) (fun _ _ _ h => h) rfl (v := ?vB12) (fun w' hw' => ?yB12) hS6 ?nB12
    case yB12 => (go_simp; try (with_reducible rfl))
    simp only [Act.put, List.setIfInBounds_toArray, List.set_cons_zero, List.set_cons_succ]
    refine Ph.take2 (i := 13) (d := some 79) rfl rfl (by kernel_rfl) (fun _ h => h) (fun _ _ _ h => h) rfl (v := ?vB13) (fun w' hw' => ?yB13) hS6 ?nB13
    case yB13 => (go_simp; try (with_reducible rfl))
    simp only [Act.put, List.setIfInBounds_toArray, List.set_cons_zero, List.set_cons_succ]
    refine Ph.take2 (i := 14) (d := some 19) rfl rfl (by kernel_rfl) (fun _ h => h) (fun _ _ _ h => h) rfl (v := ?vB14) (fun w' hw' => ?yB14) hS6 ?nB14
    case yB14 => (go_simp; try (with_reducible rfl))
    simp only [Act.put, List.setIfInBounds_toArray, List.set_cons_zero, List.set_cons_succ]
    refine Ph.take2 (i := 15) (d := some 20) rfl rfl (by kernel_rfl) (fun _ h => h) (fun _ _ _ h => h) rfl (v := ?vB15) (fun w' hw' => ?yB15) hS6 ?nB15
    case yB15 => (go_simp; try (with_reducible rfl))
    simp only [Act.put, List.setIfInBounds_toArray, List.set_cons_zero, List.set_cons_succ]
    refine Ph.done (by kernel_rfl) ?_ _
    clear hS6
    generalize Ch.xor key nonce c l = xs at *
    have hcx : k ≤ cx := by have := HV.out.x.cp; omega
    go_wp2_with fail
    have HVd := Lib.hid (HV.out.later (Below.refl w6.heap.size w6).drew)
    clear HV
    refine Ph.region 99 (S5 w key nonce n k m Ax Ay Az Av A3 cx cy cz cv cap3 xs l) (S5 w key nonce n k m Ax Ay Az Av A3 cx cy cz cv cap3 xs l) (by kernel_rfl) ?_
    generalize w6.drew = w7 at *
    have hS := HVd.out
    have hsx := fun W => cut_h (A := Ax) (n := n) k hcx (k : Int) rfl W
    have htx := fun W => cut_l (A := Ax) (n := n) (cap := cx) (64 * m) hmn (64 * (m : Int)) (by omega) W
    have eqs : ∀ (s : ByteArray) (W : World), (binOp .eql 9 (.string s) (.string s)).run Try.prog W = .ok (.bool true) W := fun s W => by go_simp
    refine Ph.take2 (i := 0) (d := some 80) rfl rfl (by kernel_rfl) (fun _ h => h) (fun _ _ _ h => h) rfl (v := ?vC0) (fun w' hw' => ?yC0) hS ?nC0
    case yC0 => (go_simp; try (with_reducible rfl))
    simp only [Act.put, List.setIfInBounds_toArray, List.set_cons_zero, List.set_cons_succ]
    refine Ph.take2 (i := 1) (d := some 81) rfl rfl (by kernel_rfl) (fun _ h => h) (fun _ _ _ h => h) rfl (v := ?vC1) (fun w' hw' => ?yC1) hS ?nC1
    case yC1 => (go_simp; try (with_reducible rfl))
    simp only [Act.put, List.setIfInBounds_toArray, List.set_cons_zero, List.set_cons_succ]
    refine Ph.take2 (i := 2) (d := some 82) rfl rfl (by kernel_rfl) (fun _ h => h) (fun _ _ _ h => h) rfl (v := ?vC2) (fun w' hw' => ?yC2) hS ?nC2
    case yC2 => (go_simp; try (with_reducible rfl))
    simp only [Act.put, List.setIfInBounds_toArray, List.set_cons_zero, List.set_cons_succ]
    refine Ph.take2 (i := 3) (d := some 83) rfl rfl (by kernel_rfl) (fun _ h => h) (fun _ _ _ h => h) rfl (v := .bool true) (fun w' hw' => ?yC3) hS ?nC3
    case yC3 => (go_simp; try (with_reducible rfl))
    simp only [Act.put, List.setIfInBounds_toArray, List.set_cons_zero, List.set_cons_succ]
    refine Ph.take2 (i := 4) (d := some 84) rfl rfl (by kernel_rfl) (fun _ h => h) (fun _ _ _ h => h) rfl (v := ?vC4) (fun w' hw' => ?yC4) hS ?nC4
    case yC4 => (go_simp; try (with_reducible rfl))
    simp only [Act.put, List.setIfInBounds_toArray, List.set_cons_zero, List.set_cons_succ]
    refine Ph.take2 (i := 5) (d := some 85) rfl rfl (by kernel_rfl) (fun _ h => h) (fun _ _ _ h => h) rfl (v := ?vC5) (fun w' hw' => ?yC5) hS ?nC5
    case yC5 => (go_simp; try (with_reducible rfl))
    simp only [Act.put, List.setIfInBounds_toArray, List.set_cons_zero, List.set_cons_succ]
    refine Ph.take2 (i := 6) (d := some 86) rfl rfl (by kernel_rfl) (fun _ h => h) (fun _ _ _ h => h) rfl (v := .bool true) (fun w' hw' => ?yC6) hS ?nC6
    case yC6 => (go_simp; try (with_reducible rfl))
    simp only [Act.put, List.setIfInBounds_toArray, List.set_cons_zero, List.set_cons_succ]
    refine Ph.take2 (i := 7) (d := some 87) rfl rfl (by kernel_rfl) (fun _ h => h) (fun _ _ _ h => h) rfl (v := ?vC7) (fun w' hw' => ?yC7) hS ?nC7
    case yC7 => (go_simp; try (with_reducible rfl))
    simp only [Act.put, List.setIfInBounds_toArray, List.set_cons_zero, List.set_cons_succ]
    refine Ph.take2 (i := 8) (d := some 88) rfl rfl (by kernel_rfl) (fun _ h => h) (fun _ _ _ h => h) rfl (v := ?vC8) (fun w' hw' => ?yC8) hS ?nC8
    case yC8 => (go_simp; try (with_reducible rfl))
    simp only [Act.put, List.setIfInBounds_toArray, List.set_cons_zero, List.set_cons_succ]
    refine Ph.take2 (i := 9) (d := some 89) rfl rfl (by kernel_rfl) (fun _ h => h) (fun _ _ _ h => h) rfl (v := .bool true) (fun w' hw' => ?yC9) hS ?nC9
    case yC9 => (go_simp; try (with_reducible rfl))
    simp only [Act.put, List.setIfInBounds_toArray, List.set_cons_zero, List.set_cons_succ]
    refine Ph.take2 (i := 10) (d := some 90) rfl rfl (by kernel_rfl) (fun _ h => h) (fun _ _ _ h => h) rfl (v := ?vC10) (fun w' hw' => ?yC10) hS ?nC10
    case yC10 => (go_simp; try (with_reducible rfl))
    simp only [Act.put, List.setIfInBounds_toArray, List.set_cons_zero, List.set_cons_succ]
    refine Ph.take2 (i := 11) (d := some 91) rfl rfl (by kernel_rfl) (fun _ h => h) (fun _ _ _ h => h) rfl (v := ?vC11) (fun w' hw' => ?yC11) hS ?nC11
    case yC11 => (go_simp; try (with_reducible rfl))
    simp only [Act.put, List.setIfInBounds_toArray, List.set_cons_zero, List.set_cons_succ]
    refine Ph.take2 (i := 12) (d := some 92) rfl rfl (by kernel_rfl) (fun _ h => h) (fun _ _ _ h => h) rfl (v := ?vC12) (fun w' hw' => ?yC12) hS ?nC12
    case yC12 => (go_simp; try (with_reducible rfl))
    simp only [Act.put, List.setIfInBounds_toArray, List.set_cons_zero, List.set_cons_succ]
    refine Ph.take2 (i := 13) (d := some 93) rfl rfl (by kernel_rfl) (fun _ h => h) (fun _ _ _ h => h) rfl (v := ?vC13) (fun w' hw' => ?yC13) hS ?nC13
    case yC13 => (go_simp; try (with_reducible rfl))
    simp only [Act.put, List.setIfInBounds_toArray, List.set_cons_zero, List.set_cons_succ]
    refine Ph.take2 (i := 14) (d := some 94) rfl rfl (by kernel_rfl) (fun _ h => h) (fun _ _ _ h => h) rfl (v := ?vC14) (fun w' hw' => ?yC14) hS ?nC14
    case yC14 => (go_simp; try (with_reducible rfl))
    simp only [Act.put, List.setIfInBounds_toArray, List.set_cons_zero, List.set_cons_succ]
    refine Ph.take2 (i := 15) (d := some 95) rfl rfl (by kernel_rfl) (fun _ h => h) (fun _ _ _ h => h) rfl (v := .bool true) (fun w' hw' => ?yC15) hS ?nC15
    case yC15 => (go_simp; try (with_reducible rfl))
    simp only [Act.put, List.setIfInBounds_toArray, List.set_cons_zero, List.set_cons_succ]
    refine Ph.take2 (i := 16) (d := some 96) rfl rfl (by kernel_rfl) (fun _ h => h) (fun _ _ _ h => h) rfl (v := .bool true) (fun w' hw' => ?yC16) hS ?nC16
    case yC16 => (go_simp; try (with_reducible rfl))
    simp only [Act.put, List.setIfInBounds_toArray, List.set_cons_zero, List.set_cons_succ]
    refine Ph.take2 (i := 17) (d := some 97) rfl rfl (by kernel_rfl) (fun _ h => h) (fun _ _ _ h => h) rfl (v := ?vC17) (fun w' hw' => ?yC17) hS ?nC17
    case yC17 => (go_simp; try (with_reducible rfl))
    simp only [Act.put, List.setIfInBounds_toArray, List.set_cons_zero, List.set_cons_succ]
    refine Ph.take2 (i := 18) (d := some 98) rfl rfl (by kernel_rfl) (fun _ h => h) (fun _ _ _ h => h) rfl (v := ?vC18) (fun w' hw' => ?yC18) hS ?nC18
    case yC18 => (go_simp; try (with_reducible rfl))
    simp only [Act.put, List.setIfInBounds_toArray, List.set_cons_zero, List.set_cons_succ]
    refine Ph.take2 (i := 19) (d := some 99) rfl rfl (by kernel_rfl) (fun _ h => h) (fun _ _ _ h => h) rfl (v := ?vC19) (fun w' hw' => ?yC19) hS ?nC19
    case yC19 => (have q := hw'.y.conv; clear hw'; go_simp; try (with_reducible rfl))
    simp only [Act.put, List.setIfInBounds_toArray, List.set_cons_zero, List.set_cons_succ]
    refine Ph.take2 (i := 20) (d := some 100) rfl rfl (by kernel_rfl) (fun _ h => h) (fun _ _ _ h => h) rfl (v := ?vC20) (fun w' hw' => ?yC20) hS ?nC20
    case yC20 => (go_simp; try (with_reducible rfl))
    simp only [Act.put, List.setIfInBounds_toArray, List.set_cons_zero, List.set_cons_succ]
    refine Ph.take2 (i := 21) (d := some 101) rfl rfl (by kernel_rfl) (fun _ h => h) (fun _ _ _ h => h) rfl (v := ?vC21) (fun w' hw' => ?yC21) hS ?nC21
    case yC21 => (have q := hw'.b.conv; clear hw'; go_simp; try (with_reducible rfl))
    simp only [Act.put, List.setIfInBounds_toArray, List.set_cons_zero, List.set_cons_succ]
    refine Ph.take2 (i := 22) (d := some 102) rfl rfl (by kernel_rfl) (fun _ h => h) (fun _ _ _ h => h) rfl (v := .bool true) (fun w' hw' => ?yC22) hS ?nC22
    case yC22 => (go_simp; try (with_reducible rfl))
    simp only [Act.put, List.setIfInBounds_toArray, List.set_cons_zero, List.set_cons_succ]
    refine Ph.take2 (i := 23) (d := some 103) rfl rfl (by kernel_rfl) (fun _ h => h) (fun _ _ _ h => h) rfl (v := .bool true) (fun w' hw' => ?yC23) hS ?nC23
    case yC23 => (go_simp; try (with_reducible rfl))
    simp only [Act.put, List.setIfInBounds_toArray, List.set_cons_zero, List.set_cons_succ]
    refine Ph.take2 (i := 24) (d := some 104) rfl rfl (by kernel_rfl) (fun _ h => h) (fun _ _ _ h => h) rfl (v := ?vC24) (fun w' hw' => ?yC24) hS ?nC24
    case yC24 => (go_simp; try (with_reducible rfl))
    simp only [Act.put, List.setIfInBounds_toArray, List.set_cons_zero, List.set_cons_succ]
    refine Ph.take2 (i := 25) (d := some 105) rfl rfl (by kernel_rfl) (fun _ h => h) (fun _ _ _ h => h) rfl (v := ?vC25) (fun w' hw' => ?yC25) hS ?nC25
    case yC25 => (go_simp; try (with_reducible rfl))
    simp only [Act.put, List.setIfInBounds_toArray, List.set_cons_zero, List.set_cons_succ]
    refine Ph.take2 (i := 26) (d := some 106) rfl rfl (by kernel_rfl) (fun _ h => h) (fun _ _ _ h => h) rfl (v := ?vC26) (fun w' hw' => ?yC26) hS ?nC26
    case yC26 => (have q := hw'.z.conv; clear hw'; go_simp; try (with_reducible rfl))
    simp only [Act.put, List.setIfInBounds_toArray, List.set_cons_zero, List.set_cons_succ]
    refine Ph.take2 (i := 27) (d := some 107) rfl rfl (by kernel_rfl) (fun _ h => h) (fun _ _ _ h => h) rfl (v := ?vC27) (fun w' hw' => ?yC27) hS ?nC27
    case yC27 => (go_simp; try (with_reducible rfl))
    simp only [Act.put, List.setIfInBounds_toArray, List.set_cons_zero, List.set_cons_succ]
    refine Ph.take2 (i := 28) (d := some 108) rfl rfl (by kernel_rfl) (fun _ h => h) (fun _ _ _ h => h) rfl (v := ?vC28) (fun w' hw' => ?yC28) hS ?nC28
    case yC28 => (go_simp; try (with_reducible rfl))
    simp only [Act.put, List.setIfInBounds_toArray, List.set_cons_zero, List.set_cons_succ]
    refine Ph.take2 (i := 29) (d := some 109) rfl rfl (by kernel_rfl) (fun _ h => h) (fun _ _ _ h => h) rfl (v := ?vC29) (fun w' hw' => ?yC29) hS ?nC29
    case yC29 => (go_simp; try (with_reducible rfl))
    simp only [Act.put, List.setIfInBounds_toArray, List.set_cons_zero, List.set_cons_succ]
    refine Ph.take2 (i := 30) (d := some 110) rfl rfl (by kernel_rfl) (fun _ h => h) (fun _ _ _ h => h) rfl (v := ?vC30) (fun w' hw' => ?yC30) hS ?nC30
    case yC30 => (have q := (hw'.x.head k hkn).conv; clear hw'; go_simp; try (with_reducible rfl))
    simp only [Act.put, List.setIfInBounds_toArray, List.set_cons_zero, List.set_cons_succ]
    refine Ph.take2 (i := 31) (d := some 111) rfl rfl (by kernel_rfl) (fun _ h => h) (fun _ _ _ h => h) rfl (v := .bool true) (fun w' hw' => ?yC31) hS ?nC31
    case yC31 => (go_simp; try (with_reducible rfl))
    simp only [Act.put, List.setIfInBounds_toArray, List.set_cons_zero, List.set_cons_succ]
    refine Ph.take2 (i := 32) (d := some 112) rfl rfl (by kernel_rfl) (fun _ h => h) (fun _ _ _ h => h) rfl (v := .bool true) (fun w' hw' => ?yC32) hS ?nC32
    case yC32 => (go_simp; try (with_reducible rfl))
    simp only [Act.put, List.setIfInBounds_toArray, List.set_cons_zero, List.set_cons_succ]
    refine Ph.take2 (i := 33) (d := some 113) rfl rfl (by kernel_rfl) (fun _ h => h) (fun _ _ _ h => h) rfl (v := ?vC33) (fun w' hw' => ?yC33) hS ?nC33
    case yC33 => (go_simp; try (with_reducible rfl))
    simp only [Act.put, List.setIfInBounds_toArray, List.set_cons_zero, List.set_cons_succ]
    refine Ph.take2 (i := 34) (d := some 114) rfl rfl (by kernel_rfl) (fun _ h => h) (fun _ _ _ h => h) rfl (v := ?vC34) (fun w' hw' => ?yC34) hS ?nC34
    case yC34 => (go_simp; try (with_reducible rfl))
    simp only [Act.put, List.setIfInBounds_toArray, List.set_cons_zero, List.set_cons_succ]
    refine Ph.take2 (i := 35) (d := some 115) rfl rfl (by kernel_rfl) (fun _ h => h) (fun _ _ _ h => h) rfl (v := ?vC35) (fun w' hw' => ?yC35) hS ?nC35
    case yC35 => (have q := hw'.v.conv; clear hw'; go_simp; try (with_reducible rfl))
    simp only [Act.put, List.setIfInBounds_toArray, List.set_cons_zero, List.set_cons_succ]
    refine Ph.take2 (i := 36) (d := some 116) rfl rfl (by kernel_rfl) (fun _ h => h) (fun _ _ _ h => h) rfl (v := ?vC36) (fun w' hw' => ?yC36) hS ?nC36
    case yC36 => (go_simp; try (with_reducible rfl))
    simp only [Act.put, List.setIfInBounds_toArray, List.set_cons_zero, List.set_cons_succ]
    refine Ph.take2 (i := 37) (d := some 117) rfl rfl (by kernel_rfl) (fun _ h => h) (fun _ _ _ h => h) rfl (v := ?vC37) (fun w' hw' => ?yC37) hS ?nC37
    case yC37 => (go_simp; try (with_reducible rfl))
    simp only [Act.put, List.setIfInBounds_toArray, List.set_cons_zero, List.set_cons_succ]
    refine Ph.take2 (i := 38) (d := some 118) rfl rfl (by kernel_rfl) (fun _ h => h) (fun _ _ _ h => h) rfl (v := ?vC38) (fun w' hw' => ?yC38) hS ?nC38
    case yC38 => (go_simp; try (with_reducible rfl))
    simp only [Act.put, List.setIfInBounds_toArray, List.set_cons_zero, List.set_cons_succ]
    refine Ph.take2 (i := 39) (d := some 119) rfl rfl (by kernel_rfl) (fun _ h => h) (fun _ _ _ h => h) rfl (v := ?vC39) (fun w' hw' => ?yC39) hS ?nC39
    case yC39 => (go_simp; try (with_reducible rfl))
    simp only [Act.put, List.setIfInBounds_toArray, List.set_cons_zero, List.set_cons_succ]
    refine Ph.take2 (i := 40) (d := some 120) rfl rfl (by kernel_rfl) (fun _ h => h) (fun _ _ _ h => h) rfl (v := ?vC40) (fun w' hw' => ?yC40) hS ?nC40
    case yC40 => (have q := (hw'.x.tail (64 * m) hmn).conv; clear hw'; go_simp; try (with_reducible rfl))
    simp only [Act.put, List.setIfInBounds_toArray, List.set_cons_zero, List.set_cons_succ]
    refine Ph.take2 (i := 41) (d := some 121) rfl rfl (by kernel_rfl) (fun _ h => h) (fun _ _ _ h => h) rfl (v := .bool true) (fun w' hw' => ?yC41) hS ?nC41
    case yC41 => (go_simp; try (with_reducible rfl))
    simp only [Act.put, List.setIfInBounds_toArray, List.set_cons_zero, List.set_cons_succ]
    refine Ph.take2 (i := 42) (d := some 122) rfl rfl (by kernel_rfl) (fun _ h => h) (fun _ _ _ h => h) rfl (v := .bool true) (fun w' hw' => ?yC42) hS ?nC42
    case yC42 => (go_simp; try (with_reducible rfl))
    simp only [Act.put, List.setIfInBounds_toArray, List.set_cons_zero, List.set_cons_succ]
    refine Ph.take2 (i := 43) (d := some 123) rfl rfl (by kernel_rfl) (fun _ h => h) (fun _ _ _ h => h) rfl (v := ?vC43) (fun w' hw' => ?yC43) hS ?nC43
    case yC43 => (go_simp; try (with_reducible rfl))
    simp only [Act.put, List.setIfInBounds_toArray, List.set_cons_zero, List.set_cons_succ]
    refine Ph.only (i := 44) rfl (by kernel_rfl) rfl (fun K hK => ?_)
    go_simp
    refine (awake3_any _).mono ?_
    rintro e w8 ⟨rfl, hb8⟩
    have hS8 := hS.later hb8
    have HB8 := Lib.hid hS8.xl.bl
    clear hb8
    refine hK _ _ hS8 ?_
    clear hK K
    try simp only [List.setIfInBounds_toArray, List.set_cons_zero, List.set_cons_succ]
    refine Ph.take2 (i := 45) (d := some 125) rfl rfl (by kernel_rfl) (fun _ h => h) (fun _ _ _ h => h) rfl (v := ?vC45) (fun w' hw' => ?yC45) hS8 ?nC45
    case yC45 => (go_simp; try (with_reducible rfl))
    simp only [Act.put, List.setIfInBounds_toArray, List.set_cons_zero, List.set_cons_succ]
    refine Ph.take2 (i := 46) (d := some 10) rfl rfl (by kernel_rfl) (fun _ h => h) (fun _ _ _ h => h) rfl (v := ?vC46) (fun w' hw' => ?yC46) hS8 ?nC46
    case yC46 => (go_simp; try (with_reducible rfl))
    simp only [Act.put, List.setIfInBounds_toArray, List.set_cons_zero, List.set_cons_succ]
    refine Ph.done (by kernel_rfl) ?_ _
    clear hS hS8 HVd hsx htx eqs
    go_wp2_with fail
    go_ret
    exact ⟨rfl, HB8.out⟩
end Go.Proofs.Ytdkimnigckpncaa
