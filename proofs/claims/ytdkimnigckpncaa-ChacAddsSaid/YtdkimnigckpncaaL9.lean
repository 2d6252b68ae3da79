/-
  The walk of the law ChacAdds.
-/
import Derived.Test.YtdkimnigckpncaaX4
import Derived.WalkLawsBesides
namespace Go.Proofs.Ytdkimnigckpncaa
open Go.RowKit
namespace Ch
open Qu (W wd dbl)
theorem xor_get (key nonce : List Y) (c : W) (b : List Y) (i : Nat) (hi : i < b.length) : (xor key nonce c b).getD i 0#8 = b.getD i 0#8 ^^^ stream key nonce c i := by
  simp [xor, List.getD_eq_getElem?_getD, hi]
theorem z_get (n i : Nat) : (Z n).getD i 0#8 = 0#8 := by
  rw [Z, List.getD_eq_getElem?_getD, List.getElem?_replicate]
  split <;> rfl
theorem xor_first (key nonce : List Y) (c : W) (n m : Nat) (h1 : m ≤ n) (h2 : m ≤ 64) : (xor key nonce c (Z n)).take m = (block key nonce c).take m := by
  have hb := block_length key nonce c
  apply List.ext_getElem
  · simp [xor_length, Z, hb]; omega
  · intro i hi1 hi2
    have him : i < m := by simp [xor_length, Z] at hi1; omega
    have e0 : i / 64 = 0 := by omega
    have e1 : i % 64 = i := by omega
    have e2 : BitVec.ofNat 32 0 = 0#32 := rfl
    simp only [List.getElem_take, xor, List.getElem_mapIdx, stream, e0, e1, Z, List.getElem_replicate, BitVec.add_zero, BitVec.zero_xor]
    rw [List.getD_eq_getElem?_getD, List.getElem?_eq_getElem (by omega)]
    rfl
theorem room_low (c : W) (n : Nat) (h : c.toNat ≤ 65535) (hn : n ≤ 700) : room c n = true := by
  unfold room
  simp
  omega
theorem xor_swap (a b s : Y) : (a ^^^ s) ^^^ (b ^^^ s) = a ^^^ b := by
  rw [BitVec.xor_comm b s, BitVec.xor_assoc, ← BitVec.xor_assoc s s b, BitVec.xor_self, BitVec.zero_xor]
end Ch
theorem low16 (c : BitVec 32) : (c &&& 65535#32).toNat ≤ 65535 := by rw [BitVec.toNat_and]; exact Nat.and_le_right
theorem Xl.kept {w X Y : World} {key nonce : List (BitVec 8)} (h : Xl w key nonce X) (hb : Below X.heap.size X Y) : Xl w key nonce Y := h.later hb

/-- The five rows, and the key and the nonce. -/
structure Fv (w : World) (key nonce : List (BitVec 8)) (N : Nat) (As Ax Ay A3 A4 : Option Addr) (cs cx cy c3 c4 : Nat) (ls lx ly l3 l4 : List (BitVec 8)) (X : World) : Prop where
  xl : Xl w key nonce X
  s : IsB X As N cs ls
  x : IsB X Ax N cx lx
  y : IsB X Ay N cy ly
  a : IsB X A3 N c3 l3
  b : IsB X A4 N c4 l4
theorem Fv.later {w X Y : World} {key nonce : List (BitVec 8)} {N : Nat} {As Ax Ay A3 A4 : Option Addr} {cs cx cy c3 c4 : Nat} {ls lx ly l3 l4 : List (BitVec 8)} (h : Fv w key nonce N As Ax Ay A3 A4 cs cx cy c3 c4 ls lx ly l3 l4 X) (hb : Below X.heap.size X Y) :
    Fv w key nonce N As Ax Ay A3 A4 cs cx cy c3 c4 ls lx ly l3 l4 Y := ⟨h.xl.later hb, h.s.later hb, h.x.later hb, h.y.later hb, h.a.later hb, h.b.later hb⟩
/-- Five bytes can be read. -/
def C5 (a0 a1 a2 a3 a4 : Addr) (v0 v1 v2 v3 v4 : BitVec 8) (w : World) : Prop :=
  w.cell? a0 = some (.int .u8 (u v0)) ∧ w.cell? a1 = some (.int .u8 (u v1)) ∧ w.cell? a2 = some (.int .u8 (u v2)) ∧ w.cell? a3 = some (.int .u8 (u v3)) ∧ w.cell? a4 = some (.int .u8 (u v4))

/-- The lesser of two. -/
def mn2 (x y : Int) : Int := if y < x then y else x
theorem run_mn3 {P : Program} (w : World) (ts : Array TypeId) (t : TypeId) (k k' k'' : IntKind) (x y z : Int) : (Builtin.min_ ts t #[.int k x, .int k' y, .int k'' z]).run P w = .ok (.int k (mn2 (mn2 x y) z)) w := run_min_int3 w ts t k k' k'' x y z
theorem run_mn2 {P : Program} (w : World) (ts : Array TypeId) (t : TypeId) (k k' : IntKind) (x y : Int) : (Builtin.min_ ts t #[.int k x, .int k' y]).run P w = .ok (.int k (mn2 x y)) w := run_min_int2 w ts t k k' x y
attribute [local go_sem high] run_mn3 run_mn2
theorem mn2_nat (x y : Nat) : mn2 (x : Int) (y : Int) = ((min x y : Nat) : Int) := by
  unfold mn2
  split <;> omega

set_option maxRecDepth 100000 in
set_option maxHeartbeats 8000000 in
theorem cadds_any (key nonce : List (BitVec 8)) (hk : key.length = 32) (hn : nonce.length = 12) (c0 : BitVec 32) (A3 : Option Addr) (n3 cap3 : Nat) (l3 : List (BitVec 8)) (A4 : Option Addr) (n4 cap4 : Nat) (l4 : List (BitVec 8)) (w : World)
    (h3 : IsB w A3 n3 cap3 l3) (h4 : IsB w A4 n4 cap4 l4) :
    Calls Try.prog 9 #[.agg (c8 key), .agg (c8 nonce), .int .u32 (u c0), .slice A3 n3 cap3, .slice A4 n4 cap4] w fun e w' => e = .returned (.bool true) ∧ Below w.heap.size w w' := by
  have HK := Lib.hid hk; have HN := Lib.hid hn
  clear hk hn
  obtain ⟨N, hN⟩ : ∃ N, N = min (min n3 n4) 300 := ⟨_, rfl⟩
  have hN3 : N ≤ n3 := by omega
  have hN4 : N ≤ n4 := by omega
  have hN300 : N ≤ 300 := by omega
  have e300 : ((300 : Nat) : Int) = 300 := rfl
  have e64 : ((64 : Nat) : Int) = 64 := rfl
  have hmin : mn2 (mn2 (n3 : Int) (n4 : Int)) 300 = (N : Int) := by rw [mn2_nat, ← e300, mn2_nat, hN]
  obtain ⟨M, hM⟩ : ∃ M, M = min N 64 := ⟨_, rfl⟩
  have hMN : M ≤ N := by omega
  have hM64 : M ≤ 64 := by omega
  have hmin2 : mn2 (N : Int) 64 = (M : Int) := by rw [← e64, mn2_nat, hM]
  clear hM e300 e64
  have e7 := b_and32 c0 65535#32
  have u7 : u 65535#32 = 65535 := rfl
  rw [u7] at e7
  clear u7 hN
  have hlow := low16 c0
  generalize c0 &&& 65535#32 = c at *
  have HR := Lib.hid (Ch.room_low c N hlow (by omega))
  have H3 := Lib.hid h3
  have H4 := Lib.hid h4
  have hc3 : N ≤ cap3 := by have := h3.cp; omega
  have hc4 : N ≤ cap4 := by have := h4.cp; omega
  clear h3 h4 hlow
  go_enter Try.func9, Try.ntmps9
  go_wp2_with fail
  have HX := Lib.hid (Xl.new w key nonce)
  have HB0 := Lib.hid HX.out.bl
  have hs3 := fun W => cut_h (A := A3) (n := n3) N hc3 (N : Int) rfl W
  have hs4 := fun W => cut_h (A := A4) (n := n4) N hc4 (N : Int) rfl W
  have hmk := make_n N (by omega) N rfl
  generalize (w.alloc (.cells (c8 key) 31)).alloc (.cells (c8 nonce) 35) = wa at *
  refine Ph.region 99 (fun _ => True) (fun _ => True) (by kernel_rfl) ?_
  refine Ph.take2 (i := 0) (d := some 27) rfl rfl (by kernel_rfl) (fun _ h => h) (fun _ _ _ h => h) rfl (v := ?vA0) (fun w' hw' => ?yA0) trivial ?nA0
  case yA0 => (go_simp; try (with_reducible rfl))
  simp only [Act.put, List.setIfInBounds_toArray, List.set_cons_zero, List.set_cons_succ]
  refine Ph.take2 (i := 1) (d := some 28) rfl rfl (by kernel_rfl) (fun _ h => h) (fun _ _ _ h => h) rfl (v := ?vA1) (fun w' hw' => ?yA1) trivial ?nA1
  case yA1 => (go_simp; try (with_reducible rfl))
  simp only [Act.put, List.setIfInBounds_toArray, List.set_cons_zero, List.set_cons_succ]
  refine Ph.take2 (i := 2) (d := some 29) rfl rfl (by kernel_rfl) (fun _ h => h) (fun _ _ _ h => h) rfl (v := ?vA2) (fun w' hw' => ?yA2) trivial ?nA2
  case yA2 => (go_simp; try (with_reducible rfl))
  simp only [Act.put, List.setIfInBounds_toArray, List.set_cons_zero, List.set_cons_succ]
  refine Ph.take2 (i := 3) (d := some 30) rfl rfl (by kernel_rfl) (fun _ h => h) (fun _ _ _ h => h) rfl (v := ?vA3) (fun w' hw' => ?yA3) trivial ?nA3
  case yA3 => (go_simp; try (with_reducible rfl))
  simp only [Act.put, List.setIfInBounds_toArray, List.set_cons_zero, List.set_cons_succ]
  refine Ph.take2 (i := 4) (d := some 31) rfl rfl (by kernel_rfl) (fun _ h => h) (fun _ _ _ h => h) rfl (v := ?vA4) (fun w' hw' => ?yA4) trivial ?nA4
  case yA4 => (go_simp; try (with_reducible rfl))
  simp only [Act.put, List.setIfInBounds_toArray, List.set_cons_zero, List.set_cons_succ]
  refine Ph.take2 (i := 5) (d := some 32) rfl rfl (by kernel_rfl) (fun _ h => h) (fun _ _ _ h => h) rfl (v := ?vA5) (fun w' hw' => ?yA5) trivial ?nA5
  case yA5 => (go_simp; try (with_reducible rfl))
  simp only [Act.put, List.setIfInBounds_toArray, List.set_cons_zero, List.set_cons_succ]
  refine Ph.take2 (i := 6) (d := some 3) rfl rfl (by kernel_rfl) (fun _ h => h) (fun _ _ _ h => h) rfl (v := ?vA6) (fun w' hw' => ?yA6) trivial ?nA6
  case yA6 => (go_simp; try (with_reducible rfl))
  simp only [Act.put, List.setIfInBounds_toArray, List.set_cons_zero, List.set_cons_succ]
  refine Ph.take2 (i := 7) (d := some 4) rfl rfl (by kernel_rfl) (fun _ h => h) (fun _ _ _ h => h) rfl (v := ?vA7) (fun w' hw' => ?yA7) trivial ?nA7
  case yA7 => (go_simp; try (with_reducible rfl))
  simp only [Act.put, List.setIfInBounds_toArray, List.set_cons_zero, List.set_cons_succ]
  refine Ph.done (by kernel_rfl) ?_ _
  clear hs3 hs4
  have HX0 := Lib.hid (HX.out.drew)
  have HI3 := Lib.hid (((H3.out.head N hN3).later HB0.out.drew))
  have HI4 := Lib.hid (((H4.out.head N hN4).later HB0.out.drew))
  clear HX H3 H4 HB0
  have HX := HX0
  clear HX0
  generalize wa.drew = wb at *
  generalize l3.take N = la at *
  generalize l4.take N = lb at *
  go_wp2_with fail
  have hS := HX.out.drew.kn
  have HX0 := Lib.hid HX.out.drew
  have HI3a := Lib.hid (HI3.out.later (Below.refl _ wb).drew)
  have HI4a := Lib.hid (HI4.out.later (Below.refl _ wb).drew)
  clear HX HI3 HI4
  refine Ph.region 99 (Kn w key nonce) (Kn w key nonce) (by kernel_rfl) ?_
  generalize wb.drew = w0 at *
  refine Ph.take2 (i := 0) (d := some 34) rfl rfl (by kernel_rfl) (fun _ h => h) (fun _ _ _ h => h) rfl (v := .agg (c8 key)) (fun w' hw' => yield_load_row 31 (.tmp 5) rfl w.heap.size rfl 31 (c8 key) (0, 0) _ hw'.1 Try.underlying31 rfl (by rw [info31, c8_size, HK.out])) hS ?nB0
  simp only [Act.put, List.setIfInBounds_toArray, List.set_cons_zero, List.set_cons_succ]
  refine Ph.take2 (i := 1) (d := some 35) rfl rfl (by kernel_rfl) (fun _ h => h) (fun _ _ _ h => h) rfl (v := .agg (c8 nonce)) (fun w' hw' => yield_load_row 35 (.tmp 6) rfl (w.heap.size + 1) rfl 35 (c8 nonce) (0, 0) _ hw'.2 Try.underlying35 rfl (by rw [info35, c8_size, HN.out])) hS ?nB1
  simp only [Act.put, List.setIfInBounds_toArray, List.set_cons_zero, List.set_cons_succ]
  refine Ph.take2 (i := 2) (d := some 36) rfl rfl (by kernel_rfl) (fun _ h => h) (fun _ _ _ h => h) rfl (v := ?vB2) (fun w' hw' => ?yB2) hS ?nB2
  case yB2 => (go_simp; try (with_reducible rfl))
  simp only [Act.put, List.setIfInBounds_toArray, List.set_cons_zero, List.set_cons_succ]
  refine Ph.take2 (i := 3) (d := some 37) rfl rfl (by kernel_rfl) (fun _ h => h) (fun _ _ _ h => h) rfl (v := ?vB3) (fun w' hw' => ?yB3) hS ?nB3
  case yB3 => (go_simp; try (with_reducible rfl))
  simp only [Act.put, List.setIfInBounds_toArray, List.set_cons_zero, List.set_cons_succ]
  refine Ph.only (i := 4) rfl (by kernel_rfl) rfl (fun K hK => ?_)
  go_simp
  have hba : Below w0.heap.size w0 (w0.alloc (.cells (c8 (Ch.Z N)) 5)) := (Below.refl _ _).alloc (Nat.le_refl _) _
  have HX := Lib.hid (HX0.out.later hba)
  have HI3 := Lib.hid (HI3a.out.later hba)
  have HI4 := Lib.hid (HI4a.out.later hba)
  have hI : Hid (IsB (w0.alloc (.cells (c8 (Ch.Z N)) 5)) (some ⟨w0.heap.size, 0, none⟩) N N (Ch.Z N)) := ⟨by simp [Ch.Z], rd_all (heap_alloc_new w0 (.cells (c8 (Ch.Z N)) 5)), fun h => (by cases h), Nat.le_refl _, by unfold maxLen; omega⟩
  have hS1 := HX.out.kn
  refine hK _ _ hS1 ?_
  clear hK K hS HX0 HI3a HI4a hba hmk
  obtain ⟨zb, hzb⟩ : ∃ zb, zb = w0.heap.size := ⟨_, rfl⟩
  rw [← hzb] at hI
  simp only [← hzb]
  clear hzb
  generalize w0.alloc (.cells (c8 (Ch.Z N)) 5) = w1 at *
  try simp only [List.setIfInBounds_toArray, List.set_cons_zero, List.set_cons_succ]
  refine Ph.only (i := 5) rfl (by kernel_rfl) rfl (fun K hK => ?_)
  go_simp
  refine (xor_in key nonce HK.out HN.out _ hI.out (by omega) HR.out).mono ?_
  rintro e w2 ⟨hb2, As, cs, rfl, hIs⟩
  have HX2 := Lib.hid (HX.out.later hb2)
  have HI3b := Lib.hid (HI3.out.later hb2)
  have HI4b := Lib.hid (HI4.out.later hb2)
  have HIs := Lib.hid hIs
  have hS := HX2.out.kn
  refine hK _ _ hS ?_
  clear hK K hS1 HX HI3 HI4 hIs hb2 hI
  try simp only [List.setIfInBounds_toArray, List.set_cons_zero, List.set_cons_succ]
  refine Ph.take2 (i := 6) (d := some 33) rfl rfl (by kernel_rfl) (fun _ h => h) (fun _ _ _ h => h) rfl (v := ?vB6) (fun w' hw' => ?yB6) hS ?nB6
  case yB6 => (go_simp; try (with_reducible rfl))
  simp only [Act.put, List.setIfInBounds_toArray, List.set_cons_zero, List.set_cons_succ]
  refine Ph.take2 (i := 7) (d := some 40) rfl rfl (by kernel_rfl) (fun _ h => h) (fun _ _ _ h => h) rfl (v := ?vB7) (fun w' hw' => ?yB7) hS ?nB7
  case yB7 => (go_simp; try (with_reducible rfl))
  simp only [Act.put, List.setIfInBounds_toArray, List.set_cons_zero, List.set_cons_succ]
  refine Ph.take2 (i := 8) (d := some 41) rfl rfl (by kernel_rfl) (fun _ h => h) (fun _ _ _ h => h) rfl (v := ?vB8) (fun w' hw' => ?yB8) hS ?nB8
  case yB8 => (go_simp; try (with_reducible rfl))
  simp only [Act.put, List.setIfInBounds_toArray, List.set_cons_zero, List.set_cons_succ]
  refine Ph.take2 (i := 9) (d := some 12) rfl rfl (by kernel_rfl) (fun _ h => h) (fun _ _ _ h => h) rfl (v := ?vB9) (fun w' hw' => ?yB9) hS ?nB9
  case yB9 => (go_simp; try (with_reducible rfl))
  simp only [Act.put, List.setIfInBounds_toArray, List.set_cons_zero, List.set_cons_succ]
  refine Ph.take2 (i := 10) (d := some 13) rfl rfl (by kernel_rfl) (fun _ h => h) (fun _ _ _ h => h) rfl (v := ?vB10) (fun w' hw' => ?yB10) hS ?nB10
  case yB10 => (go_simp; try (with_reducible rfl))
  simp only [Act.put, List.setIfInBounds_toArray, List.set_cons_zero, List.set_cons_succ]
  refine Ph.done (by kernel_rfl) ?_ _
  clear hS
  go_wp2_with (first | (refine wpList_load_row rfl 31 (.tmp 5) rfl w.heap.size rfl 31 (c8 key) (0, 0) _ HX2.out.ky Try.underlying31 rfl (by rw [info31, c8_size, HK.out]) ?_) | (refine wpList_load_row rfl 35 (.tmp 6) rfl (w.heap.size + 1) rfl 35 (c8 nonce) (0, 0) _ HX2.out.no Try.underlying35 rfl (by rw [info35, c8_size, HN.out]) ?_))
  refine (xor_in key nonce HK.out HN.out _ HI3b.out (by omega) HR.out).mono ?_
  rintro e w3 ⟨hb3, Ax, cx, rfl, hIx⟩
  have HX3 := Lib.hid (HX2.out.later hb3)
  have HI3c := Lib.hid (HI3b.out.later hb3)
  have HI4c := Lib.hid (HI4b.out.later hb3)
  have HIsc := Lib.hid (HIs.out.later hb3)
  have HIx := Lib.hid hIx
  clear HX2 HI3b HI4b HIs hIx hb3
  go_wp2_with (first | (refine wpList_load_row rfl 31 (.tmp 5) rfl w.heap.size rfl 31 (c8 key) (0, 0) _ HX3.out.ky Try.underlying31 rfl (by rw [info31, c8_size, HK.out]) ?_) | (refine wpList_load_row rfl 35 (.tmp 6) rfl (w.heap.size + 1) rfl 35 (c8 nonce) (0, 0) _ HX3.out.no Try.underlying35 rfl (by rw [info35, c8_size, HN.out]) ?_))
  refine (xor_in key nonce HK.out HN.out _ HI4c.out (by omega) HR.out).mono ?_
  rintro e w4 ⟨hb4, Ay, cy, rfl, hIy⟩
  have HV : Hid (Fv w key nonce N As Ax Ay A3 A4 cs cx cy cap3 cap4 (Ch.xor key nonce c (Ch.Z N)) (Ch.xor key nonce c la) (Ch.xor key nonce c lb) la lb w4) :=
    ⟨HX3.out.later hb4, HIsc.out.later hb4, HIx.out.later hb4, hIy, HI3c.out.later hb4, HI4c.out.later hb4⟩
  clear HX3 HI3c HI4c HIsc HIx hIy hb4
  go_wp2_with fail
  go_loopw [18] (fun i wr => ∃ (k : Nat), k ≤ N ∧ i = .int .i64 k ∧ Hid (Fv w key nonce N As Ax Ay A3 A4 cs cx cy cap3 cap4 (Ch.xor key nonce c (Ch.Z N)) (Ch.xor key nonce c la) (Ch.xor key nonce c lb) la lb wr)) (fun i _ => N - (intOf i).toNat)
  case atStart => exact ⟨0, by omega, rfl, HV⟩
  case round =>
    obtain ⟨k, hk, rfl, HV'⟩ := hrel
    clear HV
    by_cases hlt : k < N
    · have hkn : (k : Int) < (N : Int) := by omega
      have hal : k < la.length := by rw [HV'.out.a.len]; exact hlt
      have hbl : k < lb.length := by rw [HV'.out.b.len]; exact hlt
      have hsl : k < (Ch.Z N).length := by simp [Ch.Z]; exact hlt
      obtain ⟨a0, rfl, es⟩ := HV'.out.s.rd k (by rw [Ch.xor_length]; exact hsl)
      obtain ⟨ax, rfl, ex⟩ := HV'.out.x.rd k (by rw [Ch.xor_length]; exact hal)
      obtain ⟨ay, rfl, ey⟩ := HV'.out.y.rd k (by rw [Ch.xor_length]; exact hbl)
      obtain ⟨a3, rfl, e3⟩ := HV'.out.a.rd k hal
      obtain ⟨a4, rfl, e4⟩ := HV'.out.b.rd k hbl
      rw [Ch.xor_get _ _ _ _ _ hsl, Ch.z_get, BitVec.zero_xor] at es
      rw [Ch.xor_get _ _ _ _ _ hal] at ex
      rw [Ch.xor_get _ _ _ _ _ hbl] at ey
      have HV2 := Lib.hid (HV'.out.later (Below.refl _ wr).drew)
      have hS : C5 (a0.add k) (ax.add k) (ay.add k) (a3.add k) (a4.add k) (Ch.stream key nonce c k) (la.getD k 0#8 ^^^ Ch.stream key nonce c k) (lb.getD k 0#8 ^^^ Ch.stream key nonce c k) (la.getD k 0#8) (lb.getD k 0#8) wr.drew := ⟨es, ex, ey, e3, e4⟩
      clear es ex ey e3 e4 hal hbl hsl HV'
      have hx1 := b_xor8 (la.getD k 0#8) (Ch.stream key nonce c k)
      have hx2 := b_xor8 (la.getD k 0#8 ^^^ Ch.stream key nonce c k) (lb.getD k 0#8 ^^^ Ch.stream key nonce c k)
      rw [Ch.xor_swap] at hx2
      have hx3 := b_xor8 (la.getD k 0#8) (lb.getD k 0#8)
      generalize la.getD k 0#8 = va at *
      generalize lb.getD k 0#8 = vb at *
      generalize Ch.stream key nonce c k = vs at *
      generalize va ^^^ vb = vab at *
      generalize va ^^^ vs = vas at *
      generalize vb ^^^ vs = vbs at *
      go_wp2_with fail
      refine Ph.region 99 (C5 (a0.add k) (ax.add k) (ay.add k) (a3.add k) (a4.add k) vs vas vbs va vb) (C5 (a0.add k) (ax.add k) (ay.add k) (a3.add k) (a4.add k) vs vas vbs va vb) (by kernel_rfl) ?_
      generalize wr.drew = wd at *
      refine Ph.take2 (i := 0) (d := some 91) rfl rfl (by kernel_rfl) (fun _ h => h) (fun _ _ _ h => h) rfl (v := ?vD0) (fun w' hw' => ?yD0) hS ?nD0
      case yD0 => (go_simp; try (with_reducible rfl))
      simp only [Act.put, List.setIfInBounds_toArray, List.set_cons_zero, List.set_cons_succ]
      refine Ph.take2 (i := 1) (d := some 92) rfl rfl (by kernel_rfl) (fun _ h => h) (fun _ _ _ h => h) rfl (v := ?vD1) (fun w' hw' => ?yD1) hS ?nD1
      case yD1 => (go_simp; try (with_reducible rfl))
      simp only [Act.put, List.setIfInBounds_toArray, List.set_cons_zero, List.set_cons_succ]
      refine Ph.take2 (i := 2) (d := some 93) rfl rfl (by kernel_rfl) (fun _ h => h) (fun _ _ _ h => h) rfl (v := ?vD2) (fun w' hw' => ?yD2) hS ?nD2
      case yD2 => (go_simp; try (with_reducible rfl))
      simp only [Act.put, List.setIfInBounds_toArray, List.set_cons_zero, List.set_cons_succ]
      refine Ph.take2 (i := 3) (d := some 94) rfl rfl (by kernel_rfl) (fun _ h => h) (fun _ _ _ h => h) rfl (v := ?vD3) (fun w' hw' => ?yD3) hS ?nD3
      case yD3 => (obtain ⟨q0, q1, q2, q3, q4⟩ := hw'; go_simp; try (with_reducible rfl))
      simp only [Act.put, List.setIfInBounds_toArray, List.set_cons_zero, List.set_cons_succ]
      refine Ph.take2 (i := 4) (d := some 95) rfl rfl (by kernel_rfl) (fun _ h => h) (fun _ _ _ h => h) rfl (v := ?vD4) (fun w' hw' => ?yD4) hS ?nD4
      case yD4 => (go_simp; try (with_reducible rfl))
      simp only [Act.put, List.setIfInBounds_toArray, List.set_cons_zero, List.set_cons_succ]
      refine Ph.take2 (i := 5) (d := some 96) rfl rfl (by kernel_rfl) (fun _ h => h) (fun _ _ _ h => h) rfl (v := ?vD5) (fun w' hw' => ?yD5) hS ?nD5
      case yD5 => (go_simp; try (with_reducible rfl))
      simp only [Act.put, List.setIfInBounds_toArray, List.set_cons_zero, List.set_cons_succ]
      refine Ph.take2 (i := 6) (d := some 97) rfl rfl (by kernel_rfl) (fun _ h => h) (fun _ _ _ h => h) rfl (v := ?vD6) (fun w' hw' => ?yD6) hS ?nD6
      case yD6 => (go_simp; try (with_reducible rfl))
      simp only [Act.put, List.setIfInBounds_toArray, List.set_cons_zero, List.set_cons_succ]
      refine Ph.take2 (i := 7) (d := some 98) rfl rfl (by kernel_rfl) (fun _ h => h) (fun _ _ _ h => h) rfl (v := ?vD7) (fun w' hw' => ?yD7) hS ?nD7
      case yD7 => (obtain ⟨q0, q1, q2, q3, q4⟩ := hw'; go_simp; try (with_reducible rfl))
      simp only [Act.put, List.setIfInBounds_toArray, List.set_cons_zero, List.set_cons_succ]
      refine Ph.take2 (i := 8) (d := some 99) rfl rfl (by kernel_rfl) (fun _ h => h) (fun _ _ _ h => h) rfl (v := ?vD8) (fun w' hw' => ?yD8) hS ?nD8
      case yD8 => (go_simp; try (with_reducible rfl))
      simp only [Act.put, List.setIfInBounds_toArray, List.set_cons_zero, List.set_cons_succ]
      refine Ph.take2 (i := 9) (d := some 100) rfl rfl (by kernel_rfl) (fun _ h => h) (fun _ _ _ h => h) rfl (v := ?vD9) (fun w' hw' => ?yD9) hS ?nD9
      case yD9 => (go_simp; try (with_reducible rfl))
      simp only [Act.put, List.setIfInBounds_toArray, List.set_cons_zero, List.set_cons_succ]
      refine Ph.take2 (i := 10) (d := some 101) rfl rfl (by kernel_rfl) (fun _ h => h) (fun _ _ _ h => h) rfl (v := ?vD10) (fun w' hw' => ?yD10) hS ?nD10
      case yD10 => (go_simp; try (with_reducible rfl))
      simp only [Act.put, List.setIfInBounds_toArray, List.set_cons_zero, List.set_cons_succ]
      refine Ph.take2 (i := 11) (d := some 102) rfl rfl (by kernel_rfl) (fun _ h => h) (fun _ _ _ h => h) rfl (v := ?vD11) (fun w' hw' => ?yD11) hS ?nD11
      case yD11 => (obtain ⟨q0, q1, q2, q3, q4⟩ := hw'; go_simp; try (with_reducible rfl))
      simp only [Act.put, List.setIfInBounds_toArray, List.set_cons_zero, List.set_cons_succ]
      refine Ph.take2 (i := 12) (d := some 103) rfl rfl (by kernel_rfl) (fun _ h => h) (fun _ _ _ h => h) rfl (v := ?vD12) (fun w' hw' => ?yD12) hS ?nD12
      case yD12 => (go_simp; try (with_reducible rfl))
      simp only [Act.put, List.setIfInBounds_toArray, List.set_cons_zero, List.set_cons_succ]
      refine Ph.take2 (i := 13) (d := some 104) rfl rfl (by kernel_rfl) (fun _ h => h) (fun _ _ _ h => h) rfl (v := .bool false) (fun w' hw' => ?yD13) hS ?nD13
      case yD13 => (go_simp; try (with_reducible rfl))
      simp only [Act.put, List.setIfInBounds_toArray, List.set_cons_zero, List.set_cons_succ]
      refine Ph.take2 (i := 14) (d := some 105) rfl rfl (by kernel_rfl) (fun _ h => h) (fun _ _ _ h => h) rfl (v := .bool false) (fun w' hw' => ?yD14) hS ?nD14
      case yD14 => (go_simp; try (with_reducible rfl))
      simp only [Act.put, List.setIfInBounds_toArray, List.set_cons_zero, List.set_cons_succ]
      refine Ph.take2 (i := 15) (d := some 106) rfl rfl (by kernel_rfl) (fun _ h => h) (fun _ _ _ h => h) rfl (v := ?vD15) (fun w' hw' => ?yD15) hS ?nD15
      case yD15 => (go_simp; try (with_reducible rfl))
      simp only [Act.put, List.setIfInBounds_toArray, List.set_cons_zero, List.set_cons_succ]
      refine Ph.take2 (i := 16) (d := some 107) rfl rfl (by kernel_rfl) (fun _ h => h) (fun _ _ _ h => h) rfl (v := ?vD16) (fun w' hw' => ?yD16) hS ?nD16
      case yD16 => (go_simp; try (with_reducible rfl))
      simp only [Act.put, List.setIfInBounds_toArray, List.set_cons_zero, List.set_cons_succ]
      refine Ph.take2 (i := 17) (d := some 108) rfl rfl (by kernel_rfl) (fun _ h => h) (fun _ _ _ h => h) rfl (v := ?vD17) (fun w' hw' => ?yD17) hS ?nD17
      case yD17 => (go_simp; try (with_reducible rfl))
      simp only [Act.put, List.setIfInBounds_toArray, List.set_cons_zero, List.set_cons_succ]
      refine Ph.take2 (i := 18) (d := some 109) rfl rfl (by kernel_rfl) (fun _ h => h) (fun _ _ _ h => h) rfl (v := ?vD18) (fun w' hw' => ?yD18) hS ?nD18
      case yD18 => (obtain ⟨q0, q1, q2, q3, q4⟩ := hw'; go_simp; try (with_reducible rfl))
      simp only [Act.put, List.setIfInBounds_toArray, List.set_cons_zero, List.set_cons_succ]
      refine Ph.take2 (i := 19) (d := some 110) rfl rfl (by kernel_rfl) (fun _ h => h) (fun _ _ _ h => h) rfl (v := ?vD19) (fun w' hw' => ?yD19) hS ?nD19
      case yD19 => (go_simp; try (with_reducible rfl))
      simp only [Act.put, List.setIfInBounds_toArray, List.set_cons_zero, List.set_cons_succ]
      refine Ph.take2 (i := 20) (d := some 111) rfl rfl (by kernel_rfl) (fun _ h => h) (fun _ _ _ h => h) rfl (v := ?vD20) (fun w' hw' => ?yD20) hS ?nD20
      case yD20 => (go_simp; try (with_reducible rfl))
      simp only [Act.put, List.setIfInBounds_toArray, List.set_cons_zero, List.set_cons_succ]
      refine Ph.take2 (i := 21) (d := some 112) rfl rfl (by kernel_rfl) (fun _ h => h) (fun _ _ _ h => h) rfl (v := ?vD21) (fun w' hw' => ?yD21) hS ?nD21
      case yD21 => (go_simp; try (with_reducible rfl))
      simp only [Act.put, List.setIfInBounds_toArray, List.set_cons_zero, List.set_cons_succ]
      refine Ph.take2 (i := 22) (d := some 113) rfl rfl (by kernel_rfl) (fun _ h => h) (fun _ _ _ h => h) rfl (v := ?vD22) (fun w' hw' => ?yD22) hS ?nD22
      case yD22 => (obtain ⟨q0, q1, q2, q3, q4⟩ := hw'; go_simp; try (with_reducible rfl))
      simp only [Act.put, List.setIfInBounds_toArray, List.set_cons_zero, List.set_cons_succ]
      refine Ph.take2 (i := 23) (d := some 114) rfl rfl (by kernel_rfl) (fun _ h => h) (fun _ _ _ h => h) rfl (v := ?vD23) (fun w' hw' => ?yD23) hS ?nD23
      case yD23 => (go_simp; try (with_reducible rfl))
      simp only [Act.put, List.setIfInBounds_toArray, List.set_cons_zero, List.set_cons_succ]
      refine Ph.take2 (i := 24) (d := some 115) rfl rfl (by kernel_rfl) (fun _ h => h) (fun _ _ _ h => h) rfl (v := ?vD24) (fun w' hw' => ?yD24) hS ?nD24
      case yD24 => (go_simp; try (with_reducible rfl))
      simp only [Act.put, List.setIfInBounds_toArray, List.set_cons_zero, List.set_cons_succ]
      refine Ph.take2 (i := 25) (d := some 116) rfl rfl (by kernel_rfl) (fun _ h => h) (fun _ _ _ h => h) rfl (v := ?vD25) (fun w' hw' => ?yD25) hS ?nD25
      case yD25 => (go_simp; try (with_reducible rfl))
      simp only [Act.put, List.setIfInBounds_toArray, List.set_cons_zero, List.set_cons_succ]
      refine Ph.take2 (i := 26) (d := some 117) rfl rfl (by kernel_rfl) (fun _ h => h) (fun _ _ _ h => h) rfl (v := ?vD26) (fun w' hw' => ?yD26) hS ?nD26
      case yD26 => (go_simp; try (with_reducible rfl))
      simp only [Act.put, List.setIfInBounds_toArray, List.set_cons_zero, List.set_cons_succ]
      refine Ph.take2 (i := 27) (d := some 118) rfl rfl (by kernel_rfl) (fun _ h => h) (fun _ _ _ h => h) rfl (v := ?vD27) (fun w' hw' => ?yD27) hS ?nD27
      case yD27 => (obtain ⟨q0, q1, q2, q3, q4⟩ := hw'; go_simp; try (with_reducible rfl))
      simp only [Act.put, List.setIfInBounds_toArray, List.set_cons_zero, List.set_cons_succ]
      refine Ph.take2 (i := 28) (d := some 119) rfl rfl (by kernel_rfl) (fun _ h => h) (fun _ _ _ h => h) rfl (v := ?vD28) (fun w' hw' => ?yD28) hS ?nD28
      case yD28 => (go_simp; try (with_reducible rfl))
      simp only [Act.put, List.setIfInBounds_toArray, List.set_cons_zero, List.set_cons_succ]
      refine Ph.take2 (i := 29) (d := some 120) rfl rfl (by kernel_rfl) (fun _ h => h) (fun _ _ _ h => h) rfl (v := ?vD29) (fun w' hw' => ?yD29) hS ?nD29
      case yD29 => (go_simp; try (with_reducible rfl))
      simp only [Act.put, List.setIfInBounds_toArray, List.set_cons_zero, List.set_cons_succ]
      refine Ph.take2 (i := 30) (d := some 121) rfl rfl (by kernel_rfl) (fun _ h => h) (fun _ _ _ h => h) rfl (v := ?vD30) (fun w' hw' => ?yD30) hS ?nD30
      case yD30 => (go_simp; try (with_reducible rfl))
      simp only [Act.put, List.setIfInBounds_toArray, List.set_cons_zero, List.set_cons_succ]
      refine Ph.take2 (i := 31) (d := some 122) rfl rfl (by kernel_rfl) (fun _ h => h) (fun _ _ _ h => h) rfl (v := ?vD31) (fun w' hw' => ?yD31) hS ?nD31
      case yD31 => (obtain ⟨q0, q1, q2, q3, q4⟩ := hw'; go_simp; try (with_reducible rfl))
      simp only [Act.put, List.setIfInBounds_toArray, List.set_cons_zero, List.set_cons_succ]
      refine Ph.take2 (i := 32) (d := some 123) rfl rfl (by kernel_rfl) (fun _ h => h) (fun _ _ _ h => h) rfl (v := ?vD32) (fun w' hw' => ?yD32) hS ?nD32
      case yD32 => (go_simp; try (with_reducible rfl))
      simp only [Act.put, List.setIfInBounds_toArray, List.set_cons_zero, List.set_cons_succ]
      refine Ph.take2 (i := 33) (d := some 124) rfl rfl (by kernel_rfl) (fun _ h => h) (fun _ _ _ h => h) rfl (v := .bool false) (fun w' hw' => ?yD33) hS ?nD33
      case yD33 => (go_simp; try (with_reducible rfl))
      simp only [Act.put, List.setIfInBounds_toArray, List.set_cons_zero, List.set_cons_succ]
      refine Ph.take2 (i := 34) (d := some 125) rfl rfl (by kernel_rfl) (fun _ h => h) (fun _ _ _ h => h) rfl (v := .bool false) (fun w' hw' => ?yD34) hS ?nD34
      case yD34 => (go_simp; try (with_reducible rfl))
      simp only [Act.put, List.setIfInBounds_toArray, List.set_cons_zero, List.set_cons_succ]
      refine Ph.done (by kernel_rfl) ?_ _
      clear hS
      go_wp2_with fail
      go_roundw
      case rel => exact ⟨k + 1, by omega, by go_num, HV2⟩
      case measure => simp [intOf]; omega
    · have hkN : k = N := by omega
      subst hkN
      have HXe := Lib.hid HV'.out.xl
      have hblk := Lib.hid (Ch.block_length key nonce c)
      have hfst := Lib.hid (Ch.xor_first key nonce c k M hMN hM64)
      go_wp2_with (first | (refine wpList_load_row rfl 31 (.tmp 5) rfl w.heap.size rfl 31 (c8 key) (0, 0) _ HXe.out.ky Try.underlying31 rfl (by rw [info31, c8_size, HK.out]) ?_) | (refine wpList_load_row rfl 35 (.tmp 6) rfl (w.heap.size + 1) rfl 35 (c8 nonce) (0, 0) _ HXe.out.no Try.underlying35 rfl (by rw [info35, c8_size, HN.out]) ?_))
      refine (block_any key nonce HK.out HN.out c _).mono ?_
      rintro e w5 ⟨rfl, hb5⟩
      have HVe := Lib.hid (HV'.out.later hb5)
      clear HXe HV' hb5
      generalize Ch.block key nonce c = bk at *
      go_wp2_with (refine wpList_store_whole rfl 36 (.tmp 19) (.tmp 129) rfl w5.heap.size 36 _ (c8 bk) rfl rfl (heap_alloc_new _ _) (by rw [info36, c8_size, hblk.out]) (by rw [c8_size, hblk.out]; rfl) (c8_all _) ?_; intro w6 hT gr)
      have hbw : Below w5.heap.size w5 w6 := new_below (Below.refl _ _) (Nat.le_refl _) gr
      have HVf := Lib.hid (HVe.out.later hbw)
      have HT := Lib.hid hT
      obtain ⟨fb, hfb⟩ : ∃ fb, fb = w5.heap.size := ⟨_, rfl⟩
      rw [← hfb] at HT
      simp only [← hfb]
      clear hfb hT gr hbw HVe
      go_wp2_with fail
      have HIs := Lib.hid ((HVf.out.s.later (Below.refl _ w6).drew).head M hMN)
      have hcap : M ≤ cs := by have := HVf.out.s.cp; omega
      have HXf := Lib.hid (HVf.out.xl.drew)
      have HIf : Hid (IsB w6.drew (some ⟨fb, 0, none⟩) M 64 (bk.take M)) := by
        have h1 : IsB w6.drew (some ⟨fb, 0, none⟩) bk.length bk.length bk := isb_row (t := 36) HT.out (by rw [hblk.out]; decide)
        rw [hblk.out] at h1
        exact h1.head M hM64
      have hsS := fun W => cut_h (A := As) (n := k) M hcap (M : Int) rfl W
      have e1 : Try.prog.arrayLen 36 = 64 := by simp [Program.arrayLen, Try.underlying36]
      have e2 : Try.prog.elem 36 = 5 := by simp [Program.elem, Try.underlying36]
      have hsF : ∀ W, (Instr.sliceAt 36 (.pointer (some ⟨fb, 0, none⟩)) none (some (.int .i64 (M : Int))) none).run Try.prog W = .ok (.slice (some ⟨fb, 0, none⟩) M 64) W := by
        intro W
        rw [run_sliceAt_array_h W 36 ⟨fb, 0, none⟩ (by rw [e1, e2]; exact Try.underlying36) .i64 M (by omega) (by rw [e1]; omega), e1, e2, size5]
        simp [slicedAt, Addr.add]
      clear e1 e2 HVf hcap
      refine Ph.region 99 (fun _ => True) (fun _ => True) (by kernel_rfl) ?_
      generalize w6.drew = w7 at *
      refine Ph.take2 (i := 0) (d := some 130) rfl rfl (by kernel_rfl) (fun _ h => h) (fun _ _ _ h => h) rfl (v := ?vE0) (fun w' hw' => ?yE0) trivial ?nE0
      case yE0 => (go_simp; try (with_reducible rfl))
      simp only [Act.put, List.setIfInBounds_toArray, List.set_cons_zero, List.set_cons_succ]
      refine Ph.take2 (i := 1) (d := some 131) rfl rfl (by kernel_rfl) (fun _ h => h) (fun _ _ _ h => h) rfl (v := ?vE1) (fun w' hw' => ?yE1) trivial ?nE1
      case yE1 => (go_simp; try (with_reducible rfl))
      simp only [Act.put, List.setIfInBounds_toArray, List.set_cons_zero, List.set_cons_succ]
      refine Ph.take2 (i := 4) (d := some 134) rfl rfl (by kernel_rfl) (fun _ h => h) (fun _ _ _ h => h) rfl (v := ?vE4) (fun w' hw' => ?yE4) trivial ?nE4
      case yE4 => (go_simp; try (with_reducible rfl))
      simp only [Act.put, List.setIfInBounds_toArray, List.set_cons_zero, List.set_cons_succ]
      refine Ph.take2 (i := 2) (d := some 132) rfl rfl (by kernel_rfl) (fun _ h => h) (fun _ _ _ h => h) rfl (v := ?vE2) (fun w' hw' => ?yE2) trivial ?nE2
      case yE2 => (go_simp; try (with_reducible rfl))
      simp only [Act.put, List.setIfInBounds_toArray, List.set_cons_zero, List.set_cons_succ]
      refine Ph.take2 (i := 5) (d := some 135) rfl rfl (by kernel_rfl) (fun _ h => h) (fun _ _ _ h => h) rfl (v := ?vE5) (fun w' hw' => ?yE5) trivial ?nE5
      case yE5 => (go_simp; try (with_reducible rfl))
      simp only [Act.put, List.setIfInBounds_toArray, List.set_cons_zero, List.set_cons_succ]
      refine Ph.take2 (i := 3) (d := some 133) rfl rfl (by kernel_rfl) (fun _ h => h) (fun _ _ _ h => h) rfl (v := ?vE3) (fun w' hw' => ?yE3) trivial ?nE3
      case yE3 => (go_simp; try (with_reducible rfl))
      simp only [Act.put, List.setIfInBounds_toArray, List.set_cons_zero, List.set_cons_succ]
      refine Ph.take2 (i := 6) (d := some 136) rfl rfl (by kernel_rfl) (fun _ h => h) (fun _ _ _ h => h) rfl (v := ?vE6) (fun w' hw' => ?yE6) trivial ?nE6
      case yE6 => (go_simp; try (with_reducible rfl))
      simp only [Act.put, List.setIfInBounds_toArray, List.set_cons_zero, List.set_cons_succ]
      refine Ph.only (i := 7) rfl (by kernel_rfl) rfl (fun K hK => ?_)
      go_simp
      refine (same_in HIs.out HIf.out).mono ?_
      rintro e w8 ⟨rfl, rfl⟩
      rw [hfst.out, decide_eq_true (rfl : bk.take M = bk.take M)]
      refine hK _ _ trivial ?_
      clear hK K
      try simp only [List.setIfInBounds_toArray, List.set_cons_zero, List.set_cons_succ]
      refine Ph.take2 (i := 8) (d := some 138) rfl rfl (by kernel_rfl) (fun _ h => h) (fun _ _ _ h => h) rfl (v := ?vE8) (fun w' hw' => ?yE8) trivial ?nE8
      case yE8 => (go_simp; try (with_reducible rfl))
      simp only [Act.put, List.setIfInBounds_toArray, List.set_cons_zero, List.set_cons_succ]
      refine Ph.only (i := 9) rfl (by kernel_rfl) rfl (fun K hK => ?_)
      go_simp
      refine (awake3_any _).mono ?_
      rintro e w8 ⟨rfl, hb8⟩
      have HB8 := Lib.hid (HXf.out.bl.trans (hb8.mono HXf.out.bl.size))
      clear hb8
      refine hK _ _ trivial ?_
      clear hK K
      try simp only [List.setIfInBounds_toArray, List.set_cons_zero, List.set_cons_succ]
      refine Ph.take2 (i := 10) (d := some 140) rfl rfl (by kernel_rfl) (fun _ h => h) (fun _ _ _ h => h) rfl (v := ?vE10) (fun w' hw' => ?yE10) trivial ?nE10
      case yE10 => (go_simp; try (with_reducible rfl))
      simp only [Act.put, List.setIfInBounds_toArray, List.set_cons_zero, List.set_cons_succ]
      refine Ph.take2 (i := 11) (d := some 10) rfl rfl (by kernel_rfl) (fun _ h => h) (fun _ _ _ h => h) rfl (v := ?vE11) (fun w' hw' => ?yE11) trivial ?nE11
      case yE11 => (go_simp; try (with_reducible rfl))
      simp only [Act.put, List.setIfInBounds_toArray, List.set_cons_zero, List.set_cons_succ]
      refine Ph.done (by kernel_rfl) ?_ _
      clear hsS hsF
      go_wp2_with fail
      go_ret
      exact ⟨rfl, HB8.out⟩
end Go.Proofs.Ytdkimnigckpncaa
