/-
  Plain laws on quarter rounds: no program in sight. A state is a list of sixteen words; Double is a fold of eight quarter rounds at fixed places; Back is its inverse.
-/
namespace Go.Proofs.Ytdkimnigckpncaa.Qu

abbrev W := BitVec 32

/-- A word turned left by k places. -/
def rl (x : W) (k : Nat) : W := (x <<< k) ||| (x >>> (32 - k))

structure Q where
  a : W
  b : W
  c : W
  d : W

/-- A quarter round. -/
def qr (q : Q) : Q :=
  let a1 := q.a + q.b
  let d1 := rl (q.d ^^^ a1) 16
  let c1 := q.c + d1
  let b1 := rl (q.b ^^^ c1) 12
  let a2 := a1 + b1
  let d2 := rl (d1 ^^^ a2) 8
  let c2 := c1 + d2
  let b2 := rl (b1 ^^^ c2) 7
  ⟨a2, b2, c2, d2⟩

/-- Back from a quarter round. -/
def uq (q : Q) : Q :=
  let b1 := rl q.b 25 ^^^ q.c
  let c1 := q.c - q.d
  let d1 := rl q.d 24 ^^^ q.a
  let a1 := q.a - b1
  let b0 := rl b1 20 ^^^ c1
  let c0 := c1 - d1
  let d0 := rl d1 16 ^^^ a1
  let a0 := a1 - b0
  ⟨a0, b0, c0, d0⟩

theorem rl_eq (x : W) (k : Nat) (hk : k < 32) : rl x k = x.rotateLeft k := by
  unfold rl
  rw [BitVec.rotateLeft_def, Nat.mod_eq_of_lt hk]

theorem rl_rl (x : W) (j k : Nat) (h : j + k = 32) (hj : 0 < j) (hk : 0 < k) : rl (rl x j) k = x := by
  rw [rl_eq x j (by omega), rl_eq _ k (by omega)]
  ext i hi
  have e1 : k % 32 = k := Nat.mod_eq_of_lt (by omega)
  have e2 : j % 32 = j := Nat.mod_eq_of_lt (by omega)
  simp only [BitVec.getElem_rotateLeft, e1, e2]
  by_cases c : i < k
  · rw [dif_pos c, dif_neg (by omega)]
    congr 1
    omega
  · rw [dif_neg c, dif_pos (by omega)]
    congr 1
    omega

theorem xx (x y : W) : (x ^^^ y) ^^^ y = x := by rw [BitVec.xor_assoc, BitVec.xor_self, BitVec.xor_zero]
theorem as (x y : W) : x + y - y = x := BitVec.add_sub_cancel x y
theorem sa (x y : W) : x - y + y = x := BitVec.sub_add_cancel x y

theorem uq_qr (q : Q) : uq (qr q) = q := by
  obtain ⟨a, b, c, d⟩ := q
  simp only [uq, qr, rl_rl _ 7 25 rfl (by decide) (by decide), rl_rl _ 8 24 rfl (by decide) (by decide), rl_rl _ 12 20 rfl (by decide) (by decide), rl_rl _ 16 16 rfl (by decide) (by decide), xx, as]

theorem qr_uq (q : Q) : qr (uq q) = q := by
  obtain ⟨a, b, c, d⟩ := q
  simp only [uq, qr, sa, xx, rl_rl _ 25 7 rfl (by decide) (by decide), rl_rl _ 24 8 rfl (by decide) (by decide), rl_rl _ 20 12 rfl (by decide) (by decide), rl_rl _ 16 16 rfl (by decide) (by decide)]

/-- The places of the eight quarter rounds. -/
def places : List (Nat × Nat × Nat × Nat) := [(0, 4, 8, 12), (1, 5, 9, 13), (2, 6, 10, 14), (3, 7, 11, 15), (0, 5, 10, 15), (1, 6, 11, 12), (2, 7, 8, 13), (3, 4, 9, 14)]

def wd (s : List W) (i : Nat) : W := s.getD i 0

/-- Four places of a state, by a function of four words. -/
def at4 (f : Q → Q) (s : List W) (p : Nat × Nat × Nat × Nat) : List W :=
  let q := f ⟨wd s p.1, wd s p.2.1, wd s p.2.2.1, wd s p.2.2.2⟩
  (((s.set p.1 q.a).set p.2.1 q.b).set p.2.2.1 q.c).set p.2.2.2 q.d

def dbl (s : List W) : List W := places.foldl (at4 qr) s
def bak (s : List W) : List W := places.reverse.foldl (at4 uq) s

theorem at4_length (f : Q → Q) (s : List W) (p : Nat × Nat × Nat × Nat) : (at4 f s p).length = s.length := by simp [at4]
theorem fold_length (f : Q → Q) (l : List (Nat × Nat × Nat × Nat)) : ∀ s : List W, (l.foldl (at4 f) s).length = s.length := by
  induction l with
  | nil => intro s; rfl
  | cons p l ih => intro s; rw [List.foldl_cons, ih, at4_length]
theorem dbl_length (s : List W) : (dbl s).length = s.length := fold_length _ _ _
theorem bak_length (s : List W) : (bak s).length = s.length := fold_length _ _ _

/-- Four places that differ, of a state of sixteen. -/
def Four (p : Nat × Nat × Nat × Nat) : Prop := p.1 < 16 ∧ p.2.1 < 16 ∧ p.2.2.1 < 16 ∧ p.2.2.2 < 16 ∧ p.1 ≠ p.2.1 ∧ p.1 ≠ p.2.2.1 ∧ p.1 ≠ p.2.2.2 ∧ p.2.1 ≠ p.2.2.1 ∧ p.2.1 ≠ p.2.2.2 ∧ p.2.2.1 ≠ p.2.2.2
instance (p : Nat × Nat × Nat × Nat) : Decidable (Four p) := by unfold Four; exact inferInstance
theorem places_four : ∀ p ∈ places, Four p := by decide

theorem wd_set (s : List W) (i j : Nat) (x : W) (hi : i < s.length) : wd (s.set i x) j = if i = j then x else wd s j := by
  unfold wd
  rw [List.getD_eq_getElem?_getD, List.getD_eq_getElem?_getD, List.getElem?_set]
  split
  · rename_i h
    subst h
    first | rfl | (rw [if_pos hi]; rfl)
  · rfl

theorem ext_wd {s t : List W} (hl : s.length = t.length) (h : ∀ i, i < s.length → wd s i = wd t i) : s = t := by
  refine List.ext_getElem hl fun i h1 h2 => ?_
  have := h i h1
  unfold wd at this
  rwa [List.getD_eq_getElem?_getD, List.getD_eq_getElem?_getD, List.getElem?_eq_getElem h1, List.getElem?_eq_getElem h2] at this

theorem at4_at4 (f g : Q → Q) (hfg : ∀ q, f (g q) = q) (s : List W) (p : Nat × Nat × Nat × Nat) (hp : Four p) (hs : s.length = 16) : at4 f (at4 g s p) p = s := by
  obtain ⟨p0, p1, p2, p3⟩ := p
  obtain ⟨h0, h1, h2, h3, h01, h02, h03, h12, h13, h23⟩ := hp
  simp only at h0 h1 h2 h3 h01 h02 h03 h12 h13 h23
  refine ext_wd (by simp [at4_length]) fun i hi => ?_
  unfold at4
  simp only [wd_set, List.length_set, hs, h0, h1, h2, h3, h01, h02, h03, h12, h13, h23, Ne.symm h01, Ne.symm h02, Ne.symm h03, Ne.symm h12, Ne.symm h13, Ne.symm h23, if_true, if_false, hfg]
  by_cases e3 : p3 = i
  · subst e3; simp
  · by_cases e2 : p2 = i
    · subst e2; simp [e3]
    · by_cases e1 : p1 = i
      · subst e1; simp [e2, e3]
      · by_cases e0 : p0 = i
        · subst e0; simp [e1, e2, e3]
        · simp [e0, e1, e2, e3]

theorem fold_fold (f g : Q → Q) (hfg : ∀ q, f (g q) = q) : ∀ (l : List (Nat × Nat × Nat × Nat)), (∀ p ∈ l, Four p) → ∀ s : List W, s.length = 16 →
    l.reverse.foldl (at4 f) (l.foldl (at4 g) s) = s
  | [], _, _, _ => rfl
  | p :: l, hl, s, hs => by
    rw [List.foldl_cons, List.reverse_cons, List.foldl_append, fold_fold f g hfg l (fun q hq => hl q (List.mem_cons_of_mem _ hq)) _ (by rw [at4_length]; exact hs)]
    exact at4_at4 f g hfg s p (hl p (List.mem_cons_self ..)) hs

theorem bak_dbl (s : List W) (hs : s.length = 16) : bak (dbl s) = s := fold_fold uq qr uq_qr places places_four s hs
theorem dbl_bak (s : List W) (hs : s.length = 16) : dbl (bak s) = s := by
  have h := fold_fold qr uq qr_uq places.reverse (fun p hp => places_four p (by simpa using hp)) s hs
  rw [List.reverse_reverse] at h
  exact h

end Go.Proofs.Ytdkimnigckpncaa.Qu
