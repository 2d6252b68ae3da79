/-
  A region that draws its order, with one call (or store) that parts it in two phases: operation c. While c has not come up the world meets S1; from then on it meets S2. An operation for which c waits may be taken first if it yields its value in every world that meets S1; any other one if it does so in every world that meets S2.
-/
import Derived.OrdersHeld
import Derived.WalkKit
namespace Go.Proofs.Ytdkimnigckpncaa.Ph
open Go

section
variable {P : Program} {ops : Array Oper} {Q : Exit → Act → World → Prop} {c : Nat} {S1 S2 : World → Prop}

/-- What the world meets when 'listed' have come up. -/
def at_ (c : Nat) (S1 S2 : World → Prop) (listed : Array Bool) (w : World) : Prop := if listed.getD c true = false then S1 w else S2 w

/-- Whatever order is picked from here on; behind each operation the world meets what its phase asks. -/
def any (P : Program) (ops : Array Oper) (Q : Exit → Act → World → Prop) (c : Nat) (S1 S2 : World → Prop) : Nat → Array Bool → Act → World → Prop
  | 0, L, a, w => Region.ready .any ops L = [] ∧ Q .normal a w
  | f + 1, L, a, w => (Region.ready .any ops L = [] → Q .normal a w) ∧
    ∀ j ∈ Region.ready .any ops L, wpOp P ops Q j (fun a' w' => at_ c S1 S2 (L.setIfInBounds j true) w' ∧ any P ops Q c S1 S2 f (L.setIfInBounds j true) a' w') a w

theorem any_wpAny : ∀ (f : Nat) (L : Array Bool) (a : Act) (w : World), any P ops Q c S1 S2 f L a w → wpAny P .any ops Q f L a w
  | 0, _, _, _, h => h
  | f + 1, _, _, _, h => ⟨h.1, fun j hj => wpOp_mono (fun a' w' k => any_wpAny f _ a' w' k.2) (h.2 j hj)⟩

/-- Does operation c wait for operation i? -/
def waits (ops : Array Oper) (c i : Nat) : Bool := ((ops[c]?).map (·.after.any fun e => Region.binds .any e && e.on == i)).getD false

theorem bit_set {L : Array Bool} {i c : Nat} (h : i ≠ c) : (L.setIfInBounds i true).getD c true = L.getD c true := getD_set_ne true h

theorem at_set {L : Array Bool} {i : Nat} {w : World} (h : i ≠ c) : at_ c S1 S2 (L.setIfInBounds i true) w ↔ at_ c S1 S2 L w := by
  unfold at_; rw [bit_set h]

/-- The heart: i, which may come up, comes first. R: what the world meets till i comes up. -/
theorem first {i : Nat} {oi : Oper} {v : Value} {R : World → Prop} (hi : ops[i]? = some oi) (hic : i ≠ c) (hns : Region.noSelect ops = true)
    (hQ : ∀ ch a w, Q (.panic ch) (a.put oi.dst v) w → Q (.panic ch) a w)
    (hR : (waits ops c i = true ∧ ∀ w, S1 w → R w) ∨ ((∀ w, S1 w → R w) ∧ ∀ w, S2 w → R w)) :
    ∀ (f : Nat) (L : Array Bool) (a : Act) (w : World),
      (∀ j oj, ops[j]? = some oj → j ≠ i → L.getD j true = false → (∀ e ∈ oj.after, Region.binds .any e = true → e.on ≠ i) → oi.apart ops oj = true) →
      i ∈ Region.ready .any ops L → YieldsIf P ops R oi v a → (waits ops c i = true → L.getD c true = false) → at_ c S1 S2 L w →
      any P ops Q c S1 S2 f (L.setIfInBounds i true) (a.put oi.dst v) w → any P ops Q c S1 S2 (f + 1) L a w := by
  have key : ∀ (L : Array Bool) (w : World), (waits ops c i = true → L.getD c true = false) → at_ c S1 S2 L w → R w := by
    intro L w hw hat
    unfold at_ at hat
    rcases hR with ⟨h1, h2⟩ | ⟨h1, h2⟩
    · rw [if_pos (hw h1)] at hat
      exact h2 w hat
    · split at hat
      · exact h1 w hat
      · exact h2 w hat
  intro f
  induction f with
  | zero =>
    intro L a w _ hr hy hw hat H
    refine ⟨fun h0 => absurd hr (by rw [h0]; simp), fun j hj => ?_⟩
    by_cases e : j = i
    · subst e
      exact hy.wpOp hi (key L w hw hat) ⟨(at_set hic).2 hat, H⟩
    · have := ready_mono hj e
      rw [H.1] at this
      cases this
  | succ f ih =>
    intro L a w hfree hr hy hw hat H
    refine ⟨fun h0 => absurd hr (by rw [h0]; simp), fun j hj => ?_⟩
    by_cases e : j = i
    · subst e
      exact hy.wpOp hi (key L w hw hat) ⟨(at_set hic).2 hat, H⟩
    · obtain ⟨hju, oj, hoj, hdeps⟩ := mem_ready.1 hj
      have hiu : L.getD i true = false := (mem_ready.1 hr).1
      -- j does not wait for i
      have hno : ∀ e ∈ oj.after, Region.binds .any e = true → e.on ≠ i := by
        intro x hx hb heq
        have h1 := hdeps x hx hb
        rw [heq] at h1
        rcases Nat.lt_or_ge i L.size with hlt | hge
        · simp [hlt] at hiu h1
          rw [hiu] at h1
          cases h1
        · simp [Array.getElem?_eq_none hge] at h1
      have hjc : waits ops c i = true → j ≠ c := by
        intro hwt hjc
        subst hjc
        unfold waits at hwt
        rw [hoj] at hwt
        simp only [Option.map_some, Option.getD_some, Array.any_eq_true] at hwt
        obtain ⟨k, hk, hb⟩ := hwt
        simp only [Bool.and_eq_true, beq_iff_eq] at hb
        exact hno _ (Array.getElem_mem hk) hb.1 hb.2
      have h2 := wpOp_putIf hoj (hfree j oj hoj e hju hno) (fun cs b => Region.noSelect_spec hns i oi cs b hi) (fun cs b => Region.noSelect_spec hns j oj cs b hoj) hQ hy (H.2 j (ready_mono hj e))
      refine wpOp_mono (fun a' w' h3 => ?_) h2
      obtain ⟨hy', hat', hrest⟩ := h3
      rw [Array.setIfInBounds_comm _ _ (Ne.symm e)] at hat' hrest
      have hat2 : at_ c S1 S2 (L.setIfInBounds j true) w' := (at_set hic).1 hat'
      refine ⟨hat2, ih (L.setIfInBounds j true) a' w' ?_ (ready_mono hr (Ne.symm e)) hy' ?_ hat2 hrest⟩
      · intro k ok hk hki hun hnok
        refine hfree k ok hk hki ?_ hnok
        by_cases hjk : j = k
        · subst hjk; exact hju
        · rwa [getD_set_ne true hjk] at hun
      · intro hwt
        rw [bit_set (hjc hwt)]
        exact hw hwt

/-- Taken first, ahead of c, which waits for it: it yields its value in every world that meets S1. -/
theorem take1 {i : Nat} {d : Option Tmp} {oi : Oper} {v : Value} {f : Nat} {L : Array Bool} {a : Act} {w : World} (hi : ops[i]? = some oi) (hd : oi.dst = d)
    (hb : ((Region.noSelect ops && Region.free .any ops L i) && ((Region.ready .any ops L).contains i && (waits ops c i && (!L.getD c true && i != c)))) = true)
    (hQ : ∀ ch a w, Q (.panic ch) (a.put d v) w → Q (.panic ch) a w) (hg : Region.wanted oi (yielded ops a.tmps) = true)
    (hy : ∀ w, S1 w → (execOp a.eval oi).run P w = .ok (.value v) w) (hS : S1 w)
    (h : any P ops Q c S1 S2 f (L.setIfInBounds i true) (a.put d v) w) : any P ops Q c S1 S2 (f + 1) L a w := by
  subst hd
  simp only [Bool.and_eq_true, Bool.not_eq_true', bne_iff_ne] at hb
  obtain ⟨⟨h1, h2⟩, h3, h4, h5, h6⟩ := hb
  exact first (R := S1) hi h6 h1 hQ (.inl ⟨h4, fun _ h => h⟩) f L a w (Region.free_spec hi h2) (by simpa using h3) (.inl ⟨hg, hy⟩) (fun _ => h5) (by unfold at_; rw [if_pos h5]; exact hS) h

/-- Taken first, in either phase: it yields its value in every world that meets S2 (which S1 implies). -/
theorem take2 {i : Nat} {d : Option Tmp} {oi : Oper} {v : Value} {f : Nat} {L : Array Bool} {a : Act} {w : World} (hi : ops[i]? = some oi) (hd : oi.dst = d)
    (hb : ((Region.noSelect ops && Region.free .any ops L i) && ((Region.ready .any ops L).contains i && (!waits ops c i && i != c))) = true)
    (h12 : ∀ w, S1 w → S2 w)
    (hQ : ∀ ch a w, Q (.panic ch) (a.put d v) w → Q (.panic ch) a w) (hg : Region.wanted oi (yielded ops a.tmps) = true)
    (hy : ∀ w, S2 w → (execOp a.eval oi).run P w = .ok (.value v) w) (hS : at_ c S1 S2 L w)
    (h : any P ops Q c S1 S2 f (L.setIfInBounds i true) (a.put d v) w) : any P ops Q c S1 S2 (f + 1) L a w := by
  subst hd
  simp only [Bool.and_eq_true, Bool.not_eq_true', bne_iff_ne] at hb
  obtain ⟨⟨h1, h2⟩, h3, h4, h6⟩ := hb
  exact first (R := S2) hi h6 h1 hQ (.inr ⟨h12, fun _ h => h⟩) f L a w (Region.free_spec hi h2) (by simpa using h3) (.inl ⟨hg, hy⟩) (fun hw => absurd hw (by rw [h4]; simp)) hS h

/-- One alone may come up: it is carried out, and what its phase asks is shown behind it. -/
theorem only {i : Nat} {oi : Oper} {f : Nat} {L : Array Bool} {a : Act} {w : World} (hi : ops[i]? = some oi) (hr : Region.ready .any ops L = [i]) (hg : Region.wanted oi (yielded ops a.tmps) = true)
    (h : ∀ K : Act → World → Prop, (∀ a' w', at_ c S1 S2 (L.setIfInBounds i true) w' → any P ops Q c S1 S2 f (L.setIfInBounds i true) a' w' → K a' w') → oi.wp P a w K Q) :
    any P ops Q c S1 S2 (f + 1) L a w := by
  refine ⟨fun h0 => absurd (hr.symm.trans h0) (by simp), fun j hj => ?_⟩
  rw [hr] at hj
  have e : j = i := by simpa using hj
  subst e
  unfold wpOp
  simp only [hi]
  rw [if_pos hg]
  exact .inl (h _ fun a' w' h1 h2 => ⟨h1, h2⟩)

theorem done {L : Array Bool} {a : Act} {w : World} (hr : Region.ready .any ops L = []) (h : Q .normal a w) : ∀ f, any P ops Q c S1 S2 f L a w
  | 0 => ⟨hr, h⟩
  | _ + 1 => ⟨fun _ => h, by rw [hr]; simp⟩

theorem region {id : Nat} {a : Act} {w : World} (c : Nat) (S1 S2 : World → Prop) (hm : P.follows .mixedOrders = true)
    (h : any P ops Q c S1 S2 ops.size (Array.replicate ops.size false) a w.drew) : (Code.region id ops true).wp P Q a w :=
  wp_region_any hm (any_wpAny _ _ _ _ h)
end
end Go.Proofs.Ytdkimnigckpncaa.Ph
