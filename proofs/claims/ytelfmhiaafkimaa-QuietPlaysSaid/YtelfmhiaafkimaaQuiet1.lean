/- When all rests: bounds; where all lies. -/
import Derived.Test.YtelfmhiaafkimaaQuietPlain
import Derived.Test.YtelfmhiaafkimaaTbl
import Derived.Test.YtelfmhiaafkimaaFa
namespace Go.Proofs.Ytelfmhiaafkimaa
open Go Go.RowKit Go.VC
set_option linter.unusedSimpArgs false
set_option linter.unusedVariables false

structure QB (A D : Nat) (s : QS) : Prop where
  ca : ∀ i j, s.ca i j ≤ A
  an : ∀ i j, s.an i j ≤ D
  ow : ∀ i, -(A : Int) ≤ (s.pr i).owes ∧ (s.pr i).owes ≤ A
  to : ∀ i, -1 ≤ (s.pr i).to ∧ (s.pr i).to ≤ 10
theorem set2_le {m : Nat → Nat → Nat} {a b v T : Nat} (h : ∀ i j, m i j ≤ T) (hv : v ≤ T) (i j : Nat) : set2 m a b v i j ≤ T := by unfold set2; split; exact hv; exact h i j
theorem QB.mono {A A' D D' : Nat} {s : QS} (h : QB A D s) (h1 : A ≤ A') (h2 : D ≤ D') : QB A' D' s :=
  ⟨fun i j => Nat.le_trans (h.ca i j) h1, fun i j => Nat.le_trans (h.an i j) h2, fun i => by have := h.ow i; omega, h.to⟩
theorem updQ {f : Nat → QP} {a : Nat} {p : QP} {R : QP → Prop} (h : ∀ i, R (f i)) (hp : R p) (i : Nat) : R (upd f a p i) := by
  by_cases e : i = a
  · subst e; rw [upd_same]; exact hp
  · rw [upd_other e]; exact h i
theorem qb_does {A D a b : Nat} {kind : Int} {s : QS} (h : QB A D s) (hb : kind ≠ 3 → b ≤ 10) : QB (A + 1) (D + 1) (qdoes a b kind s).2 := by
  have h0 := h.mono (Nat.le_succ A) (Nat.le_succ D)
  have ha := h.ow a
  have hta := h.to a
  have hca := h.ca
  have han := h.an
  unfold qdoes
  split
  · split
    · exact h0
    · exact ⟨set2_le h0.ca (by have := h.ca a b; omega), h0.an, updQ (R := fun p => -((A + 1 : Nat) : Int) ≤ p.owes ∧ p.owes ≤ ((A + 1 : Nat) : Int)) h0.ow (by show _ ≤ (s.pr a).owes + 1 ∧ (s.pr a).owes + 1 ≤ _; omega), updQ (R := fun p => -1 ≤ p.to ∧ p.to ≤ 10) h.to hta⟩
  split
  · split
    · exact h0
    · exact ⟨h0.ca, h0.an, updQ (R := fun p => -((A + 1 : Nat) : Int) ≤ p.owes ∧ p.owes ≤ ((A + 1 : Nat) : Int)) h0.ow (h0.ow a), updQ (R := fun p => -1 ≤ p.to ∧ p.to ≤ 10) h.to hta⟩
  rename_i hk1 hk3
  have hb := hb hk3
  split
  · split
    · exact h0
    split
    · exact ⟨set2_le h0.ca (by have := h.ca b a; omega), set2_le h0.an (by have := h.an a b; omega), updQ (R := fun p => -((A + 1 : Nat) : Int) ≤ p.owes ∧ p.owes ≤ ((A + 1 : Nat) : Int)) h0.ow (h0.ow a), updQ (R := fun p => -1 ≤ p.to ∧ p.to ≤ 10) h.to hta⟩
    · exact ⟨set2_le h0.ca (by have := h.ca b a; omega), h0.an, updQ (R := fun p => -((A + 1 : Nat) : Int) ≤ p.owes ∧ p.owes ≤ ((A + 1 : Nat) : Int)) h0.ow (h0.ow a), updQ (R := fun p => -1 ≤ p.to ∧ p.to ≤ 10) h.to (by show -1 ≤ (b : Int) ∧ (b : Int) ≤ 10; omega)⟩
  · split
    · exact h0
    · exact ⟨h0.ca, set2_le h0.an (by have := h.an b a; omega), updQ (R := fun p => -((A + 1 : Nat) : Int) ≤ p.owes ∧ p.owes ≤ ((A + 1 : Nat) : Int)) h0.ow (by show _ ≤ (s.pr a).owes - 1 ∧ (s.pr a).owes - 1 ≤ _; omega), updQ (R := fun p => -1 ≤ p.to ∧ p.to ≤ 10) h.to hta⟩
theorem qb_settle {A D a : Nat} {s : QS} (h : QB A D s) : QB A (D + 1) (qsettle a s) := by
  have h0 := h.mono (Nat.le_refl A) (Nat.le_succ D)
  unfold qsettle
  split
  · exact h0
  split
  · exact ⟨h0.ca, h0.an, updQ (R := fun p => -(A : Int) ≤ p.owes ∧ p.owes ≤ A) h.ow (h.ow a), updQ (R := fun p => -1 ≤ p.to ∧ p.to ≤ 10) h.to (h.to a)⟩
  · exact ⟨h0.ca, set2_le h0.an (by have := h.an a (s.pr a).to.toNat; omega), updQ (R := fun p => -(A : Int) ≤ p.owes ∧ p.owes ≤ A) h.ow (h.ow a), updQ (R := fun p => -1 ≤ p.to ∧ p.to ≤ 10) h.to (h.to a)⟩
theorem qb0 : QB 0 0 qs0 := by
  refine ⟨fun _ _ => Nat.le_refl _, fun _ _ => Nat.le_refl _, fun i => ?_, fun i => ?_⟩
  · show -((0 : Nat) : Int) ≤ (if i = 0 then (⟨true, true, -1, 0⟩ : QP) else ⟨false, false, 0, 0⟩).owes ∧ (if i = 0 then (⟨true, true, -1, 0⟩ : QP) else ⟨false, false, 0, 0⟩).owes ≤ ((0 : Nat) : Int)
    split <;> exact ⟨by decide, by decide⟩
  · show -1 ≤ (if i = 0 then (⟨true, true, -1, 0⟩ : QP) else ⟨false, false, 0, 0⟩).to ∧ (if i = 0 then (⟨true, true, -1, 0⟩ : QP) else ⟨false, false, 0, 0⟩).to ≤ 10
    split <;> exact ⟨by decide, by decide⟩
theorem qb_step {n t : Nat} {c : CalmC} {s : QS} (hn : n ≤ 6) (h : QB t (2 * t) s) : QB (t + 1) (2 * (t + 1)) (qstep n c s).2 := by
  have h0 := h.mono (Nat.le_succ t) (show 2 * t ≤ 2 * (t + 1) by omega)
  unfold qstep
  split
  · exact h0
  split
  · exact h0
  rename_i h1 h2
  have hd := qb_does (a := c.who.toNat) (b := c.other.toNat) (kind := c.kind) h (fun hk => by omega)
  split
  · exact qb_settle hd
  · exact h0
theorem qb {n : Nat} (hn : n ≤ 6) (f : Nat → CalmC) : ∀ t, QB t (2 * t) (qst n f t)
  | 0 => qb0
  | t + 1 => qb_step hn (qb hn f t)

theorem laidOut : laidOutB Try.prog = true := by kernel_rfl
noncomputable abbrev EQ : KE Try.prog 135 (Int × Int) := KE.two laidOut (by kernel_rfl)
abbrev nilS : Value := .slice none 0 0
abbrev ptrV (b : Nat) : Value := .pointer (some ⟨b, 0, none⟩)
structure QA where
  wb : Nat
  gv : Nat
  mc : Nat
  ma : Nat
/-- What the two maps hold. -/
structure QM where
  kc : Nat
  Mc : Int × Int → Option Value
  ka : Nat
  Ma : Int × Int → Option Value
abbrev worldQ (n : Nat) (a : QA) (d : Bool) : List Value := [.slice (some ⟨a.gv, 0, none⟩) n n, .map (some a.mc), .map (some a.ma), .bool d]
abbrev prL (p : QP) : List Value := [.bool p.works, .bool p.bound, .int .i64 p.to, .int .i64 p.owes]
noncomputable abbrev QObs (n : Nat) (a : QA) (s : QS) (q : QM) : List Ob := [oBox a.wb (worldQ n a s.done), oRecs a.gv n 4 (fun i => prL (s.pr i)), oMap EQ a.mc q.kc q.Mc, oMap EQ a.ma q.ka q.Ma]
/-- A map holds what a table holds. -/
structure MR (n : Nat) (f : Nat → Nat → Nat) (M : Int × Int → Option Value) : Prop where
  val : ∀ i j, i < n → j < n → (M ((i : Int), (j : Int))).getD (.int .i64 0) = .int .i64 (f i j)
  key : ∀ p, (M p).isSome = true → ∃ i j : Nat, i < n ∧ j < n ∧ p = ((i : Int), (j : Int))
theorem MR.upd {n i j v : Nat} {f : Nat → Nat → Nat} {M : Int × Int → Option Value} (h : MR n f M) (hi : i < n) (hj : j < n) : MR n (set2 f i j v) (updV M ((i : Int), (j : Int)) (.int .i64 v)) := by
  refine ⟨fun x y hx hy => ?_, fun p hp => ?_⟩
  · by_cases e : x = i ∧ y = j
    · obtain ⟨rfl, rfl⟩ := e
      rw [updV_same]; unfold set2; rw [if_pos ⟨rfl, rfl⟩]; rfl
    · rw [updV_other (fun hh => e ⟨by have := congrArg Prod.fst hh; simp at this; omega, by have := congrArg Prod.snd hh; simp at this; omega⟩), h.val x y hx hy]
      unfold set2; rw [if_neg e]
  · by_cases e : p = ((i : Int), (j : Int))
    · exact ⟨i, j, hi, hj, e⟩
    · rw [updV_other e] at hp; exact h.key p hp
theorem MR.none (n : Nat) : MR n (fun _ _ => 0) (fun _ => Option.none) := ⟨fun _ _ _ _ => rfl, fun _ h => by cases h⟩
structure QR (n : Nat) (s : QS) (q : QM) : Prop where
  ca : MR n s.ca q.Mc
  an : MR n s.an q.Ma
def QPost (B n : Nat) (a : QA) (s : QS) (q : QM) (w : World) (d : Nat) (v : Value) (s' : QS) (e : Ending) (w' : World) : Prop :=
  e = .returned v ∧ ∃ q', St B (QObs n a s q) w (QObs n a s' q') w' ∧ QR n s' q' ∧ q'.kc ≤ q.kc + d ∧ q'.ka ≤ q.ka + d
section
variable {B n : Nat} {a : QA} {s : QS} {q : QM} {w : World}
theorem QPost.same (h : Hp B (QObs n a s q) w) (hq : QR n s q) {w' : World} (hB : Below w.heap.size w w') {v : Value} {d : Nat} {s' : QS} (hs : s' = s) : QPost B n a s q w d v s' (.returned v) w' := by
  subst hs
  exact ⟨rfl, q, h.below_st hB, hq, Nat.le_add_right _ _, Nat.le_add_right _ _⟩
theorem QPost.lift {w2 w' : World} {d : Nat} {v : Value} {s' : QS} {e : Ending} (h : Hp B (QObs n a s q) w) (hB : Below w.heap.size w w2) (k : QPost B n a s q w2 d v s' e w') : QPost B n a s q w d v s' e w' := by
  obtain ⟨h1, q', h3, h4, h5⟩ := k
  exact ⟨h1, q', (h.below_st hB).trans h3, h4, h5⟩
theorem EQ_ok {i j : Nat} (hi : i ≤ 1000) (hj : j ≤ 1000) : EQ.ok ((i : Int), (j : Int)) := fun x hx => by
  have hx : x ∈ [(i : Int), (j : Int)] := hx
  simp only [List.mem_cons, List.not_mem_nil, or_false] at hx
  rcases hx with rfl | rfl <;> exact fits_i64 (by omega) (by omega)
end
end Go.Proofs.Ytelfmhiaafkimaa
