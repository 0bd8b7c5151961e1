/- A ledger: what a pay comes to. No program in sight. -/
import Derived.Test.YtelfmhiaafkimaaDoorRecs
set_option linter.unusedSimpArgs false
set_option linter.unusedVariables false
namespace Go.Proofs.YtelfmhiaafkimaaDoor
open Go Go.RowKit Go.VC
structure Acc where
  n : Int
  s : Int
structure PayC where
  fr : Int
  to : Int
  ser : Int
  n : Int
def maxV : Int := 1099511627776
def lcode (k : Nat) (p : PayC) (l : Nat → Acc) : Int :=
  if (p.fr < 0 ∨ k ≤ p.fr) ∨ (p.to < 0 ∨ k ≤ p.to) ∨ p.n < 1 then 2
  else if p.ser ≠ (l p.fr.toNat).s then 3
  else if (l p.fr.toNat).n < p.n then 5
  else if p.fr ≠ p.to ∧ maxV - p.n < (l p.to.toNat).n then 7
  else 0
/-- What three stores leave: less at the one, more at the other, one more paid. -/
def lmove (a b : Nat) (x : Int) (l : Nat → Acc) : Nat → Acc :=
  let l1 := upd l a { l a with n := (l a).n - x }
  let l2 := upd l1 b { l1 b with n := (l1 b).n + x }
  upd l2 a { l2 a with s := (l2 a).s + 1 }
def lnext (k : Nat) (p : PayC) (l : Nat → Acc) : Nat → Acc := if lcode k p l = 0 then lmove p.fr.toNat p.to.toNat p.n l else l
def lst (k : Nat) (m : Nat → Int) (f : Nat → PayC) : Nat → Nat → Acc
  | 0 => fun i => ⟨m i, 0⟩
  | t + 1 => lnext k (f t) (lst k m f t)
def lcodes (k : Nat) (m : Nat → Int) (f : Nat → PayC) (t : Nat) : Int := lcode k (f t) (lst k m f t)
/-- All money is there and small; a count is at most the number of pays. -/
structure LOK (t : Nat) (l : Nat → Acc) : Prop where
  n : ∀ i, 0 ≤ (l i).n ∧ (l i).n ≤ maxV
  s : ∀ i, 0 ≤ (l i).s ∧ (l i).s ≤ t
theorem updA {f : Nat → Acc} {a : Nat} {p : Acc} {R : Acc → Prop} (h : ∀ i, R (f i)) (hp : R p) (i : Nat) : R (upd f a p i) := by
  by_cases e : i = a
  · subst e; rw [upd_same]; exact hp
  · rw [upd_other e]; exact h i
theorem lmove_s {a b : Nat} {x : Int} {l : Nat → Acc} (i : Nat) : (lmove a b x l i).s = (l i).s + if i = a then 1 else 0 := by
  unfold lmove
  by_cases h1 : i = a
  · subst h1
    rw [upd_same, if_pos rfl]
    by_cases h2 : i = b
    · subst h2; rw [upd_same, upd_same]
    · rw [upd_other h2, upd_same]
  · rw [upd_other h1, if_neg h1, Int.add_zero]
    by_cases h2 : i = b
    · subst h2; rw [upd_same, upd_other h1]
    · rw [upd_other h2, upd_other h1]
theorem lmove_n {a b : Nat} {x : Int} {l : Nat → Acc} (i : Nat) : (lmove a b x l i).n = (l i).n - (if i = a then x else 0) + (if i = b then x else 0) := by
  unfold lmove
  by_cases h1 : i = a
  · subst h1
    rw [upd_same, if_pos rfl]
    by_cases h2 : i = b
    · subst h2; rw [upd_same, upd_same, if_pos rfl]
    · rw [upd_other h2, upd_same, if_neg h2, Int.add_zero]
  · rw [upd_other h1, if_neg h1]
    by_cases h2 : i = b
    · subst h2; rw [upd_same, upd_other h1, if_pos rfl, Int.sub_zero]
    · rw [upd_other h2, upd_other h1, if_neg h2]; omega
theorem lok_next {k t : Nat} {p : PayC} {l : Nat → Acc} (h : LOK t l) : LOK (t + 1) (lnext k p l) := by
  have hs : ∀ i, 0 ≤ (l i).s ∧ (l i).s ≤ (t + 1 : Nat) := fun i => by have := h.s i; omega
  unfold lnext
  split
  · rename_i hc
    unfold lcode at hc
    split at hc; · omega
    split at hc; · omega
    split at hc; · omega
    split at hc; · omega
    rename_i h1 h2 h3 h4
    refine ⟨fun i => ?_, fun i => ?_⟩
    · rw [lmove_n]
      have hi := h.n i
      have ha := h.n p.fr.toNat
      have hb := h.n p.to.toNat
      by_cases e1 : i = p.fr.toNat
      · subst e1
        rw [if_pos rfl]
        split <;> omega
      · rw [if_neg e1]
        by_cases e2 : i = p.to.toNat
        · subst e2
          rw [if_pos rfl]
          have : p.fr ≠ p.to := fun e => e1 (by rw [e])
          have h5 : ¬ maxV - p.n < (l p.to.toNat).n := fun hh => h4 ⟨this, hh⟩
          omega
        · rw [if_neg e2]; omega
    · rw [lmove_s]
      have := h.s i
      split <;> omega
  · exact ⟨h.n, hs⟩
theorem lok {k : Nat} {m : Nat → Int} {f : Nat → PayC} (hm : ∀ i, 0 ≤ m i ∧ m i ≤ maxV) : ∀ t, LOK t (lst k m f t)
  | 0 => ⟨hm, fun i => ⟨Int.le_refl _, Int.le_refl _⟩⟩
  | t + 1 => lok_next (lok hm t)
end Go.Proofs.YtelfmhiaafkimaaDoor
