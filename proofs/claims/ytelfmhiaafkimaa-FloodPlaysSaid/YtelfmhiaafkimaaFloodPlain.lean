/- What some who crash have said: who knows what, by places and by values. No program in sight. -/
import Derived.Test.YtelfmhiaafkimaaHp2
set_option linter.unusedSimpArgs false
set_option linter.unusedVariables false
namespace Go.Proofs.Ytelfmhiaafkimaa
open Go Go.RowKit Go.VC
set_option linter.unusedSimpArgs false
set_option linter.unusedVariables false

structure CrashC where
  who : Int
  round : Int
  to : Nat
/-- Does one send to another one in a round? -/
def sendsB (cr : List CrashC) (k j r : Nat) : Bool := cr.all fun c => !(decide (c.who = (k : Int)) && (decide (c.round < (r : Int)) || (decide (c.round = (r : Int)) && !c.to.testBit j)))
/-- The program's: by the first crash of one. -/
def sends1 (cr : List CrashC) (k j r : Nat) : Bool := match cr.find? fun c => decide (c.who = (k : Int)) with
  | none => true
  | some c => decide ((r : Int) < c.round) || (decide ((r : Int) = c.round) && c.to.testBit j)
theorem sends1_eq {k j r : Nat} : ∀ {cr : List CrashC}, cr.Pairwise (fun a b => a.who ≠ b.who) → sends1 cr k j r = sendsB cr k j r
  | [], _ => rfl
  | c :: cr, h => by
    obtain ⟨h1, h2⟩ := List.pairwise_cons.1 h
    unfold sends1 sendsB
    rw [List.find?_cons, List.all_cons]
    by_cases e : c.who = (k : Int)
    · rw [decide_eq_true e]
      have hall : (cr.all fun c => !(decide (c.who = (k : Int)) && (decide (c.round < (r : Int)) || (decide (c.round = (r : Int)) && !c.to.testBit j)))) = true := List.all_eq_true.2 fun d hd => by
        have : ¬ d.who = (k : Int) := fun e2 => h1 d hd (e.trans e2.symm)
        rw [decide_eq_false this]; rfl
      rw [hall, Bool.and_true]
      show (decide ((r : Int) < c.round) || (decide ((r : Int) = c.round) && c.to.testBit j)) = !(true && (decide (c.round < (r : Int)) || (decide (c.round = (r : Int)) && !c.to.testBit j)))
      rcases Int.lt_trichotomy (r : Int) c.round with h | h | h
      · rw [decide_eq_true h, decide_eq_false (show ¬ (r : Int) = c.round by omega), decide_eq_false (show ¬ c.round < (r : Int) by omega), decide_eq_false (show ¬ c.round = (r : Int) by omega)]; rfl
      · rw [decide_eq_false (show ¬ (r : Int) < c.round by omega), decide_eq_true h, decide_eq_false (show ¬ c.round < (r : Int) by omega), decide_eq_true h.symm]; cases c.to.testBit j <;> rfl
      · rw [decide_eq_false (show ¬ (r : Int) < c.round by omega), decide_eq_false (show ¬ (r : Int) = c.round by omega), decide_eq_true h, decide_eq_false (show ¬ c.round = (r : Int) by omega)]; rfl
    · rw [decide_eq_false e]
      have := sends1_eq (k := k) (j := j) (r := r) h2
      unfold sends1 sendsB at this
      rw [Bool.false_and, Bool.not_false, Bool.true_and]
      exact this
/-- Who knows whose value, behind so many rounds. -/
def knB (n : Nat) (cr : List CrashC) : Nat → Nat → Nat → Bool
  | 0, j, i => decide (i = j)
  | r + 1, j, i => (List.range n).any fun k => (decide (k = j) || sendsB cr k j r) && knB n cr r k i
/-- The same by values. -/
def hasV (val : Nat → Int) (n : Nat) (cr : List CrashC) (r j : Nat) (v : Int) : Prop := ∃ i, i < n ∧ knB n cr r j i = true ∧ val i = v
theorem hasV_zero {val : Nat → Int} {n : Nat} {cr : List CrashC} {j : Nat} {v : Int} (hj : j < n) : hasV val n cr 0 j v ↔ v = val j := by
  unfold hasV knB
  exact ⟨fun ⟨i, h1, h2, h3⟩ => by rw [decide_eq_true_eq] at h2; rw [← h3, h2], fun h => ⟨j, hj, decide_eq_true rfl, h.symm⟩⟩
theorem hasV_succ {val : Nat → Int} {n : Nat} {cr : List CrashC} {r j : Nat} {v : Int} (hj : j < n) : hasV val n cr (r + 1) j v ↔ hasV val n cr r j v ∨ ∃ k, k < n ∧ k ≠ j ∧ sendsB cr k j r = true ∧ hasV val n cr r k v := by
  unfold hasV
  constructor
  · rintro ⟨i, h1, h2, h3⟩
    unfold knB at h2
    obtain ⟨k, hk, h4⟩ := List.any_eq_true.1 h2
    rw [Bool.and_eq_true, Bool.or_eq_true, decide_eq_true_eq] at h4
    by_cases e : k = j
    · subst e; exact Or.inl ⟨i, h1, h4.2, h3⟩
    · exact Or.inr ⟨k, List.mem_range.1 hk, e, h4.1.resolve_left e, i, h1, h4.2, h3⟩
  · rintro (⟨i, h1, h2, h3⟩ | ⟨k, hk, hkj, hs, i, h1, h2, h3⟩)
    · refine ⟨i, h1, ?_, h3⟩
      unfold knB
      exact List.any_eq_true.2 ⟨j, List.mem_range.2 hj, by rw [decide_eq_true rfl, h2]; rfl⟩
    · refine ⟨i, h1, ?_, h3⟩
      unfold knB
      exact List.any_eq_true.2 ⟨k, List.mem_range.2 hk, by rw [hs, h2, Bool.or_true]; rfl⟩
/-- One knows its own. -/
theorem knB_self {n : Nat} {cr : List CrashC} {j : Nat} (hj : j < n) : ∀ r, knB n cr r j j = true
  | 0 => decide_eq_true rfl
  | r + 1 => by
    unfold knB
    exact List.any_eq_true.2 ⟨j, List.mem_range.2 hj, by rw [decide_eq_true rfl, knB_self hj r]; rfl⟩
/-- The least that one knows, as the document finds it. -/
def leastF (val : Nat → Int) (kn : Nat → Bool) (z : Int) : Nat → Int
  | 0 => z
  | i + 1 => if kn i = true ∧ val i < leastF val kn z i then val i else leastF val kn z i
theorem leastF_spec {val : Nat → Int} {kn : Nat → Bool} {z : Int} : ∀ n, leastF val kn z n ≤ z ∧ (∀ i, i < n → kn i = true → leastF val kn z n ≤ val i) ∧ (leastF val kn z n = z ∨ ∃ i, i < n ∧ kn i = true ∧ leastF val kn z n = val i)
  | 0 => ⟨Int.le_refl _, fun i hi => absurd hi (Nat.not_lt_zero i), Or.inl rfl⟩
  | n + 1 => by
    obtain ⟨h1, h2, h3⟩ := leastF_spec (val := val) (kn := kn) (z := z) n
    unfold leastF
    split
    · rename_i hc
      refine ⟨by omega, fun i hi hk => ?_, Or.inr ⟨n, by omega, hc.1, rfl⟩⟩
      by_cases e : i = n
      · rw [e]; exact Int.le_refl _
      · have := h2 i (by omega) hk; omega
    · rename_i hc
      refine ⟨h1, fun i hi hk => ?_, h3.imp id fun ⟨i, hi, hh⟩ => ⟨i, by omega, hh⟩⟩
      by_cases e : i = n
      · subst e; exact Int.not_lt.1 fun hh => hc ⟨hk, hh⟩
      · exact h2 i (by omega) hk
end Go.Proofs.Ytelfmhiaafkimaa
