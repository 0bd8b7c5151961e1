/- Who waits for whom, at once and by others. Plain. -/
import Derived.Test.YtdcjacloejhmlaaFa
import Derived.Test.YtdcjacloejhmlaaMat
namespace Go.Proofs.Ytdcjacloejhmlaa
open Go Go.RowKit Go.VC
set_option linter.unusedSimpArgs false
set_option linter.unusedVariables false

section
variable (who : Nat → Int) (L : Nat → List Int)
/-- By the first p needs, and the first q names of the next one. -/
def edM (p q a b : Nat) : Bool := (List.range p).any (fun x => decide (who x = a) && (L x).contains (b : Int)) || (decide (who p = a) && ((L p).take q).contains (b : Int))
/-- Ways by those below k alone. -/
def wTo (len : Nat) : Nat → Nat → Nat → Bool
  | 0, a, b => edM who L len 0 a b
  | k + 1, a, b => wTo len k a b || (wTo len k a k && wTo len k k b)
def wM (len k i j a b : Nat) : Bool := if a < i ∨ a = i ∧ b < j then wTo who L len (k + 1) a b else wTo who L len k a b
end
variable {who : Nat → Int} {L : Nat → List Int}
theorem edM_start (a b : Nat) : edM who L 0 0 a b = false := by simp [edM]
theorem edM_zero {p : Nat} (a b : Nat) : edM who L p 0 a b = (List.range p).any (fun x => decide (who x = a) && (L x).contains (b : Int)) := by simp [edM]
theorem edM_row {p : Nat} (a b : Nat) : edM who L p (L p).length a b = edM who L (p + 1) 0 a b := by
  rw [edM_zero, List.range_succ, List.any_append]
  simp [edM]
theorem edM_set {p q W K : Nat} (hq : q < (L p).length) (hw : who p = W) (hk : (L p).getD q 0 = K) (a b : Nat) : (edM who L p q a b || decide (a = W ∧ b = K)) = edM who L p (q + 1) a b := by
  unfold edM
  rw [Bool.or_assoc]
  congr 1
  rw [List.take_succ_eq_append_getElem hq]
  have hk' : (L p)[q] = (K : Int) := by rw [← hk]; simp [hq]
  rw [hk', hw, Bool.eq_iff_iff]
  simp only [Bool.or_eq_true, Bool.and_eq_true, decide_eq_true_eq, List.contains_iff_mem, List.mem_append, List.mem_singleton]
  constructor
  · rintro (⟨h1, h2⟩ | ⟨h1, h2⟩)
    · exact ⟨h1, .inl h2⟩
    · exact ⟨by omega, .inr (by omega)⟩
  · rintro ⟨h1, h2 | h2⟩
    · exact .inl ⟨h1, h2⟩
    · exact .inr ⟨by omega, by omega⟩
theorem ed_iff {len a b : Nat} : edM who L len 0 a b = true ↔ ∃ x, x < len ∧ who x = a ∧ (b : Int) ∈ L x := by
  rw [edM_zero]
  simp [List.any_eq_true]

theorem wTo_left {len k i : Nat} : wTo who L len (k + 1) i k = wTo who L len k i k := by
  rw [wTo]; cases wTo who L len k i k <;> simp
theorem wTo_right {len k j : Nat} : wTo who L len (k + 1) k j = wTo who L len k k j := by
  rw [wTo]; cases wTo who L len k k j <;> simp
theorem wM_start {len k : Nat} : wM who L len k 0 0 = wTo who L len k := by funext a b; unfold wM; rw [if_neg (by omega)]
theorem wM_row {n len k i a b : Nat} (hb : b < n) : wM who L len k i n a b = wM who L len k (i + 1) 0 a b := by
  unfold wM
  by_cases h : a < i ∨ a = i ∧ b < n
  · rw [if_pos h, if_pos (by omega)]
  · rw [if_neg h, if_neg (by omega)]
theorem wM_end {n len k a b : Nat} (ha : a < n) : wM who L len k n 0 a b = wTo who L len (k + 1) a b := by unfold wM; rw [if_pos (.inl ha)]
theorem wM_left {len k i j : Nat} : wM who L len k i j i k = wTo who L len k i k := by unfold wM; split <;> first | exact wTo_left | rfl
theorem wM_right {len k i j : Nat} {b : Nat} : wM who L len k i j k b = wTo who L len k k b := by unfold wM; split <;> first | exact wTo_right | rfl
theorem wM_hit {len k i j : Nat} (h1 : wTo who L len k i k = true) (h2 : wTo who L len k k j = true) (a b : Nat) : (wM who L len k i j a b || decide (a = i ∧ b = j)) = wM who L len k i (j + 1) a b := by
  unfold wM
  by_cases h : a = i ∧ b = j
  · obtain ⟨rfl, rfl⟩ := h
    rw [decide_eq_true ⟨rfl, rfl⟩, Bool.or_true, if_pos (by omega), wTo, h1, h2]; simp
  · rw [decide_eq_false h, Bool.or_false]
    by_cases h3 : a < i ∨ a = i ∧ b < j
    · rw [if_pos h3, if_pos (by omega)]
    · rw [if_neg h3, if_neg (by omega)]
theorem wM_miss {len k i j : Nat} (h : ¬ (wTo who L len k i k = true ∧ wTo who L len k k j = true)) : wM who L len k i j = wM who L len k i (j + 1) := by
  funext a b
  unfold wM
  by_cases h1 : a < i ∨ a = i ∧ b < j
  · rw [if_pos h1, if_pos (by omega)]
  · rw [if_neg h1]
    by_cases h2 : a = i ∧ b = j
    · obtain ⟨rfl, rfl⟩ := h2
      rw [if_pos (by omega), wTo]
      cases h3 : wTo who L len k a k
      · simp
      · cases h4 : wTo who L len k k b
        · simp
        · exact absurd ⟨h3, h4⟩ h
    · rw [if_neg (by omega)]

theorem wTo_succ {len k i j : Nat} : wTo who L len (k + 1) i j = true ↔ wTo who L len k i j = true ∨ (wTo who L len k i k = true ∧ wTo who L len k k j = true) := by
  rw [wTo]; simp only [Bool.or_eq_true, Bool.and_eq_true]
theorem wTo_mono {len i j : Nat} : ∀ {k l : Nat}, k ≤ l → wTo who L len k i j = true → wTo who L len l i j = true
  | k, 0, h, hb => by obtain rfl : k = 0 := by omega
                      exact hb
  | k, l + 1, h, hb => by
    by_cases hk : k = l + 1
    · rw [← hk]; exact hb
    · exact wTo_succ.2 (.inl (wTo_mono (by omega) hb))
theorem wTo_trans {len : Nat} : ∀ {k m i j : Nat}, m < k → wTo who L len k i m = true → wTo who L len k m j = true → wTo who L len k i j = true
  | 0, m, i, j, h, _, _ => absurd h (by omega)
  | k + 1, m, i, j, h, h1, h2 => by
    rcases wTo_succ.1 h1 with a | ⟨a1, a2⟩ <;> rcases wTo_succ.1 h2 with b | ⟨b1, b2⟩
    · by_cases hm : m = k
      · subst hm; exact wTo_succ.2 (.inr ⟨a, b⟩)
      · exact wTo_succ.2 (.inl (wTo_trans (by omega) a b))
    · by_cases hm : m = k
      · subst hm; exact wTo_succ.2 (.inr ⟨a, b2⟩)
      · exact wTo_succ.2 (.inr ⟨wTo_trans (by omega) a b1, b2⟩)
    · by_cases hm : m = k
      · subst hm; exact wTo_succ.2 (.inr ⟨a1, b⟩)
      · exact wTo_succ.2 (.inr ⟨a1, wTo_trans (by omega) a2 b⟩)
    · exact wTo_succ.2 (.inr ⟨a1, b2⟩)

/-- A way, of one step or more. -/
inductive Way (who : Nat → Int) (L : Nat → List Int) (len : Nat) : Nat → Nat → Prop
  | one {a b : Nat} : edM who L len 0 a b = true → Way who L len a b
  | more {a b c : Nat} : Way who L len a b → edM who L len 0 b c = true → Way who L len a c
theorem Way.trans {len a b c : Nat} (h : Way who L len a b) (k : Way who L len b c) : Way who L len a c := by
  induction k with
  | one e => exact .more h e
  | more _ e ih => exact .more ih e
theorem wTo_way {len : Nat} : ∀ {k i j : Nat}, wTo who L len k i j = true → Way who L len i j
  | 0, i, j, h => .one h
  | k + 1, i, j, h => by
    rcases wTo_succ.1 h with h | ⟨h1, h2⟩
    · exact wTo_way h
    · exact (wTo_way h1).trans (wTo_way h2)
theorem way_wTo {len n : Nat} (hn : ∀ a b, edM who L len 0 a b = true → a < n ∧ b < n) {i j : Nat} (h : Way who L len i j) : wTo who L len n i j = true ∧ j < n := by
  induction h with
  | one e => exact ⟨wTo_mono (k := 0) (Nat.zero_le _) e, (hn _ _ e).2⟩
  | more h e ih => exact ⟨wTo_trans ih.2 ih.1 (wTo_mono (k := 0) (Nat.zero_le _) e), (hn _ _ e).2⟩
end Go.Proofs.Ytdcjacloejhmlaa
