/- Transactions in an order: what the program does, and why the document says the same. No program in sight. -/
import Derived.Test.YtelfmhiaafkimaaHp2
set_option linter.unusedSimpArgs false
set_option linter.unusedVariables false
namespace Go.Proofs.Ytelfmhiaafkimaa
open Go Go.RowKit Go.VC
set_option linter.unusedSimpArgs false
set_option linter.unusedVariables false

/-- Two acts clash. -/
def clashB (K T I : Nat → Int) (j i : Nat) : Bool := decide ((K j ≤ 2 ∧ K i ≤ 2) ∧ T j ≠ T i ∧ I j = I i ∧ (K j = 2 ∨ K i = 2))
/-- A transaction is there, by the first k acts. -/
def presB (T : Nat → Int) (k : Nat) (t : Int) : Bool := (List.range k).any fun i => decide (T i = t)
/-- One must stand behind another one, by the first k acts. -/
def edgeB (K T I : Nat → Int) (k : Nat) (t u : Int) : Bool := (List.range k).any fun i => decide (T i = t) && (List.range i).any fun j => decide (T j = u) && clashB K T I j i
/-- One may stand next. -/
def mayB (K T I : Nat → Int) (n : Nat) (out : List Int) (t : Int) : Bool := presB T n t && !out.contains t && (List.range 6).all fun u => !edgeB K T I n t u || out.contains (u : Int)
/-- The least that may: below 0, there is none. -/
def leastB (P : Int → Bool) : Nat → Int
  | 0 => -1
  | k + 1 => if 0 ≤ leastB P k then leastB P k else if P k = true then (k : Int) else -1
theorem leastB_spec (P : Int → Bool) : ∀ k, (leastB P k = -1 ∧ ∀ t : Nat, t < k → P t = false) ∨ ∃ t : Nat, leastB P k = t ∧ t < k ∧ P t = true ∧ ∀ u : Nat, u < t → P u = false
  | 0 => Or.inl ⟨rfl, fun t ht => absurd ht (Nat.not_lt_zero t)⟩
  | k + 1 => by
    unfold leastB
    rcases leastB_spec P k with ⟨h1, h2⟩ | ⟨t, h1, h2, h3, h4⟩
    · rw [h1, if_neg (by decide)]
      cases hp : P k with
      | true => exact Or.inr ⟨k, if_pos rfl, by omega, hp, h2⟩
      | false =>
        refine Or.inl ⟨if_neg (by intro h; cases h), fun t ht => ?_⟩
        by_cases e : t = k
        · rw [e]; exact hp
        · exact h2 t (by omega)
    · rw [h1, if_pos (by omega)]
      exact Or.inr ⟨t, rfl, by omega, h3, h4⟩
/-- What is found from above, each one taken over, is the least. -/
def downB (P : Int → Bool) (l : List Int) : Int := l.foldr (fun t z => if P t = true then t else z) (-1)
theorem downB_least (P : Int → Bool) : ∀ (l : List Int), (∀ t ∈ l, 0 ≤ t) → (downB P l = -1 ∧ ∀ t ∈ l, P t = false) ∨ (downB P l ∈ l ∧ P (downB P l) = true ∧ ∃ a b, l = a ++ downB P l :: b ∧ ∀ t ∈ a, P t = false)
  | [], _ => Or.inl ⟨rfl, fun t ht => by cases ht⟩
  | x :: l, h => by
    have h' : ∀ t ∈ l, 0 ≤ t := fun t ht => h t (by simp [ht])
    have e : downB P (x :: l) = if P x = true then x else downB P l := rfl
    cases hp : P x with
    | true =>
      rw [e, if_pos hp]
      exact Or.inr ⟨by simp, hp, [], l, rfl, fun t ht => by cases ht⟩
    | false =>
      rw [e, if_neg (by rw [hp]; intro h; cases h)]
      rcases downB_least P l h' with ⟨h1, h2⟩ | ⟨h1, h2, a, b, h3, h4⟩
      · refine Or.inl ⟨h1, fun t ht => ?_⟩
        rcases List.mem_cons.1 ht with rfl | ht
        · exact hp
        · exact h2 t ht
      · refine Or.inr ⟨List.mem_cons_of_mem _ h1, h2, x :: a, b, by rw [List.cons_append, ← h3], fun t ht => ?_⟩
        rcases List.mem_cons.1 ht with rfl | ht
        · exact hp
        · exact h4 t ht
/-- All transactions that are there, the least first. -/
def allT (T : Nat → Int) (n : Nat) : List Int := ((List.range 6).filter fun t => presB T n (t : Nat)).map fun t => ((t : Nat) : Int)
/-- The order; none: there is none. -/
def orderF (K T I : Nat → Int) (n : Nat) : Nat → List Int → Option (List Int)
  | 0, out => some out
  | m + 1, out => if leastB (mayB K T I n out) 6 < 0 then none else orderF K T I n m (out ++ [leastB (mayB K T I n out) 6])
def orderL (K T I : Nat → Int) (n : Nat) : Option (List Int) := orderF K T I n (allT T n).length []
theorem mem_allT {T : Nat → Int} {n : Nat} {t : Int} : t ∈ allT T n ↔ ∃ k : Nat, t = k ∧ k < 6 ∧ presB T n k = true := by
  unfold allT
  simp only [List.mem_map, List.mem_filter, List.mem_range]
  exact ⟨fun ⟨k, ⟨h1, h2⟩, h3⟩ => ⟨k, h3.symm, h1, h2⟩, fun ⟨k, h3, h1, h2⟩ => ⟨k, ⟨h1, h2⟩, h3.symm⟩⟩
/-- The document's search over those that are there comes to the least of all. -/
theorem downB_eq {K T I : Nat → Int} {n : Nat} {out : List Int} : downB (mayB K T I n out) (allT T n) = leastB (mayB K T I n out) 6 := by
  have hsort : (allT T n).Pairwise (· < ·) := by
    unfold allT
    refine List.Pairwise.map (R := fun a b : Nat => a < b) _ (fun a b h => by show (a : Int) < b; omega) ?_
    exact List.Pairwise.sublist List.filter_sublist List.pairwise_lt_range
  have hnn : ∀ t ∈ allT T n, 0 ≤ t := fun t ht => by
    obtain ⟨k, rfl, _⟩ := mem_allT.1 ht
    omega
  have hin : ∀ t : Nat, t < 6 → mayB K T I n out t = true → (t : Int) ∈ allT T n := fun t ht hm => by
    unfold mayB at hm
    rw [Bool.and_eq_true, Bool.and_eq_true] at hm
    exact mem_allT.2 ⟨t, rfl, ht, hm.1.1⟩
  rcases leastB_spec (mayB K T I n out) 6 with ⟨h1, h2⟩ | ⟨t, h1, h2, h3, h4⟩
  · rcases downB_least (mayB K T I n out) (allT T n) hnn with ⟨g1, _⟩ | ⟨g1, g2, _⟩
    · rw [g1, h1]
    · obtain ⟨k, e, hk, _⟩ := mem_allT.1 g1
      rw [e, h2 k hk] at g2; cases g2
  · have hm := hin t h2 h3
    rcases downB_least (mayB K T I n out) (allT T n) hnn with ⟨_, g1⟩ | ⟨g1, g2, a, b, g3, g4⟩
    · rw [g1 _ hm] at h3; cases h3
    · rw [h1]
      obtain ⟨k, e, hk, _⟩ := mem_allT.1 g1
      rw [e] at g2 ⊢
      have hkt : ¬ k < t := fun h => by rw [h4 k h] at g2; cases g2
      have htk : ¬ t < k := fun h => by
        rw [g3] at hm hsort
        rcases List.mem_append.1 hm with hm | hm
        · rw [g4 _ hm] at h3; cases h3
        · rcases List.mem_cons.1 hm with hm | hm
          · omega
          · have := (List.pairwise_cons.1 (List.pairwise_append.1 hsort).2.1).1 _ hm
            omega
      omega
end Go.Proofs.Ytelfmhiaafkimaa
