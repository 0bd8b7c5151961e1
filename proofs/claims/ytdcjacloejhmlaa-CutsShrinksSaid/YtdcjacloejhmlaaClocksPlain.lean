/- Events: what comes before what, and their numbers. Plain. -/
import Derived.Test.YtdcjacloejhmlaaClocks1
import Derived.Test.YtdcjacloejhmlaaMapI
namespace Go.Proofs.Ytdcjacloejhmlaa
open Go Go.RowKit Go.VC
set_option linter.unusedSimpArgs false
set_option linter.unusedVariables false

section
variable (K W O : Nat → Int)
def lastI : Nat → Int → Option Int
  | 0 => fun _ => none
  | i + 1 => updM (lastI i) (W i) i
def lastL (i : Nat) : List Int := match lastI W i (W i) with | some j => [j] | none => []
def fromL (i : Nat) : List Int := if K i = 3 then lastL W i ++ [O i] else lastL W i
def maxIn (s : List Int) : List Int → Int → Int
  | [], x => x
  | j :: l, x => maxIn s l (max x (s.getD j.toNat 0))
def scTo : Nat → List Int
  | 0 => []
  | i + 1 => scTo i ++ [maxIn (scTo i) (fromL K W O i) 0 + 1]
/-- Before at once, by the document. -/
def dirB (i j : Nat) : Bool := decide (W i = W j) || decide (K j = 3) && decide (O j = i)
/-- Before, paths by way of those ahead of k alone. -/
def befTo : Nat → Nat → Nat → Bool
  | 0, i, j => decide (i < j) && dirB K W O i j
  | k + 1, i, j => befTo k i j || decide (i < k) && decide (k < j) && befTo k i k && befTo k k j
end

variable {K W O : Nat → Int}
theorem scTo_length : ∀ n, (scTo K W O n).length = n
  | 0 => rfl
  | n + 1 => by simp [scTo, scTo_length n]
theorem scTo_pre {n i : Nat} (h : i < n) : (scTo K W O n).getD i 0 = (scTo K W O (i + 1)).getD i 0 := by
  induction n with
  | zero => omega
  | succ n ih =>
    by_cases hi : i = n
    · rw [hi]
    · have hl := scTo_length (K := K) (W := W) (O := O) n
      rw [← ih (by omega)]
      show (scTo K W O n ++ _).getD i 0 = _
      rw [List.getD_eq_getElem?_getD, List.getD_eq_getElem?_getD, List.getElem?_append_left (by omega)]
theorem scTo_last (n : Nat) : (scTo K W O (n + 1)).getD n 0 = maxIn (scTo K W O n) (fromL K W O n) 0 + 1 := by
  have hl := scTo_length (K := K) (W := W) (O := O) n
  show (scTo K W O n ++ _).getD n 0 = _
  rw [List.getD_eq_getElem?_getD, List.getElem?_append_right (by omega), hl]
  simp
/-- The number of an event. -/
def scG (K W O : Nat → Int) (i : Nat) : Int := (scTo K W O (i + 1)).getD i 0

theorem maxIn_ge (s : List Int) : ∀ (l : List Int) (x : Int), x ≤ maxIn s l x ∧ ∀ j ∈ l, s.getD j.toNat 0 ≤ maxIn s l x
  | [], x => ⟨Int.le_refl _, fun j h => by cases h⟩
  | k :: l, x => by
    obtain ⟨h1, h2⟩ := maxIn_ge s l (max x (s.getD k.toNat 0))
    refine ⟨by show x ≤ maxIn s l _; omega, fun j hj => ?_⟩
    show _ ≤ maxIn s l _
    rcases List.mem_cons.1 hj with rfl | hj
    · omega
    · exact h2 j hj
theorem maxIn_le (s : List Int) (b : Int) : ∀ (l : List Int) (x : Int), x ≤ b → (∀ j ∈ l, s.getD j.toNat 0 ≤ b) → maxIn s l x ≤ b
  | [], x, h, _ => h
  | k :: l, x, h, h2 => maxIn_le s b l _ (by have := h2 k (by simp); omega) fun j hj => h2 j (by simp [hj])

/-- The last of a process, ahead of i. -/
theorem lastI_spec : ∀ (i : Nat) (x : Int), match lastI W i x with
    | some j => ∃ m : Nat, j = m ∧ m < i ∧ W m = x ∧ ∀ q, m < q → q < i → W q ≠ x
    | none => ∀ q, q < i → W q ≠ x
  | 0, x => fun q hq => absurd hq (by omega)
  | i + 1, x => by
    have ih := lastI_spec i x
    show match (if x = W i then some (i : Int) else lastI W i x) with | some j => _ | none => _
    by_cases h : x = W i
    · rw [if_pos h]
      exact ⟨i, rfl, by omega, h.symm, fun q h1 h2 => absurd h1 (by omega)⟩
    · rw [if_neg h]
      cases hl : lastI W i x with
      | none =>
        rw [hl] at ih
        intro q hq
        by_cases hqi : q = i
        · rw [hqi]; exact fun e => h e.symm
        · exact ih q (by omega)
      | some j =>
        rw [hl] at ih
        obtain ⟨m, h1, h2, h3, h4⟩ := ih
        refine ⟨m, h1, by omega, h3, fun q hq1 hq2 => ?_⟩
        by_cases hqi : q = i
        · rw [hqi]; exact fun e => h e.symm
        · exact h4 q hq1 (by omega)

theorem evCode_ok {n : Int} {len : Nat} (h : evCode n K W O len = 0) : 1 ≤ n ∧ n ≤ 6 ∧ len ≤ 60 ∧ ∀ j, j < len → 0 ≤ W j ∧ W j < n ∧ (K j = 3 → 0 ≤ O j ∧ O j < j) := by
  unfold evCode at h
  split at h
  · cases h
  · rename_i hl
    refine ⟨by omega, by omega, by omega, fun j hj => ?_⟩
    have := firstNZ_zero h j hj
    unfold evBad at this
    split at this
    · cases this
    · split at this
      · cases this
      · split at this
        · cases this
        · refine ⟨by omega, by omega, fun h3 => ?_⟩
          rename_i h4
          omega

theorem fromL_mem {len i : Nat} (hO : ∀ j, j < len → K j = 3 → 0 ≤ O j ∧ O j < j) (hi : i < len) {j : Int} (h : j ∈ fromL K W O i) : ∃ m : Nat, j = m ∧ m < i ∧ dirB K W O m i = true := by
  have hlast : j ∈ lastL W i → ∃ m : Nat, j = m ∧ m < i ∧ dirB K W O m i = true := by
    intro h
    unfold lastL at h
    have hs := lastI_spec (W := W) i (W i)
    cases hl : lastI W i (W i) with
    | none => rw [hl] at h; cases h
    | some k =>
      rw [hl] at h hs
      obtain ⟨m, h1, h2, h3, _⟩ := hs
      simp only [List.mem_singleton] at h
      exact ⟨m, h.trans h1, h2, by unfold dirB; simp [h3]⟩
  unfold fromL at h
  split at h
  · rename_i h3
    rcases List.mem_append.1 h with h | h
    · exact hlast h
    · rw [List.mem_singleton] at h
      obtain ⟨h4, h5⟩ := hO i hi h3
      refine ⟨(O i).toNat, by omega, by omega, ?_⟩
      unfold dirB
      simp only [h3, decide_true, Bool.true_and, Bool.or_eq_true, decide_eq_true_eq]
      right; omega
  · exact hlast h
theorem fromL_length (i : Nat) : (fromL K W O i).length ≤ 2 := by
  have : (lastL W i).length ≤ 1 := by unfold lastL; split <;> simp
  unfold fromL
  split
  · simp; omega
  · omega

/-- Numbers rise with what is before at once. -/
theorem scG_dir {len : Nat} (hO : ∀ j, j < len → K j = 3 → 0 ≤ O j ∧ O j < j) : ∀ j, j < len → ∀ i, i < j → dirB K W O i j = true → scG K W O i < scG K W O j := by
  intro j
  induction j using Nat.strongRecOn with
  | _ j ih =>
    intro hj i hij hd
    have hstep : ∀ m : Nat, (m : Int) ∈ fromL K W O j → scG K W O m < scG K W O j := by
      intro m hm
      obtain ⟨m', e, hlt, _⟩ := fromL_mem hO hj hm
      obtain rfl : m = m' := by omega
      have := (maxIn_ge (scTo K W O j) (fromL K W O j) 0).2 _ hm
      rw [Int.toNat_natCast, scTo_pre hlt] at this
      show _ < (scTo K W O (j + 1)).getD j 0
      rw [scTo_last]
      show (scTo K W O (m + 1)).getD m 0 < _
      omega
    unfold dirB at hd
    simp only [Bool.or_eq_true, Bool.and_eq_true, decide_eq_true_eq] at hd
    rcases hd with hd | ⟨h3, hd⟩
    · have hs := lastI_spec (W := W) j (W j)
      cases hl : lastI W j (W j) with
      | none => rw [hl] at hs; exact absurd hd (hs i hij)
      | some k =>
        rw [hl] at hs
        obtain ⟨m, h1, h2, h3, h4⟩ := hs
        have hmem : (m : Int) ∈ fromL K W O j := by
          have : (m : Int) ∈ lastL W j := by unfold lastL; rw [hl]; simp [h1]
          unfold fromL; split
          · exact List.mem_append_left _ this
          · exact this
        have hmj := hstep m hmem
        rcases Nat.lt_trichotomy i m with h | h | h
        · have := ih m h2 (by omega) i h (by unfold dirB; simp [hd, h3])
          omega
        · rw [h]; exact hmj
        · exact absurd hd (h4 i h hij)
    · refine hstep i ?_
      unfold fromL; rw [if_pos h3]
      exact List.mem_append_right _ (by simp [hd])

theorem befTo_up {len : Nat} (hO : ∀ j, j < len → K j = 3 → 0 ≤ O j ∧ O j < j) : ∀ (k i j : Nat), j < len → befTo K W O k i j = true → i < j ∧ scG K W O i < scG K W O j
  | 0, i, j, hj, h => by
    unfold befTo at h
    simp only [Bool.and_eq_true, decide_eq_true_eq] at h
    exact ⟨h.1, scG_dir hO j hj i h.1 h.2⟩
  | k + 1, i, j, hj, h => by
    unfold befTo at h
    simp only [Bool.and_eq_true, Bool.or_eq_true, decide_eq_true_eq] at h
    rcases h with h | ⟨⟨⟨h1, h2⟩, h3⟩, h4⟩
    · exact befTo_up hO k i j hj h
    · have a := befTo_up hO k i k (by omega) h3
      have b := befTo_up hO k k j hj h4
      exact ⟨by omega, by omega⟩
theorem befTo_dir : ∀ (k i j : Nat), i < j → dirB K W O i j = true → befTo K W O k i j = true
  | 0, i, j, h, hd => by unfold befTo; simp [h, hd]
  | k + 1, i, j, h, hd => by unfold befTo; simp [befTo_dir k i j h hd]

/-- The greatest number of those before. -/
def maxB (b : Nat → Bool) (s : List Int) : Nat → Int
  | 0 => 0
  | i + 1 => if b i = true ∧ maxB b s i < s.getD i 0 then s.getD i 0 else maxB b s i
theorem maxB_ge (b : Nat → Bool) (s : List Int) : ∀ n, 0 ≤ maxB b s n ∧ ∀ i, i < n → b i = true → s.getD i 0 ≤ maxB b s n
  | 0 => ⟨Int.le_refl _, fun i h => absurd h (by omega)⟩
  | n + 1 => by
    obtain ⟨h1, h2⟩ := maxB_ge b s n
    unfold maxB
    refine ⟨by split <;> omega, fun i hi hb => ?_⟩
    by_cases hin : i = n
    · subst hin; split
      · omega
      · rename_i hn
        have : ¬ maxB b s i < s.getD i 0 := fun h => hn ⟨hb, h⟩
        omega
    · have := h2 i (by omega) hb
      split <;> omega
theorem maxB_le (b : Nat → Bool) (s : List Int) (c : Int) (hc : 0 ≤ c) : ∀ n, (∀ i, i < n → b i = true → s.getD i 0 ≤ c) → maxB b s n ≤ c
  | 0, _ => hc
  | n + 1, h => by
    have := maxB_le b s c hc n fun i hi => h i (by omega)
    unfold maxB
    split
    · rename_i hb; exact h n (by omega) hb.1
    · exact this

/-- THE DOCUMENT's NUMBER IS THE PROGRAM's. -/
theorem scTo_doc {len : Nat} (hO : ∀ j, j < len → K j = 3 → 0 ≤ O j ∧ O j < j) {j : Nat} (hj : j < len) : maxB (fun i => befTo K W O len i j) (scTo K W O j) j + 1 = (scTo K W O (j + 1)).getD j 0 := by
  rw [scTo_last]
  obtain ⟨g1, g2⟩ := maxB_ge (fun i => befTo K W O len i j) (scTo K W O j) j
  obtain ⟨g3, g4⟩ := maxIn_ge (scTo K W O j) (fromL K W O j) 0
  have h1 : maxIn (scTo K W O j) (fromL K W O j) 0 ≤ maxB (fun i => befTo K W O len i j) (scTo K W O j) j := by
    refine maxIn_le _ _ _ _ g1 fun x hx => ?_
    obtain ⟨m, rfl, hm, hd⟩ := fromL_mem hO hj hx
    rw [Int.toNat_natCast]
    exact g2 m hm (befTo_dir _ _ _ hm hd)
  have h2 : maxB (fun i => befTo K W O len i j) (scTo K W O j) j ≤ maxIn (scTo K W O j) (fromL K W O j) 0 := by
    refine maxB_le _ _ _ g3 _ fun i hi hb => ?_
    have h3 := (befTo_up hO len i j hj hb).2
    unfold scG at h3
    have h4 := scTo_last (K := K) (W := W) (O := O) j
    rw [scTo_pre hi]
    omega
  omega
theorem scG_le {len : Nat} (hO : ∀ j, j < len → K j = 3 → 0 ≤ O j ∧ O j < j) : ∀ n, n ≤ len → ∀ i, i < n → 1 ≤ (scTo K W O n).getD i 0 ∧ (scTo K W O n).getD i 0 ≤ n := by
  intro n
  induction n with
  | zero => intro _ i hi; omega
  | succ n ih =>
    intro hn i hi
    by_cases hin : i = n
    · subst hin
      rw [scTo_last]
      have h1 := (maxIn_ge (scTo K W O i) (fromL K W O i) 0).1
      have h2 := maxIn_le (scTo K W O i) i (fromL K W O i) 0 (by omega) fun x hx => by
        obtain ⟨m, rfl, hm, _⟩ := fromL_mem hO (show i < len by omega) hx
        rw [Int.toNat_natCast]
        exact (ih (by omega) m hm).2
      omega
    · have := ih (by omega) i (by omega)
      rw [scTo_pre (show i < n + 1 by omega), ← scTo_pre (show i < n by omega)]
      omega
end Go.Proofs.Ytdcjacloejhmlaa
