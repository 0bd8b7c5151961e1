/- Transactions in an order: the program's search. -/
import Derived.Test.YtelfmhiaafkimaaOrd3
import Derived.Test.YtelfmhiaafkimaaOrd5
namespace Go.Proofs.Ytelfmhiaafkimaa
open Go Go.RowKit Go.VC
set_option linter.unusedSimpArgs false
set_option linter.unusedVariables false
theorem cont_snoc (out : List Int) (x y : Int) : (out ++ [x]).contains y = (out.contains y || decide (y = x)) := by
  rw [Bool.eq_iff_iff]; simp
theorem cntP_len (q : Nat → Bool) : cntP q = ((List.range 6).filter q).length := by
  unfold cntP b2n
  rw [show List.range 6 = [0, 1, 2, 3, 4, 5] from rfl]
  simp only [List.filter_cons, List.filter_nil]
  cases q 0 <;> cases q 1 <;> cases q 2 <;> cases q 3 <;> cases q 4 <;> cases q 5 <;> rfl
theorem cntP_all (T : Nat → Int) (n : Nat) : cntP (fun t => presB T n (t : Nat)) = (allT T n).length := by
  unfold allT
  rw [List.length_map]
  exact cntP_len _
section
variable {K T I : Nat → Int} {n : Nat} {out : List Int}
theorem oneO_some {b : Bool} (h : (oneO b).isSome = true) : b = true := by
  unfold oneO at h; split at h
  · assumption
  · cases h
theorem oneO_none {b : Bool} (h : oneO b = none) : b = false := by
  unfold oneO at h; split at h
  · cases h
  · simpa using ‹¬ b = true›
/-- One whose map is empty may stand next. -/
theorem may_zero {w : World} {b c t : Nat} {m : Int → Option Value} (hM : MapV Try.prog EI w b c m) (hm : ∀ u, m u = oneO (edgeB K T I n t u && !out.contains u)) (hp : (presB T n t && !out.contains (t : Int)) = true) (hT : ∀ j, j < n → 0 ≤ T j ∧ T j < 6) :
    mayB K T I n out t = decide (c = 0) := by
  unfold mayB
  rw [hp, Bool.true_and]
  by_cases hc : c = 0
  · rw [decide_eq_true hc, List.all_eq_true]
    intro u hu
    have hu6 := List.mem_range.1 hu
    subst hc
    have h1 := hM.zero (EI_ok u hu6)
    rw [hm] at h1
    have h2 := oneO_none h1
    cases he : edgeB K T I n t u <;> cases ho : out.contains (u : Int) <;> simp_all
  · rw [decide_eq_false hc]
    obtain ⟨x, hx, h1⟩ := hM.some_key (Nat.pos_of_ne_zero hc)
    rw [hm] at h1
    have h2 := oneO_some h1
    rw [Bool.and_eq_true] at h2
    obtain ⟨h3, h4⟩ := h2
    have hxr : 0 ≤ x ∧ x < 6 := by
      unfold edgeB at h3
      rw [List.any_eq_true] at h3
      obtain ⟨i, hi, h5⟩ := h3
      rw [Bool.and_eq_true, List.any_eq_true] at h5
      obtain ⟨_, j, hj, h6⟩ := h5
      rw [Bool.and_eq_true] at h6
      have h7 : T j = x := by simpa using h6.1
      have := hT j (by have := List.mem_range.1 hi; have := List.mem_range.1 hj; omega)
      omega
    have e : ((x.toNat : Nat) : Int) = x := by omega
    rw [List.all_eq_false]
    refine ⟨x.toNat, List.mem_range.2 (by omega), ?_⟩
    rw [e, h3]
    simp only [Bool.not_true, Bool.false_or]
    simpa using h4
/-- What was found so far. -/
def NX (K T I : Nat → Int) (n : Nat) (out : List Int) (left : Int → Prop) (nx : Int) : Prop :=
  (nx = -1 ∧ ∀ t : Nat, t < 6 → ¬ left t → mayB K T I n out t = false) ∨
  ∃ t0 : Nat, nx = t0 ∧ t0 < 6 ∧ ¬ left t0 ∧ mayB K T I n out t0 = true ∧ ∀ t : Nat, t < 6 → ¬ left t → mayB K T I n out t = true → t0 ≤ t
theorem NX.end' {left : Int → Prop} {nx : Int} (h : NX K T I n out left nx) (hl : ∀ t : Nat, t < 6 → ¬ left t) : nx = leastB (mayB K T I n out) 6 := by
  rcases leastB_spec (mayB K T I n out) 6 with ⟨h1, h2⟩ | ⟨t, h1, h2, h3, h4⟩
  · rcases h with ⟨h5, _⟩ | ⟨t0, h5, h6, _, h7, _⟩
    · rw [h5, h1]
    · rw [h2 t0 h6] at h7; cases h7
  · rcases h with ⟨h5, h6⟩ | ⟨t0, h5, h6, _, h7, h8⟩
    · rw [h6 t h2 (hl t h2)] at h3; cases h3
    · have h9 := h8 t h2 (hl t h2) h3
      have h10 : ¬ t0 < t := fun hh => by rw [h4 t0 hh] at h7; cases h7
      omega
theorem NX.skip {left : Int → Prop} {nx : Int} {t : Nat} (h : NX K T I n out left nx) (hl : left t) (hm : mayB K T I n out t = false) : NX K T I n out (fun y => left y ∧ y ≠ (t : Int)) nx := by
  have key : ∀ s : Nat, ¬ (left s ∧ (s : Int) ≠ t) → s = t ∨ ¬ left s := fun s hs => by
    by_cases e : s = t
    · exact Or.inl e
    · exact Or.inr fun hh => hs ⟨hh, by omega⟩
  rcases h with ⟨h1, h2⟩ | ⟨t0, h1, h2, h3, h4, h5⟩
  · refine Or.inl ⟨h1, fun s hs hn => ?_⟩
    rcases key s hn with rfl | h
    · exact hm
    · exact h2 s hs h
  · refine Or.inr ⟨t0, h1, h2, fun hh => h3 hh.1, h4, fun s hs hn hms => ?_⟩
    rcases key s hn with rfl | h
    · rw [hm] at hms; cases hms
    · exact h5 s hs h hms
theorem NX.hit {left : Int → Prop} {nx : Int} {t : Nat} (h : NX K T I n out left nx) (ht : t < 6) (hl : left t) (hm : mayB K T I n out t = true) : NX K T I n out (fun y => left y ∧ y ≠ (t : Int)) (if nx < 0 ∨ (t : Int) < nx then (t : Int) else nx) := by
  have key : ∀ s : Nat, ¬ (left s ∧ (s : Int) ≠ t) → s = t ∨ ¬ left s := fun s hs => by
    by_cases e : s = t
    · exact Or.inl e
    · exact Or.inr fun hh => hs ⟨hh, by omega⟩
  rcases h with ⟨h1, h2⟩ | ⟨t0, h1, h2, h3, h4, h5⟩
  · rw [if_pos (Or.inl (by omega))]
    refine Or.inr ⟨t, rfl, ht, fun hh => hh.2 rfl, hm, fun s hs hn hms => ?_⟩
    rcases key s hn with rfl | h
    · exact Nat.le_refl _
    · rw [h2 s hs h] at hms; cases hms
  · by_cases e : (t : Int) < nx
    · rw [if_pos (Or.inr e)]
      refine Or.inr ⟨t, rfl, ht, fun hh => hh.2 rfl, hm, fun s hs hn hms => ?_⟩
      rcases key s hn with rfl | h
      · exact Nat.le_refl _
      · have := h5 s hs h hms; omega
    · rw [if_neg (fun hh => hh.elim (by omega) e)]
      refine Or.inr ⟨t0, h1, h2, fun hh => h3 hh.1, h4, fun s hs hn hms => ?_⟩
      rcases key s hn with rfl | h
      · omega
      · exact h5 s hs h hms
end
end Go.Proofs.Ytelfmhiaafkimaa
