/- What is in a copy. Plain. -/
import Derived.Test.YtdcjacloejhmlaaItems1
import Derived.Test.YtdcjacloejhmlaaCompact
namespace Go.Proofs.Ytdcjacloejhmlaa
open Go Go.RowKit Go.VC
set_option linter.unusedSimpArgs false
set_option linter.unusedVariables false

theorem sorted_ext : ∀ {l l' : List Int}, l.Pairwise (· < ·) → l'.Pairwise (· < ·) → (∀ x, x ∈ l ↔ x ∈ l') → l = l'
  | [], [], _, _, _ => rfl
  | [], b :: l', _, _, h => by have := (h b).2 (by simp); cases this
  | a :: l, [], _, _, h => by have := (h a).1 (by simp); cases this
  | a :: l, b :: l', h1, h2, h => by
    obtain ⟨ha, hl⟩ := List.pairwise_cons.1 h1
    obtain ⟨hb, hl'⟩ := List.pairwise_cons.1 h2
    have hab : a = b := by
      rcases List.mem_cons.1 ((h a).1 (by simp)) with e | e
      · exact e
      · rcases List.mem_cons.1 ((h b).2 (by simp)) with e' | e'
        · exact e'.symm
        · have := ha b e'; have := hb a e; omega
    subst hab
    have : l = l' := sorted_ext hl hl' fun x => by
      constructor
      · intro hx
        rcases List.mem_cons.1 ((h x).1 (by simp [hx])) with e | e
        · subst e; have := ha x hx; omega
        · exact e
      · intro hx
        rcases List.mem_cons.1 ((h x).2 (by simp [hx])) with e | e
        · subst e; have := hb x hx; omega
        · exact e
    rw [this]
theorem compact_mem {l : List Int} {x : Int} : x ∈ Lib.compact l ↔ x ∈ l := by
  unfold Lib.compact Lib.compactUpTo
  rw [List.mem_map]
  constructor
  · rintro ⟨j, hj, rfl⟩
    have hj := List.mem_range.1 (List.mem_filter.1 hj).1
    have e : l.toArray[j]! = l[j] := by simp [hj]
    rw [e]
    exact List.getElem_mem hj
  · intro hx
    obtain ⟨j, hj, rfl⟩ := List.getElem_of_mem hx
    have key : ∀ j, j < l.length → ∃ i, i ∈ (List.range l.length).filter (Lib.keeps l.toArray) ∧ l.toArray[i]! = l.toArray[j]! := by
      intro j
      induction j with
      | zero => intro hj; exact ⟨0, List.mem_filter.2 ⟨List.mem_range.2 hj, Lib.keeps_lt_one _ _ (by omega)⟩, rfl⟩
      | succ j ih =>
        intro hj
        by_cases he : l.toArray[j + 1]! = l.toArray[j]!
        · obtain ⟨i, hi, e⟩ := ih (by omega)
          exact ⟨i, hi, by rw [e, he]⟩
        · exact ⟨j + 1, List.mem_filter.2 ⟨List.mem_range.2 hj, Lib.keeps_pos (by simpa using he)⟩, rfl⟩
    obtain ⟨i, hi, e⟩ := key j hj
    exact ⟨i, hi, by rw [e]; simp [hj]⟩
theorem compact_sorted {l : List Int} (h : l.Pairwise (· ≤ ·)) : (Lib.compact l).Pairwise (· < ·) := by
  unfold Lib.compact Lib.compactUpTo
  rw [List.pairwise_map]
  have hr : ((List.range l.length).filter (Lib.keeps l.toArray)).Pairwise (· < ·) := List.Pairwise.filter _ List.pairwise_lt_range
  refine List.Pairwise.imp_of_mem (fun {i j} hi hj hij => ?_) hr
  obtain ⟨hi1, _⟩ := List.mem_filter.1 hi
  obtain ⟨hj1, hj2⟩ := List.mem_filter.1 hj
  have hi1 := List.mem_range.1 hi1
  have hj1 := List.mem_range.1 hj1
  have mono : ∀ a b, a ≤ b → b < l.length → l.toArray[a]! ≤ l.toArray[b]! := fun a b hab hb => by
    have e1 : l.toArray[a]! = l[a]'(by omega) := by simp [show a < l.length by omega]
    have e2 : l.toArray[b]! = l[b] := by simp [hb]
    rw [e1, e2]
    rcases Nat.lt_or_ge a b with h' | h'
    · exact List.pairwise_iff_getElem.1 h a b (by omega) hb h'
    · obtain rfl : a = b := by omega
      exact Int.le_refl _
  unfold Lib.keeps at hj2
  simp only [decide_eq_true_eq] at hj2
  rcases hj2 with h' | h'
  · omega
  · have h1 := mono i (j - 1) (by omega) (by omega)
    have h2 := mono (j - 1) j (by omega) hj1
    omega

section
variable (x1 y1 z1 x2 y2 z2 : Nat → Int) (n2 : Nat)
def stayB (k : Nat) : Bool := !hasB x2 y2 z2 n2 (dotAt x1 y1 z1 k)
def itL (i : Nat) : List Int := ((List.range i).filter (stayB x1 y1 z1 x2 y2 z2 n2)).map x1
def itemB (n1 : Nat) (t : Nat) : Bool := (List.range n1).any fun k => decide (x1 k = t) && stayB x1 y1 z1 x2 y2 z2 n2 k
def docL (n1 t : Nat) : List Int := ((List.range t).filter (itemB x1 y1 z1 x2 y2 z2 n2 n1)).map fun (t : Nat) => (t : Int)
end
variable {x1 y1 z1 x2 y2 z2 : Nat → Int} {n1 n2 : Nat}
theorem items_same (hs : risesB x1 y1 z1 n1 = true) (hx : ∀ k, k < n1 → 0 ≤ x1 k ∧ x1 k < 4) : Lib.compact (itL x1 y1 z1 x2 y2 z2 n2 n1) = docL x1 y1 z1 x2 y2 z2 n2 n1 4 := by
  have hri := rises_all hs
  refine sorted_ext (compact_sorted ?_) ?_ fun t => ?_
  · unfold itL
    rw [List.pairwise_map]
    have hr : ((List.range n1).filter (stayB x1 y1 z1 x2 y2 z2 n2)).Pairwise (· < ·) := List.Pairwise.filter _ List.pairwise_lt_range
    refine List.Pairwise.imp_of_mem (fun {i j} hi hj hij => ?_) hr
    have hj1 := List.mem_range.1 (List.mem_filter.1 hj).1
    have := dLess_iff.1 (hri i j hij hj1)
    show x1 i ≤ x1 j
    have e : ∀ k, (dotAt x1 y1 z1 k).1 = x1 k := fun _ => rfl
    rw [e, e] at this
    omega
  · unfold docL
    rw [List.pairwise_map]
    have hr : ((List.range 4).filter (itemB x1 y1 z1 x2 y2 z2 n2 n1)).Pairwise (· < ·) := List.Pairwise.filter _ List.pairwise_lt_range
    exact hr.imp fun h => by omega
  · rw [compact_mem]
    unfold itL docL itemB
    simp only [List.mem_map, List.mem_filter, List.mem_range, List.any_eq_true, Bool.and_eq_true, decide_eq_true_eq]
    constructor
    · rintro ⟨k, ⟨hk, hst⟩, rfl⟩
      obtain ⟨h1, h2⟩ := hx k hk
      exact ⟨(x1 k).toNat, ⟨by omega, k, hk, by omega, hst⟩, by omega⟩
    · rintro ⟨t, ⟨ht, k, hk, he, hst⟩, rfl⟩
      exact ⟨k, ⟨hk, hst⟩, he⟩
theorem itL_yes {i : Nat} (h : stayB x1 y1 z1 x2 y2 z2 n2 i = true) : itL x1 y1 z1 x2 y2 z2 n2 (i + 1) = itL x1 y1 z1 x2 y2 z2 n2 i ++ [x1 i] := by
  unfold itL
  rw [List.range_succ, List.filter_append, List.filter_cons_of_pos h, List.map_append]; rfl
theorem itL_no {i : Nat} (h : stayB x1 y1 z1 x2 y2 z2 n2 i = false) : itL x1 y1 z1 x2 y2 z2 n2 (i + 1) = itL x1 y1 z1 x2 y2 z2 n2 i := by
  unfold itL
  rw [List.range_succ, List.filter_append, List.filter_cons_of_neg (by simp [h]), List.filter_nil, List.append_nil]
theorem itL_le {i : Nat} : (itL x1 y1 z1 x2 y2 z2 n2 i).length ≤ i := by
  unfold itL
  rw [List.length_map]
  have := List.length_filter_le (stayB x1 y1 z1 x2 y2 z2 n2) (List.range i)
  rwa [List.length_range] at this
theorem docL_yes {t : Nat} (h : itemB x1 y1 z1 x2 y2 z2 n2 n1 t = true) : docL x1 y1 z1 x2 y2 z2 n2 n1 (t + 1) = docL x1 y1 z1 x2 y2 z2 n2 n1 t ++ [(t : Int)] := by
  unfold docL
  rw [List.range_succ, List.filter_append, List.filter_cons_of_pos h, List.map_append]; rfl
theorem docL_no {t : Nat} (h : itemB x1 y1 z1 x2 y2 z2 n2 n1 t = false) : docL x1 y1 z1 x2 y2 z2 n2 n1 (t + 1) = docL x1 y1 z1 x2 y2 z2 n2 n1 t := by
  unfold docL
  rw [List.range_succ, List.filter_append, List.filter_cons_of_neg (by simp [h]), List.filter_nil, List.append_nil]
theorem docL_le {t : Nat} : (docL x1 y1 z1 x2 y2 z2 n2 n1 t).length ≤ t := by
  unfold docL
  rw [List.length_map]
  have := List.length_filter_le (itemB x1 y1 z1 x2 y2 z2 n2 n1) (List.range t)
  rwa [List.length_range] at this
end Go.Proofs.Ytdcjacloejhmlaa
