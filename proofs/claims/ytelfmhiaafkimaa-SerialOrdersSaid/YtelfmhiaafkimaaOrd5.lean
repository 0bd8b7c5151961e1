/- Transactions in an order: the document's search. -/
import Derived.Test.YtelfmhiaafkimaaOrd2
import Derived.Test.YtelfmhiaafkimaaRefHas
namespace Go.Proofs.Ytelfmhiaafkimaa
open Go Go.RowKit Go.VC
set_option linter.unusedSimpArgs false
set_option linter.unusedVariables false
abbrev intsL (l : List Int) : List Value := l.map (Value.int .i64)
theorem ownRd {w : World} {B : Nat} {e : TypeId} {n : Nat} {v : Value} {xs : List Value} (h : OwnK w B e 1 n v xs) : ∃ A c, v = .slice A xs.length c ∧ Rd w A xs := by
  obtain ⟨A, c, rfl, ho⟩ := id h
  have := h.length
  exact ⟨A, c, by rw [this, Nat.mul_one], h.rd.2⟩
/-- All that are there, below t. -/
def allP (T : Nat → Int) (n t : Nat) : List Int := ((List.range t).filter fun s => presB T n (s : Nat)).map fun s => ((s : Nat) : Int)
theorem allP_six (T : Nat → Int) (n : Nat) : allP T n 6 = allT T n := rfl
theorem allP_succ (T : Nat → Int) (n t : Nat) : allP T n (t + 1) = if presB T n (t : Int) = true then allP T n t ++ [(t : Int)] else allP T n t := by
  unfold allP
  rw [List.range_succ, List.filter_append, List.map_append]
  by_cases h : presB T n (t : Int) = true
  · rw [if_pos h, List.filter_cons, if_pos h]; rfl
  · rw [if_neg h, List.filter_cons, if_neg h]; simp
theorem allP_not (T : Nat → Int) (n t : Nat) : (t : Int) ∉ allP T n t := by
  unfold allP
  intro h
  obtain ⟨s, hs, e⟩ := List.mem_map.1 h
  have := List.mem_range.1 (List.mem_filter.1 hs).1
  omega
theorem allP_len (T : Nat → Int) (n t : Nat) : (allP T n t).length ≤ t := by
  unfold allP
  rw [List.length_map]
  exact Nat.le_trans (List.length_filter_le ..) (by simp)
def allQ (T : Nat → Int) (n t i : Nat) : List Int := if presB T i (t : Int) = true then allP T n t ++ [(t : Int)] else allP T n t
theorem allQ_len (T : Nat → Int) (n t i : Nat) : (allQ T n t i).length ≤ t + 1 := by
  have := allP_len T n t
  unfold allQ
  split
  · rw [List.length_append]; simp; omega
  · omega
/-- One stands in the way. -/
def blkB (K T I : Nat → Int) (out : List Int) (t : Int) (i j : Nat) : Bool := decide (T i = t) && (clashB K T I j i && !decide (T j ∈ out))
def rowB (K T I : Nat → Int) (out : List Int) (t : Int) (i j : Nat) : Bool := (List.range j).all fun j => !blkB K T I out t i j
def freeB (K T I : Nat → Int) (out : List Int) (t : Int) (i : Nat) : Bool := (List.range i).all fun i => rowB K T I out t i i
theorem rowB_succ {K T I : Nat → Int} {out : List Int} {t : Int} {i j : Nat} : rowB K T I out t i (j + 1) = (rowB K T I out t i j && !blkB K T I out t i j) := by
  unfold rowB; rw [List.range_succ, List.all_append]; simp
theorem freeB_succ {K T I : Nat → Int} {out : List Int} {t : Int} {i : Nat} : freeB K T I out t (i + 1) = (freeB K T I out t i && rowB K T I out t i i) := by
  unfold freeB; rw [List.range_succ, List.all_append]; simp
theorem free_may {K T I : Nat → Int} {out : List Int} {t : Int} {n : Nat} (hT : ∀ j, j < n → 0 ≤ T j ∧ T j < 6) (hp : presB T n t = true) :
    (!decide (t ∈ out) && freeB K T I out t n) = mayB K T I n out t := by
  unfold mayB
  rw [hp, Bool.true_and, show out.contains t = decide (t ∈ out) by simp]
  congr 1
  rw [Bool.eq_iff_iff]
  unfold freeB rowB
  simp only [List.all_eq_true, List.mem_range]
  constructor
  · intro h u hu
    by_cases he : edgeB K T I n t u = true
    · unfold edgeB at he
      rw [List.any_eq_true] at he
      obtain ⟨i, hi, h2⟩ := he
      rw [Bool.and_eq_true, List.any_eq_true] at h2
      obtain ⟨h3, j, hj, h4⟩ := h2
      rw [Bool.and_eq_true] at h4
      have h5 := h i (List.mem_range.1 hi) j (List.mem_range.1 hj)
      unfold blkB at h5
      rw [h3, h4.2] at h5
      have h6 : T j = u := by simpa using h4.1
      rw [h6] at h5
      have h7 : (u : Int) ∈ out := by simpa using h5
      rw [show out.contains (u : Int) = true by simpa using h7, Bool.or_true]
    · rw [show edgeB K T I n t u = false by simpa using he]; rfl
  · intro h i hi j hj
    by_cases h1 : blkB K T I out t i j = true
    · unfold blkB at h1
      rw [Bool.and_eq_true, Bool.and_eq_true] at h1
      obtain ⟨h2, h3, h4⟩ := h1
      have hb := hT j (by omega)
      have h5 := h (T j).toNat (by omega)
      have e : (((T j).toNat : Nat) : Int) = T j := by omega
      have h6 : edgeB K T I n t (((T j).toNat : Nat) : Int) = true := by
        unfold edgeB
        rw [List.any_eq_true]
        refine ⟨i, List.mem_range.2 hi, ?_⟩
        rw [h2, Bool.true_and, List.any_eq_true]
        refine ⟨j, List.mem_range.2 hj, ?_⟩
        rw [e, h3, decide_eq_true rfl]; rfl
      rw [h6, e] at h5
      have h7 : T j ∈ out := by simpa using h5
      rw [decide_eq_true h7] at h4; cases h4
    · rw [show blkB K T I out t i j = false by simpa using h1]; rfl
def OrdQ (o : Option (List Int)) (v : Value) (b : Bool) (B : Nat) (w : World) : Prop :=
  match o with
  | none => v = .slice none 0 0 ∧ b = false
  | some l => b = true ∧ ∃ A c, v = .slice A l.length c ∧ Rd w A (intsL l) ∧ l.length ≤ 6
end Go.Proofs.Ytelfmhiaafkimaa
