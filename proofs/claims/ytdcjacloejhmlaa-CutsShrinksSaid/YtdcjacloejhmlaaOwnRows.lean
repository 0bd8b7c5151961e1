/- A list of rows of one's own, each of which grows. -/
import Derived.Test.YtdcjacloejhmlaaRange
import Derived.Test.YtdcjacloejhmlaaOwn3
namespace Go.VC
open Go Go.RowKit
set_option linter.unusedSimpArgs false
set_option linter.unusedVariables false

structure GRows (w : World) (B : Nat) (eo ei : TypeId) (g n c : Nat) (xs : Nat → Value) (ls : Nat → List Value) : Prop where
  outer : OwnK w B eo 1 n (.slice (some ⟨g, 0, none⟩) n c) ((List.range n).map xs)
  row : ∀ p, p < n → OwnK w B ei 1 (ls p).length (xs p) (ls p)
  far : ∀ p, p < n → (xs p).ownBlock ≠ some g
  sep : ∀ p q, p < n → q < n → p ≠ q → Sep (xs p) (xs q)
section
variable {w w' : World} {B g n c : Nat} {eo ei : TypeId} {xs : Nat → Value} {ls : Nat → List Value}
theorem GRows.zero (h : OwnK w B eo 1 n (.slice (some ⟨g, 0, none⟩) n c) (List.replicate n (.slice none 0 0))) : GRows w B eo ei g n c (fun _ => .slice none 0 0) (fun _ => []) := by
  refine ⟨?_, fun p hp => OwnK.nil _ _ _ _, fun p hp => by simp [Value.ownBlock], fun p q hp hq hpq => Sep.nil _ _ _⟩
  have e : (List.range n).map (fun _ => Value.slice none 0 0) = List.replicate n (.slice none 0 0) := by
    rw [List.map_const', List.length_range]
  rw [e]; exact h
theorem GRows.below (h : GRows w B eo ei g n c xs ls) (hB : Below w.heap.size w w') : GRows w' B eo ei g n c xs ls := ⟨h.outer.below hB, fun p hp => (h.row p hp).below hB, h.far, h.sep⟩
theorem GRows.lt (h : GRows w B eo ei g n c xs ls) : B ≤ g ∧ g < w.heap.size := h.outer.lt rfl
theorem GRows.at (h : GRows w B eo ei g n c xs ls) {p : Nat} (hp : p < n) : w.cell? ⟨g, p, none⟩ = some (xs p) ∧ w.frozen? ⟨g, p, none⟩ = false := by
  obtain ⟨h1, h2⟩ := h.outer.at (j := p) (by omega)
  rw [List.getElem?_map, List.getElem?_range hp] at h1
  exact ⟨h1, h2⟩
theorem GRows.atGrown (h : GRows w B eo ei g n c xs ls) {p : Nat} (hp : p < n) (hg : w.grownBy w' (xs p).ownBlock) : w'.cell? ⟨g, p, none⟩ = some (xs p) ∧ w'.frozen? ⟨g, p, none⟩ = false := by
  obtain ⟨h1, h2⟩ := (h.outer.grown hg fun k hk => by
    have : k = g := by simpa [Value.ownBlock] using hk.symm
    subst this
    exact h.far p hp).at (j := p) (by omega)
  rw [List.getElem?_map, List.getElem?_range hp] at h1
  exact ⟨h1, h2⟩
theorem map_upd {α : Type} {n p : Nat} (hp : p < n) (xs : Nat → α) (v : α) : ((List.range n).map xs).set p v = (List.range n).map fun q => if q = p then v else xs q := by
  refine List.ext_getElem? fun i => ?_
  rw [List.getElem?_set]
  by_cases hi : p = i
  · subst hi
    simp [hp]
  · rw [if_neg hi]
    by_cases hin : i < n
    · simp [hin, show ¬ i = p from fun e => hi e.symm]
    · simp [hin]
theorem GRows.app (h : GRows w B eo ei g n c xs ls) {p : Nat} (hp : p < n) {v' u : Value} (h1 : OwnK w' B ei 1 ((ls p).length + 1) v' (ls p ++ [u])) (hg : w.grownBy w' (xs p).ownBlock) (hst : Stays w (xs p) v') :
    GRows (w'.setCell ⟨g, p, none⟩ v') B eo ei g n c (fun q => if q = p then v' else xs q) (fun q => if q = p then ls p ++ [u] else ls q) := by
  have hv' : v'.ownBlock ≠ some g := by
    rcases hst with e | ⟨k, e, hk⟩
    · rw [e]; exact h.far p hp
    · rw [e]; intro e2; have := h.lt; have : k = g := Option.some.inj e2; omega
  have hrow : ∀ q, q < n → q ≠ p → OwnK w' B ei 1 (ls q).length (xs q) (ls q) := fun q hq hqp => (h.row q hq).grown hg fun k hk e => h.sep p q hp hq (fun e => hqp e.symm) k e hk
  refine ⟨?_, fun q hq => ?_, fun q hq => ?_, fun q r hq hr hqr => ?_⟩
  · rw [← map_upd hp]
    exact (h.outer.grown hg fun k hk => by
      have : k = g := by simpa [Value.ownBlock] using hk.symm
      subst this
      exact h.far p hp).stored p v'
  · by_cases e : q = p
    · subst e
      simp only [if_true, List.length_append, List.length_cons, List.length_nil, Nat.zero_add]
      exact h1.setCell hv' _
    · simp only [if_neg e]
      exact (hrow q hq e).setCell (h.far q hq) _
  · by_cases e : q = p
    · simp only [if_pos e]; exact hv'
    · simp only [if_neg e]; exact h.far q hq
  · by_cases e : q = p
    · have e2 : r ≠ p := fun e2 => hqr (e.trans e2.symm)
      simp only [if_pos e, if_neg e2]
      exact ((h.row r hr).sep_stays (h.sep r p hr hp e2) hst).symm
    · by_cases e2 : r = p
      · simp only [if_neg e, if_pos e2]
        exact (h.row q hq).sep_stays (h.sep q p hq hp e) hst
      · simp only [if_neg e, if_neg e2]
        exact h.sep q r hq hr hqr
end
end Go.VC
