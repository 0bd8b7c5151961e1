/- The cells of one block, as a list: structs and arrays in memory. -/
import Derived.Test.YtelfmhiaafkimaaRange
import Derived.Test.YtelfmhiaafkimaaOwn3
namespace Go.VC
open Go Go.RowKit
set_option linter.unusedSimpArgs false
set_option linter.unusedVariables false

def Box (w : World) (b : Nat) (cs : List Value) : Prop := b < w.heap.size ∧ ∀ i, i < cs.length → w.cell? ⟨b, i, none⟩ = cs[i]? ∧ w.frozen? ⟨b, i, none⟩ = false
section
variable {w w' : World} {b : Nat} {cs : List Value}
theorem Box.new (w : World) (cs : List Value) (t : TypeId) : Box (w.alloc (.cells cs.toArray t)) w.heap.size cs := ⟨by simp, fun i hi => ⟨by rw [cell_new rfl]; simp, by rw [frozen_new rfl]⟩⟩
theorem Box.below (h : Box w b cs) (hB : Below w.heap.size w w') : Box w' b cs := ⟨Nat.lt_of_lt_of_le h.1 hB.size, fun i hi => ⟨(hB.cell (p := ⟨b, i, none⟩) h.1).trans (h.2 i hi).1, (hB.frozen (p := ⟨b, i, none⟩) h.1).trans (h.2 i hi).2⟩⟩
theorem Box.agree {X : Nat → Prop} (h : Box w b cs) (hA : Agree X w w') (hx : ¬ X b) : Box w' b cs := ⟨Nat.lt_of_lt_of_le h.1 hA.size, fun i hi => ⟨(hA.cell h.1 hx).trans (h.2 i hi).1, (hA.frozen h.1 hx).trans (h.2 i hi).2⟩⟩
theorem Box.far {a : Addr} (h : Box w b cs) (ha : a.block ≠ b) (v : Value) : Box (w.setCell a v) b cs :=
  h.agree (X := fun k => k = a.block) (Agree.setCell w v rfl) fun e => ha e.symm
theorem Box.set (h : Box w b cs) (i : Nat) (v : Value) : Box (w.setCell ⟨b, i, none⟩ v) b (cs.set i v) := by
  refine ⟨by simpa using h.1, fun j hj => ?_⟩
  rw [List.length_set] at hj
  obtain ⟨h1, h2⟩ := h.2 j hj
  refine ⟨?_, by rw [World.frozen?_setCell]; exact h2⟩
  by_cases hij : i = j
  · subst hij
    rw [List.getElem?_set_self hj]
    exact World.cell?_setCell_same w _ v (h1.trans (List.getElem?_eq_getElem hj))
  · rw [List.getElem?_set_ne hij, World.cell?_setCell_other _ _ _ _ (by intro e; cases e; exact hij rfl)]
    exact h1
theorem Box.at (h : Box w b cs) {i : Nat} {v : Value} (hv : cs[i]? = some v) : w.cell? ⟨b, i, none⟩ = some v := by
  have hi : i < cs.length := by
    rcases Nat.lt_or_ge i cs.length with h' | h'
    · exact h'
    · rw [List.getElem?_eq_none h'] at hv; cases hv
  rw [(h.2 i hi).1, hv]
theorem Box.soft (h : Box w b cs) {i : Nat} (hi : i < cs.length) : w.frozen? ⟨b, i, none⟩ = false := (h.2 i hi).2
end
end Go.VC
