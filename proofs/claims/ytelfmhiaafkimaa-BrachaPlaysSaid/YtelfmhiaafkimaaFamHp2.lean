/- More on families in a heap. Over any program. -/
import Derived.Test.YtelfmhiaafkimaaFamHp
namespace Go.VC
open Go Go.RowKit
set_option linter.unusedSimpArgs false
set_option linter.unusedVariables false
theorem fam_succ (N : Nat) (F : Nat → Ob) : fam (N + 1) F = fam N F ++ [F N] := by unfold fam; rw [List.range_succ, List.map_append]; rfl
theorem fam_congr {N : Nat} {F G : Nat → Ob} (h : ∀ i, i < N → F i = G i) : fam N F = fam N G := List.map_congr_left fun i hi => h i (by simpa using hi)
/-- Things that lie in no block cost nothing. -/
theorem Hp.free {B : Nat} {L M : List Ob} {w : World} (h : Hp B L w) (hM : ∀ o ∈ M, o.is w ∧ o.blk = none) : Hp B (L ++ M) w := by
  refine ⟨fun o ho => (List.mem_append.1 ho).elim (h.1 o) fun h2 => ⟨(hM o h2).1, fun g hg => by rw [(hM o h2).2] at hg; cases hg⟩, List.pairwise_append.2 ⟨h.2, ?_, fun a ha b hb g h1 h2 => by rw [(hM b hb).2] at h2; cases h2⟩, h.base⟩
  exact List.Pairwise.imp_of_mem (R := fun _ _ => True) (fun {a b} ha hb _ g h1 h2 => by rw [(hM b hb).2] at h2; cases h2) (List.pairwise_of_forall fun _ _ => trivial)
/-- One more thing, that lies apart. -/
theorem Hp.snoc {B : Nat} {L : List Ob} {o : Ob} {w : World} (h : Hp B L w) (ho : o.is w) (hn : ∀ g, o.blk = some g → B ≤ g ∧ ¬ foot L g) : Hp B (L ++ [o]) w := by
  refine ⟨fun x hx => (List.mem_append.1 hx).elim (h.1 x) fun h2 => ?_, List.pairwise_append.2 ⟨h.2, List.pairwise_singleton .., fun a ha b hb g h1 h2 => ?_⟩, h.base⟩
  · rw [List.mem_singleton.1 h2]; exact ⟨ho, fun g hg => (hn g hg).1⟩
  · rw [List.mem_singleton.1 hb] at h2
    exact (hn g h2).2 ⟨a, ha, h1⟩
/-- A slice's own block, as a box. -/
theorem Box.of_own {w : World} {B g m c n : Nat} {e : TypeId} {xs : List Value} (h : OwnK w B e 1 n (.slice (some ⟨g, 0, none⟩) m c) xs) (hg : g < w.heap.size) : Box w g xs := by
  have hl := h.length
  refine ⟨hg, fun i hi => ?_⟩
  exact h.at (by omega)
/-- All slices of a told struct lie above B. -/
def FreshV (B : Nat) (v : Value) : Prop := ∀ cs, v = .agg cs → ∀ A n c, Value.slice A n c ∈ cs.toList → ∀ ad, A = some ad → B ≤ ad.block
end Go.VC
