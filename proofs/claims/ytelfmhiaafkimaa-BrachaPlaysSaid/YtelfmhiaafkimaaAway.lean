/- A variable that lies apart from a heap that turns. Over any program. -/
import Derived.Test.YtelfmhiaafkimaaHp2
import Derived.Test.YtelfmhiaafkimaaOwn3
import Derived.Test.YtelfmhiaafkimaaTbl
namespace Go.VC
open Go Go.RowKit
set_option linter.unusedSimpArgs false
set_option linter.unusedVariables false
/-- The block b holds cs, and none of L lies in it. -/
structure Aw (L : List Ob) (w : World) (b : Nat) (cs : List Value) : Prop where
  box : Box w b cs
  no : ¬ foot L b
section
variable {B b : Nat} {L L' : List Ob} {w w' : World} {cs : List Value}
theorem Aw.step (h : Aw L w b cs) (st : St B L w L' w') : Aw L' w' b cs :=
  ⟨h.box.agree st.agree h.no, fun hf => (st.foot b hf).elim h.no fun h2 => by have := h.box.1; omega⟩
theorem Aw.new (h : Hp B L w) (hb : Box w' b cs) (hl : w.heap.size ≤ b) : Aw L w' b cs := ⟨hb, fun hf => by have := (h.foot_lt hf).2; omega⟩
theorem Aw.below (h : Aw L w b cs) (hB : Below w.heap.size w w') : Aw L w' b cs := ⟨h.box.below hB, h.no⟩
theorem Aw.drewN (h : Aw L w b cs) (m : Nat) : Aw L (w.drewN m) b cs := h.below (below_drewN (Below.refl _ w) m)
/-- The variable is set. -/
theorem Aw.set (h : Aw L w b cs) (hL : Hp B L w) (j : Nat) (v : Value) : Aw L (w.setCell ⟨b, j, none⟩ v) b (cs.set j v) ∧ Hp B L (w.setCell ⟨b, j, none⟩ v) :=
  ⟨⟨h.box.set j v, h.no⟩, hL.agree (X := fun k => k = b) (Agree.setCell w v rfl) fun g hg e => h.no (e ▸ hg)⟩
end
/-- What follows, behind a name. -/
theorem wp_name {X : Ctx} {P : Program} {n : Nat} {c : Code} {Q : Exit → Array Value → World → Prop} {f : Array Value} {w : World} (h : ∀ Q' : Exit → Array Value → World → Prop, Q' = Q → WP X P n c Q' f w) : WP X P n c Q f w := h Q rfl
theorem flat_setK {α : Type} {f : α → List Value} {K : Nat} (hK : ∀ x, (f x).length = K) : ∀ {l : List α} {i j : Nat} (hi : i < l.length) {v : Value} {y : α}, j < K → f y = (f l[i]).set j v → (l.flatMap f).set (i * K + j) v = (l.set i y).flatMap f
  | [], i, j, hi, v, y, _, _ => absurd hi (Nat.not_lt_zero i)
  | x :: l, 0, j, hi, v, y, hj, h => by
    have h : f y = (f x).set j v := h
    rw [List.set_cons_zero, List.flatMap_cons, List.flatMap_cons, h, Nat.zero_mul, Nat.zero_add, List.set_append_left _ _ (by rw [hK]; exact hj)]
  | x :: l, i + 1, j, hi, v, y, hj, h => by
    rw [List.set_cons_succ, List.flatMap_cons, List.flatMap_cons, List.set_append_right _ _ (by rw [hK, Nat.succ_mul]; omega), hK, show (i + 1) * K + j - K = i * K + j by rw [Nat.succ_mul]; omega]
    exact congrArg (f x ++ ·) (flat_setK hK (by simpa using hi) hj h)
end Go.VC
