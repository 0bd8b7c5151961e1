/- A list of lists of numbers that a call makes itself. Over any program. -/
import Derived.Test.YtelfmhiaafkimaaOwn3
import Derived.Test.YtelfmhiaafkimaaRange
namespace Go.VC
open Go Go.RowKit
set_option linter.unusedVariables false
set_option linter.unusedSimpArgs false

abbrev vInt (l : List Int) : List Value := l.map (Value.int .i64)
/-- The slice value x stands for the list l; it lies in a block from B on that is not v's. -/
def Row (w : World) (B : Nat) (v x : Value) (l : List Int) : Prop := ∃ A c, x = .slice A l.length c ∧ Rd w A (vInt l) ∧ ∀ a, A = some a → B ≤ a.block ∧ a.block < w.heap.size ∧ v.ownBlock ≠ some a.block
def LL (w : World) (B : Nat) (e : TypeId) (v : Value) (ls : List (List Int)) : Prop := ∃ xs : List Value, OwnK w B e 1 ls.length v xs ∧ ∀ i, i < ls.length → ∃ x, xs[i]? = some x ∧ Row w B v x (ls.getD i [])

section
variable {w w' : World} {B : Nat} {e : TypeId} {v v' x : Value} {l : List Int} {ls : List (List Int)}
theorem Row.keep (h : Row w B v x l) (hs : w.heap.size ≤ w'.heap.size) (hb : ∀ k, B ≤ k → k < w.heap.size → v.ownBlock ≠ some k → w'.heap[k]? = w.heap[k]?) (hv : v'.ownBlock = v.ownBlock ∨ ∃ g, v'.ownBlock = some g ∧ w.heap.size ≤ g) : Row w' B v' x l := by
  obtain ⟨A, c, h1, h2, h3⟩ := h
  refine ⟨A, c, h1, h2.keep hs fun a ha => hb _ (h3 a ha).1 (h3 a ha).2.1 (h3 a ha).2.2, fun a ha => ⟨(h3 a ha).1, Nat.lt_of_lt_of_le (h3 a ha).2.1 hs, ?_⟩⟩
  rcases hv with hv | ⟨g, hv, hg⟩
  · rw [hv]; exact (h3 a ha).2.2
  · rw [hv]; intro hh; cases hh; have := (h3 a ha).2.1; omega
theorem LL.nil (w : World) (B : Nat) (e : TypeId) : LL w B e (.slice none 0 0) [] := ⟨[], OwnK.nil _ _ _ _, fun i hi => absurd hi (by simp)⟩
theorem LL.own (h : LL w B e v ls) : ∃ xs, OwnK w B e 1 ls.length v xs := by obtain ⟨xs, h, _⟩ := h; exact ⟨xs, h⟩
theorem LL.keep (h : LL w B e v ls) (hs : w.heap.size ≤ w'.heap.size) (hb : ∀ k, B ≤ k → k < w.heap.size → w'.heap[k]? = w.heap[k]?) : LL w' B e v ls := by
  obtain ⟨xs, h1, h2⟩ := h
  refine ⟨xs, h1.keep fun g hg => hb g (h1.lt hg).1 (h1.lt hg).2, fun i hi => ?_⟩
  obtain ⟨x, hx, hr⟩ := h2 i hi
  exact ⟨x, hx, hr.keep hs (fun k h1 h2 _ => hb k h1 h2) (.inl rfl)⟩
theorem LL.below (h : LL w B e v ls) (hB : Below w.heap.size w w') : LL w' B e v ls := h.keep hB.size fun k _ hk => hB.block k hk
theorem LL.agree {X : Nat → Prop} (h : LL w B e v ls) (hA : Agree X w w') (hX : ∀ k, X k → k < B ∨ w.heap.size ≤ k) : LL w' B e v ls :=
  h.keep hA.size fun k h1 h2 => hA.block k h2 fun hx => by rcases hX k hx with h | h <;> omega
theorem LL.mono {B' : Nat} (h : LL w B e v ls) (hB : B' ≤ B) : LL w B' e v ls := by
  obtain ⟨xs, h1, h2⟩ := h
  refine ⟨xs, h1.mono hB, fun i hi => ?_⟩
  obtain ⟨x, hx, A, c, g1, g2, g3⟩ := h2 i hi
  exact ⟨x, hx, A, c, g1, g2, fun a ha => ⟨by have := (g3 a ha).1; omega, (g3 a ha).2⟩⟩
theorem LL.setCell {a : Addr} (h : LL w B e v ls) (ha : a.block < B) (u : Value) : LL (w.setCell a u) B e v ls :=
  h.keep (by simp) fun k hk _ => Below.heap_setCell w a u k (by omega)
theorem LL.slice (h : LL w B e v ls) : ∃ A c, v = .slice A ls.length c := by obtain ⟨xs, ⟨A, c, h, _⟩, _⟩ := h; exact ⟨A, c, h⟩
theorem LL.row (h : LL w B e v ls) : ∀ g, v.ownBlock = some g → B ≤ g ∧ g < w.heap.size := by obtain ⟨xs, h, _⟩ := h; exact fun g hg => h.lt hg
/-- One of the lists. -/
theorem LL.at {A : Option Addr} {n c : Nat} (h : LL w B e (.slice A n c) ls) {i : Nat} (hi : i < ls.length) : ∃ g A' c', A = some ⟨g, 0, none⟩ ∧ w.cell? ⟨g, i, none⟩ = some (.slice A' (ls.getD i []).length c') ∧ Rd w A' (vInt (ls.getD i [])) := by
  obtain ⟨xs, h1, h2⟩ := h
  obtain ⟨g, c1, e1, _, _⟩ := h1.form (by omega)
  cases e1
  obtain ⟨x, hx, A', c', rfl, hr, _⟩ := h2 i hi
  obtain ⟨h3, _⟩ := h1.at (j := i) (by omega)
  exact ⟨g, A', c', rfl, h3.trans hx, hr⟩
/-- One more list, in a block of its own. -/
theorem LL.app {A : Option Addr} {c : Nat} (hrow : Row w B v (.slice A l.length c) l) {xs : List Value} (h1 : OwnK w B e 1 ls.length v xs) (h2 : ∀ i, i < ls.length → ∃ x, xs[i]? = some x ∧ Row w B v x (ls.getD i [])) (hg : w.grownBy w' v.ownBlock) (hst : Stays w v v')
    (ho : OwnK w' B e 1 (ls.length + 1) v' (xs ++ [.slice A l.length c])) : LL w' B e v' (ls ++ [l]) := by
  have kr : ∀ {x : Value} {l : List Int}, Row w B v x l → Row w' B v' x l := fun hr => hr.keep hg.size (fun k _ hk hne => hg.block k hk fun e => hne e.symm) hst
  have hlx := h1.length
  rw [Nat.mul_one] at hlx
  refine ⟨xs ++ [.slice A l.length c], by rw [List.length_append, List.length_singleton]; exact ho, fun i hi => ?_⟩
  rw [List.length_append, List.length_singleton] at hi
  by_cases hil : i < ls.length
  · obtain ⟨x, hx, hr⟩ := h2 i hil
    refine ⟨x, by rw [List.getElem?_append_left (by omega)]; exact hx, ?_⟩
    have e : (ls ++ [l]).getD i [] = ls.getD i [] := by rw [List.getD_eq_getElem?_getD, List.getD_eq_getElem?_getD, List.getElem?_append_left hil]
    rw [e]; exact kr hr
  · obtain rfl : i = ls.length := by omega
    refine ⟨.slice A l.length c, by rw [← hlx, List.getElem?_append_right (Nat.le_refl _)]; simp, ?_⟩
    have e : (ls ++ [l]).getD ls.length [] = l := by rw [List.getD_eq_getElem?_getD, List.getElem?_append_right (Nat.le_refl _)]; simp
    rw [e]; exact kr hrow
/-- 'append(s, l)'. -/
theorem OPW_appLL {P : Program} {o : Oper} {f : Array Value} {K' : Value → World → Prop} {s y : Operand} {t : TypeId} {bytes : Nat} {zc : List Value} {e0 : TypeId} {A : Option Addr} {c : Nat}
    (ho : o.op = .call { callee := .builtin .append, args := #[s, y], argTypes := #[t, t] }) (hi : apI P t = some (e, 1, bytes, zc))
    {len : Nat} (hlen : l.length = len) (hs : evo f s = v) (hx : evo f y = .slice (some ⟨w.heap.size, 0, none⟩) 1 1) (hrow : Row w B v (.slice A l.length c) l) (h : LL w B e v ls) (hbase : B ≤ w.heap.size) (hn : ls.length ≤ 100000) (hb : bytes ≤ 1024)
    (hk : ∀ v' w', LL w' B e v' (ls ++ [l]) → w.grownBy w' v.ownBlock → Stays w v v' → Now (K' v' w')) : OPW P o f (w.alloc (.cells #[.slice A len c] e0)) K' := by
  have e : Value.slice A len c = .slice A l.length c := by rw [hlen]
  rw [e]
  obtain ⟨xs, h1, h2⟩ := id h
  refine OPW_appK (us := [.slice A l.length c]) ho hi hs hx rfl (by simp [oneCell_slice]) h1 hbase hn hb fun v' w' k1 k2 k3 => ?_
  exact hk v' w' (LL.app hrow h1 h2 k2 k3 k1) k2 k3
end
end Go.VC
