/- 'clear(s)' of a slice of one's own. Over any program. -/
import Derived.Test.YtelfmhiaafkimaaOwn3
import Derived.Test.YtelfmhiaafkimaaRecs
import Derived.Test.YtelfmhiaafkimaaHp2
namespace Go.VC
open Go Go.RowKit
set_option linter.unusedSimpArgs false
set_option linter.unusedVariables false
theorem run_clearK {P : Program} {w : World} {t e ty : TypeId} {size bytes : Nat} {zc : List Value} {g k n c : Nat} {cur : Array Value} (hi : apI P t = some (e, size, bytes, zc)) (h1 : ∀ u ∈ zc, u.oneCell' = true)
    (hg : w.heap[g]? = some (.cells cur e (0, 0))) (hfit : k + n * size ≤ cur.size) : ∃ w', (Builtin.clear_ #[t] ty #[.slice (some ⟨g, k, none⟩) n c]).run P w = .ok (.tuple #[]) w' ∧ w.grownBy w' (some g) := by
  obtain ⟨i, z, h2, h3, h4, h5, h6, h7, h8, h9⟩ := apI_spec hi
  by_cases h0 : n = 0
  · subst h0
    refine ⟨w, ?_, ⟨rfl, rfl, rfl, Nat.le_refl _, fun _ _ _ => rfl⟩⟩
    simp [Builtin.clear_, run_underlying h2]
  · have hzl : (Builtin.zeroCells z.cells n).toList.length = n * size := by rw [Array.length_toList, size_zeroCells, h7]
    have hz1 : ∀ u ∈ (Builtin.zeroCells z.cells n).toList, u.oneCell' = true := by
      intro u hu
      unfold Builtin.zeroCells at hu
      simp only [Array.toList_map, Array.toList_range, List.mem_map, List.mem_range] at hu
      obtain ⟨j, hj, rfl⟩ := hu
      have hlt : j % z.cells.size < z.cells.size := Nat.mod_lt _ (by omega)
      rw [getElem!_pos z.cells _ hlt]
      exact h1 _ (by rw [← h9]; simp)
    have hst := run_storeCells_at P g k e (Builtin.zeroCells z.cells n).toList 0 cur w hg (by rw [hzl]; simpa using hfit) hz1
    refine ⟨w.setRow g (cur.toList.take (k + 0) ++ (Builtin.zeroCells z.cells n).toList ++ cur.toList.drop (k + 0 + (Builtin.zeroCells z.cells n).toList.length)).toArray, ?_, ⟨rfl, rfl, rfl, by simp, fun j hj hne => setRow_other _ g j _ (fun e => hne (by rw [e]))⟩⟩
    · have hzv : (zeroValue e).run P w = .ok z w := by simp [zeroValue, typeInfo, h3, h4]
      have hn : ∀ x, n = x + 1 → True := fun _ _ => trivial
      obtain ⟨n', rfl⟩ : ∃ n', n = n' + 1 := ⟨n - 1, by omega⟩
      simp only [Builtin.clear_, run_underlying h2, hzv, hst, Sem.run_bind, Sem.run_pure, Result.andThen_ok, List.getElem?_toArray, List.getElem?_cons_zero]
/-- 'clear(s)'. -/
theorem OPW_clear {P : Program} {w : World} {o : Oper} {f : Array Value} {K' : Value → World → Prop} {so : Operand} {t e : TypeId} {size bytes : Nat} {zc : List Value} {g k n c : Nat} {cur : Array Value}
    (ho : o.op = .call { callee := .builtin .clear, args := #[so], argTypes := #[t] }) (hi : apI P t = some (e, size, bytes, zc)) (h1 : ∀ u ∈ zc, u.oneCell' = true)
    (hs : evo f so = .slice (some ⟨g, k, none⟩) n c) (hg : w.heap[g]? = some (.cells cur e (0, 0))) (hfit : k + n * size ≤ cur.size)
    (hk : ∀ w', w.grownBy w' (some g) → Now (K' (.tuple #[]) w')) : OPW P o f w K' := by
  intro X K Q hK
  refine op_lift X (by rw [ho]; intro c h; cases h) ?_
  obtain ⟨w', hrun, hgr⟩ := run_clearK (ty := o.type) (c := c) hi h1 hg hfit
  have := hK _ _ (hk w' hgr)
  rw [evo_eq f X.ds] at hs
  unfold Oper.wp execOp
  simp only [ho, resolve, invoke, builtin, Sem.run_bind, Sem.run_pure, Result.andThen_ok, List.map_toArray, List.map_cons, List.map_nil, hs, hrun]
  exact this
/-- The cells of an own slice's block. -/
theorem OwnK.cells {w : World} {B g m c n size : Nat} {e : TypeId} {xs : List Value} (h : OwnK w B e size n (.slice (some ⟨g, 0, none⟩) m c) xs) : ∃ cur, w.heap[g]? = some (.cells cur e (0, 0)) ∧ n * size ≤ cur.size := by
  have hl := h.length
  obtain ⟨A, c', hv, h1, h2⟩ := h
  rcases h2 with ⟨h3, _⟩ | ⟨g', cap, cur, h3, h4, h5, h6, h7, h8, h9⟩
  · cases h3
  · cases h3
    exact ⟨cur, h5, by rw [h8]; exact Nat.mul_le_mul_right _ h6⟩
/-- A record of an own slice is stored: the slice is still one's own. -/
theorem OwnK.stAny {B g m c n size : Nat} {e : TypeId} : ∀ (vs : List Value) (w : World) (o i : Nat) (xs : List Value), OwnK w B e size n (.slice (some ⟨g, 0, none⟩) m c) xs → ∃ xs', OwnK (VC.stW w ⟨g, o, none⟩ i vs) B e size n (.slice (some ⟨g, 0, none⟩) m c) xs'
  | [], w, o, i, xs, h => ⟨xs, h⟩
  | v :: vs, w, o, i, xs, h => by
    rw [stW_consO]
    exact OwnK.stAny vs _ o (i + 1) _ (h.stored (o + i) v)
end Go.VC
