/- A queue: a slice of one-cell values that grows at its end and is cut at its head. Over any program. -/
import Derived.Test.YtelfmhiaafkimaaOwn3
namespace Go.VC
open Go Go.RowKit
set_option linter.unusedSimpArgs false
set_option linter.unusedVariables false
/-- The slice v holds xs, in a block that is its own, from some place on. -/
def OwnQ (w : World) (e : TypeId) (v : Value) (xs : List Value) : Prop :=
  (v = .slice none 0 0 ∧ xs = []) ∨ ∃ g o cap cur, v = .slice (some ⟨g, o, none⟩) xs.length cap ∧ w.heap[g]? = some (.cells cur e (0, 0)) ∧ xs.length ≤ cap ∧ cap ≤ maxLen ∧ o + cap ≤ cur.size ∧ (cur.toList.drop o).take xs.length = xs
section
variable {w w' : World} {e : TypeId} {v : Value} {xs : List Value}
theorem OwnQ.nil (w : World) (e : TypeId) : OwnQ w e (.slice none 0 0) [] := .inl ⟨rfl, rfl⟩
theorem OwnQ.lt (h : OwnQ w e v xs) {g : Nat} (hg : v.ownBlock = some g) : g < w.heap.size := by
  rcases h with ⟨rfl, _⟩ | ⟨g', o, cap, cur, rfl, h5, _⟩
  · simp [Value.ownBlock] at hg
  · simp [Value.ownBlock] at hg
    subst hg; exact (Array.getElem?_eq_some_iff.1 h5).1
theorem OwnQ.keep (h : OwnQ w e v xs) (hb : ∀ g, v.ownBlock = some g → w'.heap[g]? = w.heap[g]?) : OwnQ w' e v xs := by
  rcases h with h | ⟨g', o, cap, cur, rfl, h5, rest⟩
  · exact .inl h
  · exact .inr ⟨g', o, cap, cur, rfl, (hb g' rfl).trans h5, rest⟩
theorem OwnQ.form (h : OwnQ w e v xs) : ∃ A c, v = .slice A xs.length c := by
  rcases h with ⟨rfl, rfl⟩ | ⟨g', o, cap, cur, rfl, _⟩
  · exact ⟨none, 0, rfl⟩
  · exact ⟨_, _, rfl⟩
/-- What lies at each place. -/
theorem OwnQ.some (h : OwnQ w e v xs) (h0 : 0 < xs.length) : ∃ g o cap, v = .slice (some ⟨g, o, none⟩) xs.length cap ∧ xs.length ≤ cap ∧ g < w.heap.size ∧ (∀ j u, xs[j]? = some u → w.cell? ⟨g, o + j, none⟩ = some u) ∧ ∀ j, w.frozen? ⟨g, j, none⟩ = false := by
  rcases h with ⟨_, rfl⟩ | ⟨g, o, cap, cur, rfl, h5, h6, h7, h8, h9⟩
  · simp at h0
  · have hlt := (Array.getElem?_eq_some_iff.1 h5).1
    refine ⟨g, o, cap, rfl, h6, hlt, fun j u hu => ?_, fun j => ?_⟩
    · have hj : j < xs.length := (List.getElem?_eq_some_iff.1 hu).1
      rw [← h9, List.getElem?_take_of_lt hj, List.getElem?_drop, Array.getElem?_toList] at hu
      have hcs : o + j < cur.size := by omega
      simp [World.cell?, h5, hu]
    · simp [World.frozen?, h5]
/-- The head is cut off. -/
theorem OwnQ.tail {x : Value} {A : Option Addr} {n c : Nat} (h : OwnQ w e (.slice A n c) (x :: xs)) : OwnQ w e (.slice (if c = 1 then A else A.map (·.add 1)) (n - 1) (c - 1)) xs := by
  rcases h with ⟨_, h2⟩ | ⟨g, o, cap, cur, hv, h5, h6, h7, h8, h9⟩
  · cases h2
  · simp only [Value.slice.injEq] at hv
    obtain ⟨rfl, rfl, rfl⟩ := hv
    simp only [List.length_cons] at h6 h9
    have h10 : (cur.toList.drop (o + 1)).take xs.length = xs := by
      have := congrArg List.tail h9
      rw [List.tail_cons, ← List.drop_one, List.drop_take, List.drop_drop] at this
      simpa using this
    by_cases hc : c = 1
    · subst hc
      rw [if_pos rfl]
      obtain rfl : xs = [] := List.eq_nil_of_length_eq_zero (by omega)
      exact .inr ⟨g, o, 0, cur, rfl, h5, Nat.le_refl _, Nat.zero_le _, by omega, by simp⟩
    · rw [if_neg hc]
      refine .inr ⟨g, o + 1, c - 1, cur, ?_, h5, by omega, by omega, by omega, h10⟩
      simp only [List.length_cons, Nat.add_sub_cancel, Option.map_some, add_mk]
end
section
variable {P : Program}
/-- One more fits behind the last one, from whatever place the slice begins. -/
theorem run_append_roomQ (w : World) (t ty e : TypeId) (i : TypeInfo) (ht : P.underlying t = some (.slice e)) (hi : P.info? e = some i) (h1s : i.size = 1)
    (g o sLen sCap : Nat) (cur : Array Value) (hg : w.heap[g]? = some (.cells cur e (0, 0)))
    (a : Addr) (u : Value) (hu : w.cell? (a.add 0) = some u) (h1 : u.oneCell' = true)
    (hroom : sLen + 1 ≤ sCap) (hfit : o + sLen + 1 ≤ cur.size) :
    (Builtin.append_ #[t, t] ty #[.slice (some ⟨g, o, none⟩) sLen sCap, .slice (some a) 1 1]).run P w =
      .ok (.slice (some ⟨g, o, none⟩) (sLen + 1) sCap) (w.setRow g (cur.toList.take (o + sLen) ++ [u] ++ cur.toList.drop (o + sLen + 1)).toArray) := by
  have hf := run_firstCells_some (P := P) w 1 1 a 1 1 [u] rfl (fun j v hj => by
    rcases j with _ | j
    · simp at hj; subst hj; exact hu
    · simp at hj)
  have hst := run_storeCells_at P g (o + sLen) e [u] 0 cur w hg (by simpa using hfit) (by simpa using h1)
  simp only [Nat.add_zero, List.length_singleton] at hst
  simp [Builtin.append_, run_underlying ht, sizeOf, typeInfo, hi, h1s, Builtin.lenOf, hroom, hf, add_mk, hst]
/-- One more value, read from some cell. -/
theorem OPW_appQg {w : World} {o : Oper} {f : Array Value} {K' : Value → World → Prop} {s x : Operand} {t e : TypeId} {bytes : Nat} {zc : List Value} {u v : Value} {xs : List Value} {a : Addr}
    (ho : o.op = .call { callee := .builtin .append, args := #[s, x], argTypes := #[t, t] }) (hi : apI P t = some (e, 1, bytes, zc))
    (hs : evo f s = v) (hx : evo f x = .slice (some a) 1 1) (hu : w.cell? a = some u) (h1 : u.oneCell' = true)
    (hown : OwnQ w e v xs) (hn : xs.length ≤ 100000) (hb : bytes ≤ 1024)
    (hk : ∀ v' w', OwnQ w' e v' (xs ++ [u]) → w.grownBy w' v.ownBlock → Stays w v v' → Now (K' v' w')) : OPW P o f w K' := by
  obtain ⟨i, z, h2, h3, h4, h5, h6, h7, h8, _⟩ := apI_spec hi
  intro X K Q hK
  refine op_lift X (by rw [ho]; intro c h; cases h) ?_
  have hcell : w.cell? (a.add 0) = some u := by rw [show a.add 0 = a from by simp [Addr.add]]; exact hu
  have key : ∃ v' w', (Builtin.append_ #[t, t] o.type #[v, .slice (some a) 1 1]).run P w = .ok v' w' ∧ OwnQ w' e v' (xs ++ [u]) ∧ w.grownBy w' v.ownBlock ∧ Stays w v v' := by
    have grown : ∀ old, old < xs.length + 1 → ∀ row, OwnQ (w.drew.alloc (.cells (xs.toArray ++ [u].toArray ++ Builtin.zeroCells z.cells (grownCap w (xs.length + 1) old e - (xs.length + 1))) e)) e
        (.slice (some ⟨w.heap.size, 0, none⟩) (xs.length + 1) (grownCap w (xs.length + 1) old e)) (xs ++ [u]) ∧
        w.grownBy (w.drew.alloc (.cells (xs.toArray ++ [u].toArray ++ Builtin.zeroCells z.cells (grownCap w (xs.length + 1) old e - (xs.length + 1))) e)) row := by
      intro old hold row
      have hge := grownCap_ge w (xs.length + 1) old e
      have hcm : grownCap w (xs.length + 1) old e ≤ maxLen := grownCap_le_maxLen _ _ _ _ (by simp only [maxLen]; omega)
      refine ⟨.inr ⟨_, 0, _, _, by simp, heap_alloc_new w.drew _, by simpa using hge, hcm, ?_, ?_⟩, ⟨rfl, rfl, rfl, by simp, fun k hk _ => heap_alloc_old w.drew _ hk⟩⟩
      · simp only [Array.size_append, List.size_toArray, size_zeroCells, h7, List.length_singleton]
        omega
      · simp only [Array.toList_append, List.append_assoc, List.drop_zero]
        rw [← List.append_assoc]
        exact List.take_left
    rcases hown with ⟨rfl, rfl⟩ | ⟨g, o2, cap, cur, rfl, hg, hnc, hcm, hcs, htake⟩
    · have hr := run_append_nil (P := P) w t o.type e i z h2 h3 h4 a 1 1 [u] (by simp [h5]) (fun j v hj => by
        rcases j with _ | j
        · simp at hj; subst hj; exact hcell
        · simp at hj) (by omega) (by omega) (by omega)
      have hgr := grown 0 (by omega) (Value.ownBlock (.slice none 0 0))
      simp only [Nat.zero_add, List.nil_append, Array.empty_append, List.length_nil] at hgr ⊢
      exact ⟨_, _, hr, hgr.1, hgr.2, .inr ⟨_, rfl, Nat.le_refl _⟩⟩
    · by_cases hroom : xs.length + 1 ≤ cap
      · have hr := run_append_roomQ (P := P) w t o.type e i h2 h3 h5 g o2 xs.length cap cur hg a u hcell h1 hroom (by omega)
        refine ⟨_, _, hr, .inr ⟨g, o2, cap, _, by simp, setRow_heap _ g cur _ e _ hg, by simpa using hroom, hcm, ?_, ?_⟩, ⟨rfl, rfl, rfl, by simp, fun k _ hk => setRow_other _ g k _ (fun e => hk (by simp [Value.ownBlock, e]))⟩, .inl rfl⟩
        · simp only [List.size_toArray, List.length_append, List.length_take, List.length_drop, Array.length_toList, List.length_singleton]
          omega
        · simp only [List.append_assoc]
          rw [List.drop_append_of_le_length (by simp; omega), List.drop_take, Nat.add_sub_cancel_left, htake, ← List.append_assoc]
          exact List.take_left
      · have hr := run_append_grow (P := P) w t o.type e i z h2 h3 h4 ⟨g, o2, none⟩ xs.length cap xs (by simp [h5]) (fun j u2 hj => ?_) a 1 1 [u] (by simp [h5]) (fun j v hj => by
          rcases j with _ | j
          · simp at hj; subst hj; exact hcell
          · simp at hj) (by omega) (by omega) (growslice_fits (by omega) (Nat.le_trans (Nat.mul_le_mul (show xs.length + 1 ≤ 100001 by omega) (by rw [h6]; exact hb)) (by omega)))
        · have hgr := grown cap (by omega) (Value.ownBlock (.slice (some ⟨g, o2, none⟩) xs.length cap))
          exact ⟨_, _, hr, hgr.1, hgr.2, .inr ⟨_, rfl, Nat.le_refl _⟩⟩
        · have hj2 : j < xs.length := (List.getElem?_eq_some_iff.1 hj).1
          rw [← htake, List.getElem?_take_of_lt hj2, List.getElem?_drop, Array.getElem?_toList] at hj
          rw [add_mk]
          simp [World.cell?, hg, hj]
  obtain ⟨v', w', hrun, g1, g2, g3⟩ := key
  rw [evo_eq f X.ds] at hs hx
  have := hK _ w' (hk v' w' g1 g2 g3)
  unfold Oper.wp execOp
  simp only [ho, resolve, invoke, builtin, Sem.run_bind, Sem.run_pure, Result.andThen_ok, List.map_toArray, List.map_cons, List.map_nil, hs, hx, hrun]
  exact this
/-- One more value, laid just before. -/
theorem OPW_appQ {w : World} {o : Oper} {f : Array Value} {K' : Value → World → Prop} {s x : Operand} {t e : TypeId} {bytes : Nat} {zc : List Value} {u v : Value} {xs : List Value} {e0 : TypeId}
    (ho : o.op = .call { callee := .builtin .append, args := #[s, x], argTypes := #[t, t] }) (hi : apI P t = some (e, 1, bytes, zc))
    (hs : evo f s = v) (hx : evo f x = .slice (some ⟨w.heap.size, 0, none⟩) 1 1) (h1 : u.oneCell' = true)
    (hown : OwnQ w e v xs) (hn : xs.length ≤ 100000) (hb : bytes ≤ 1024)
    (hk : ∀ v' w', OwnQ w' e v' (xs ++ [u]) → w.grownBy w' v.ownBlock → Stays w v v' → Now (K' v' w')) : OPW P o f (w.alloc (.cells #[u] e0)) K' := by
  refine OPW_appQg ho hi hs hx (by rw [World.cell?_alloc_new]; rfl) h1 (hown.keep fun g hg => heap_alloc_old w _ (hown.lt hg)) hn hb fun v' w' g1 g2 g3 => hk v' w' g1 ((World.grownBy_alloc w _ _).trans g2) (g3.imp id fun ⟨g, h2, h3⟩ => ⟨g, h2, Nat.le_trans (by simp) h3⟩)
end
end Go.VC
