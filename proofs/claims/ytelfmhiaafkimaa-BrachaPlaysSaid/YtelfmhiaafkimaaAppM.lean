/- 'append(s, t...)' of m elements of any size, also of none. Over any program. -/
import Derived.Test.YtelfmhiaafkimaaTbl
namespace Go.VC
open Go Go.RowKit
set_option linter.unusedVariables false
set_option linter.unusedSimpArgs false

/-- us are the cells from A on, m elements of them. -/
def RdC (w : World) (A : Option Addr) (us : List Value) : Prop := 0 < us.length → ∃ b o, A = some ⟨b, o, none⟩ ∧ b < w.heap.size ∧ ∀ (j : Nat) (u : Value), us[j]? = some u → w.cell? ⟨b, o + j, none⟩ = some u
theorem RdC.below {w w' : World} {A : Option Addr} {us : List Value} (h : RdC w A us) (hb : Below w.heap.size w w') : RdC w' A us := by
  intro h0
  obtain ⟨b, o, rfl, hlt, hc⟩ := h h0
  exact ⟨b, o, rfl, Nat.lt_of_lt_of_le hlt hb.size, fun j u hu => (hb.cell (p := ⟨b, _, none⟩) hlt).trans (hc j u hu)⟩
theorem RdC.own {w : World} {B e size n c : Nat} {A : Option Addr} {xs : List Value} (h : OwnK w B e size n (.slice A n c) xs) : RdC w A xs := by
  intro h0
  have hl := h.length
  have hn : 0 < n := by
    rcases Nat.eq_zero_or_pos n with h1 | h1
    · subst h1; omega
    · exact h1
  obtain ⟨g, c', e, _, hlt⟩ := h.form hn
  cases e
  refine ⟨g, 0, rfl, hlt, fun j u hu => ?_⟩
  rw [Nat.zero_add, (h.at (j := j) (by have := (List.getElem?_eq_some_iff.1 hu).1; omega)).1, hu]
theorem OPW_appM {P : Program} {w : World} {B e n size m : Nat} {v : Value} {xs : List Value} {o : Oper} {f : Array Value} {K' : Value → World → Prop} {s x : Operand} {t : TypeId} {bytes : Nat} {zc : List Value} {us : List Value} {A : Option Addr} {c : Nat}
    (ho : o.op = .call { callee := .builtin .append, args := #[s, x], argTypes := #[t, t] }) (hi : apI P t = some (e, size, bytes, zc))
    (hs : evo f s = v) (hx : evo f x = .slice A m c) (hl : us.length = m * size) (hu : RdC w A us) (h1 : ∀ u ∈ us, u.oneCell' = true)
    (hown : OwnK w B e size n v xs) (hbase : B ≤ w.heap.size) (hn : n + m ≤ 100000) (hb : bytes ≤ 1024)
    (hk : ∀ v' w', OwnK w' B e size (n + m) v' (xs ++ us) → w.grownBy w' v.ownBlock → Stays w v v' → Now (K' v' w')) : OPW P o f w K' := by
  obtain ⟨A0, c0, rfl, hown⟩ := hown
  obtain ⟨i, z, h2, h3, h4, h5, h6, h7, h8, _⟩ := apI_spec hi
  have hrun : ∃ v' w', (Builtin.append_ #[t, t] o.type #[.slice A0 n c0, .slice A m c]).run P w = .ok v' w' ∧ w'.ownsRow B e size v' (n + m) (xs ++ us) ∧ w.grownBy w' (Value.slice A0 n c0).ownBlock ∧ Stays w (.slice A0 n c0) v' := by
    by_cases hm : m = 0
    · subst hm
      have hus : us = [] := List.eq_nil_of_length_eq_zero (by rw [hl, Nat.zero_mul])
      subst hus
      refine ⟨.slice A0 n c0, w, ?_, by rw [List.append_nil]; exact hown, ⟨rfl, rfl, rfl, Nat.le_refl _, fun _ _ _ => rfl⟩, Or.inl rfl⟩
      have hnc : n ≤ c0 := by
        rcases hown.2 with ⟨h, hn0⟩ | ⟨g, cap, cur, h, _, _, hle, _⟩
        · subst hn0; exact Nat.zero_le _
        · cases h; exact hle
      have hfc : (Builtin.firstCells i.size 0 (.slice A 0 c)).run P w = .ok #[] w := by
        cases A <;> simp [Builtin.firstCells, loadCells, loadCellsFrom]
      cases A0 with
      | none => simp [Builtin.append_, run_underlying h2, sizeOf, typeInfo, h3, Builtin.lenOf, hfc, hnc]
      | some a0 => simp [Builtin.append_, run_underlying h2, sizeOf, typeInfo, h3, Builtin.lenOf, hfc, hnc, storeCells]
    · have hpos : 0 < us.length := by rw [hl]; exact Nat.mul_pos (by omega) h8
      obtain ⟨b, off, rfl, hlt, hc⟩ := hu hpos
      have hcells : ∀ j u, us[j]? = some u → w.cell? ((⟨b, off, none⟩ : Addr).add j) = some u := by
        intro j u hu
        rw [add_mk]; exact hc j u hu
      obtain ⟨v', w', hrun, g1, g2, g3, g4⟩ := run_append_own_at (P := P) w B t o.type e i z size bytes h2 h3 h4 h5 h6 h7 h8 (.slice A0 n c0) n xs hown ⟨b, off, none⟩ m c us hl hcells h1
        (by simp only [maxLen]; omega) (Nat.le_trans (Nat.mul_le_mul hn hb) (by omega)) hbase
      exact ⟨v', w', hrun, g1, g2, g4.imp id fun h => ⟨_, h, by simp⟩⟩
  obtain ⟨v', w', hrun, g1, g2, g4⟩ := hrun
  intro X K Q hK
  refine op_lift X (by rw [ho]; intro c h; cases h) ?_
  obtain ⟨A', c', rfl⟩ := own_slice g1
  rw [evo_eq f X.ds] at hs hx
  have := hK _ w' (hk _ w' ⟨A', c', rfl, g1⟩ g2 g4)
  unfold Oper.wp execOp
  simp only [ho, resolve, invoke, builtin, Sem.run_bind, Sem.run_pure, Result.andThen_ok, List.map_toArray, List.map_cons, List.map_nil, hs, hx, hrun]
  exact this
end Go.VC
