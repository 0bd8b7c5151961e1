/- Slices that a call makes itself: append, make; reading them. Over any program. -/
import Derived.Test.YtelfmhiaafkimaaArg
import Derived.Test.YtelfmhiaafkimaaDraw
import Derived.Maps.AppendAt
import Derived.Laws.OwnMore
import Derived.OwnWalk
namespace Go.VC
open Go Go.RowKit
set_option linter.unusedVariables false
set_option linter.unusedSimpArgs false

theorem apI_spec {P : Program} {t e : TypeId} {size bytes : Nat} {zc : List Value} (h : apI P t = some (e, size, bytes, zc)) :
    ∃ i z, P.underlying t = some (.slice e) ∧ P.info? e = some i ∧ i.zero = some z ∧ i.size = size ∧ i.bytes = bytes ∧ z.cells.size = size ∧ 0 < size ∧ z.cells.toList = zc := by
  unfold apI at h
  split at h
  · rename_i e' he
    split at h
    · rename_i i hi
      split at h
      · rename_i z hz
        split at h
        · rename_i hc
          simp only [Option.some.injEq, Prod.mk.injEq] at h
          obtain ⟨rfl, rfl, rfl, rfl⟩ := h
          exact ⟨i, z, he, hi, hz, rfl, rfl, hc.1, hc.2, rfl⟩
        · cases h
      · cases h
    · cases h
  · cases h

section
variable {P : Program} {w : World}

/-- Where an owned slice lies. -/
def inB (B : Nat) (w : World) (A : Option Addr) : Prop := ∀ a, A = some a → B ≤ a.block ∧ a.block < w.heap.size

theorem own_slice {base e size n : Nat} {v : Value} {xs : List Value} (h : w.ownsRow base e size v n xs) : ∃ A c, v = .slice A n c := by
  rcases h.2 with ⟨rfl, rfl⟩ | ⟨g, cap, cur, rfl, _⟩
  · exact ⟨none, 0, rfl⟩
  · exact ⟨_, _, rfl⟩

/-- 'append(s, x)', s the call's own, x one element, just laid in a block of its own. -/
theorem OPW_append1 {o : Oper} {f : Array Value} {K' : Value → World → Prop} {s x : Operand} {t : TypeId} {e size bytes : Nat} {zc : List Value} {A : Option Addr} {n c base : Nat} {xs us : List Value} {e0 : TypeId}
    (ho : o.op = .call { callee := .builtin .append, args := #[s, x], argTypes := #[t, t] }) (hi : apI P t = some (e, size, bytes, zc))
    (hs : evo f s = .slice A n c) (hx : evo f x = .slice (some ⟨w.heap.size, 0, none⟩) 1 1) (hl : us.length = size) (h1 : ∀ u ∈ us, u.oneCell' = true)
    (hown : w.ownsRow base e size (.slice A n c) n xs) (hb : (n + 1) * bytes ≤ 140737488355328) (hn : n + 1 ≤ 140737488355328) (hbase : base ≤ w.heap.size)
    (hk : ∀ A' c' w', w'.ownsRow base e size (.slice A' (n + 1) c') (n + 1) (xs ++ us) → w.grownBy w' (Value.slice A n c).ownBlock →
      ((Value.slice A' (n + 1) c').ownBlock = (Value.slice A n c).ownBlock ∨ ∃ g, (Value.slice A' (n + 1) c').ownBlock = some g ∧ w.heap.size ≤ g) → Now (K' (.slice A' (n + 1) c') w')) : OPW P o f (w.alloc (.cells us.toArray e0)) K' := by
  obtain ⟨i, z, h2, h3, h4, h5, h6, h7, h8, _⟩ := apI_spec hi
  intro X K Q hK
  refine op_lift X (by rw [ho]; intro c h; cases h) ?_
  have hcells : ∀ j u, us[j]? = some u → (w.alloc (.cells us.toArray e0)).cell? ((⟨w.heap.size, 0, none⟩ : Addr).add j) = some u := by
    intro j u hu
    rw [add_mk, Nat.zero_add, World.cell?_alloc_new]
    simpa using hu
  obtain ⟨v', w', hrun, g1, g2, g3, g4⟩ := run_append_own_at (P := P) (w.alloc (.cells us.toArray e0)) base t o.type e i z size bytes h2 h3 h4 h5 h6 h7 h8 (.slice A n c) n xs (hown.alloc _) ⟨w.heap.size, 0, none⟩ 1 1 us (by simpa using hl) hcells h1
    (by simp only [maxLen]; omega) hb (by simp; omega)
  obtain ⟨A', c', rfl⟩ := own_slice g1
  rw [evo_eq f X.ds] at hs hx
  have hg : w.grownBy w' (Value.slice A n c).ownBlock := (World.grownBy_alloc w _ _).trans g2
  have := hK _ w' (hk A' c' w' g1 hg (g4.imp id fun h => ⟨_, h, by simp⟩))
  unfold Oper.wp execOp
  simp only [ho, resolve, invoke, builtin, Sem.run_bind, Sem.run_pure, Result.andThen_ok, List.map_toArray, List.map_cons, List.map_nil, hs, hx, hrun]
  exact this

theorem madeCells_one (z : Value) (n : Nat) : (madeCells #[z] n).toList = List.replicate n z := by
  unfold madeCells
  apply List.ext_getElem?
  intro i
  by_cases hi : i < n
  · simp [hi, Nat.mod_one]
  · simp [hi]

/-- 'make([]T, n)'. -/
theorem OPW_make {o : Oper} {f : Array Value} {K' : Value → World → Prop} {l c : Operand} {t : TypeId} {e bytes : Nat} {z : Value} {n base : Nat} {N M : Int} {k1 k2 : IntKind}
    (ho : o.op = .makeSlice t l c) (hi : apI P t = some (e, 1, bytes, [z])) (hl : evo f l = .int k1 N) (hc : evo f c = .int k2 M) (hN : N = n) (hM : M = n) (hb : bytes * n ≤ 281474976710656) (hn : n ≤ 140737488355328) (hbase : base ≤ w.heap.size)
    (hk : ∀ w', w'.ownsRow base e 1 (.slice (some ⟨w.heap.size, 0, none⟩) n n) n (List.replicate n z) → w.grownBy w' none → Now (K' (.slice (some ⟨w.heap.size, 0, none⟩) n n) w')) : OPW P o f w K' := by
  obtain ⟨i, z', h2, h3, h4, h5, h6, h7, h8, h9⟩ := apI_spec hi
  intro X K Q hK
  refine op_lift X (by rw [ho]; intro c h; cases h) ?_
  subst hN; subst hM
  obtain ⟨w', hrun, r1, r2⟩ := run_make_full (P := P) w base t e i z' 1 h2 h3 h4 h5 k1 k2 n (by rw [h6]; exact hb) (by simp only [maxLen]; omega) hbase
  have hz : z'.cells = #[z] := by rw [← Array.toList_inj, h9]
  rw [hz, Nat.mul_one, madeCells_one] at r1
  rw [evo_eq f X.ds] at hl hc
  have := hK _ w' (hk w' r1 r2)
  unfold Oper.wp execOp
  simp only [ho, Sem.run_bind, hl, hc, hrun, Result.andThen_ok, Sem.run_pure]
  exact this
end

/-- A slice of one-cell elements that reads as xs. -/
def Rd (w : World) (A : Option Addr) (xs : List Value) : Prop :=
  0 < xs.length → ∃ b o, A = some ⟨b, o, none⟩ ∧ b < w.heap.size ∧ ∀ j, j < xs.length → w.cell? ⟨b, o + j, none⟩ = xs[j]?

section
variable {w w' : World} {A : Option Addr} {xs : List Value}
theorem Rd.nil (w : World) (A : Option Addr) : Rd w A [] := fun h => absurd h (by simp)
theorem Rd.keep (h : Rd w A xs) (hs : w.heap.size ≤ w'.heap.size) (hb : ∀ a, A = some a → w'.heap[a.block]? = w.heap[a.block]?) : Rd w' A xs := by
  intro h0
  obtain ⟨b, o, rfl, hlt, hc⟩ := h h0
  exact ⟨b, o, rfl, Nat.lt_of_lt_of_le hlt hs, fun j hj => (World.cell?_of_block (w := w) (a := ⟨b, o + j, none⟩) (show w'.heap[b]? = w.heap[b]? from hb ⟨b, o, none⟩ rfl)).trans (hc j hj)⟩
theorem Rd.below (h : Rd w A xs) (hb : Below w.heap.size w w') : Rd w' A xs := by
  intro h0
  obtain ⟨b, o, rfl, hlt, hc⟩ := h h0
  exact ⟨b, o, rfl, Nat.lt_of_lt_of_le hlt hb.size, fun j hj => (hb.cell (p := ⟨b, _, none⟩) hlt).trans (hc j hj)⟩
theorem Rd.drewN (h : Rd w A xs) (n : Nat) : Rd (w.drewN n) A xs := h
theorem Rd.alloc (h : Rd w A xs) (o : Obj) : Rd (w.alloc o) A xs := h.below ((Below.refl _ _).alloc (Nat.le_refl _) o)
theorem Rd.grown {row : Option Nat} (h : Rd w A xs) (hg : w.grownBy w' row) (hne : ∀ a, A = some a → row ≠ some a.block) : Rd w' A xs := by
  intro h0
  obtain ⟨b, o, rfl, hlt, hc⟩ := h h0
  exact ⟨b, o, rfl, Nat.lt_of_lt_of_le hlt hg.size, fun j hj => (World.cell?_of_block (w := w) (a := ⟨b, o + j, none⟩) (hg.block b hlt (fun e => hne _ rfl e.symm))).trans (hc j hj)⟩
theorem Rd.of_own {base e n c : Nat} (h : w.ownsRow base e 1 (.slice A n c) n xs) : Rd w A xs := by
  intro h0
  have hl := h.1
  rcases h.2 with ⟨hv, hn⟩ | ⟨g, cap, cur, hv, hb, hg, _⟩
  · omega
  · simp only [Value.slice.injEq, true_and] at hv
    obtain ⟨rfl, rfl⟩ := hv
    refine ⟨g, 0, rfl, (Array.getElem?_eq_some_iff.1 hg).1, fun j hj => ?_⟩
    rw [Nat.zero_add]
    exact h.cellAt j (by omega)
theorem Rd.at {α : Type} {en : α → Value} {l : List α} (h : Rd w A (l.map en)) {k : Nat} (hk : k < l.length) (d : α) : ∃ b o, A = some ⟨b, o, none⟩ ∧ b < w.heap.size ∧ w.cell? ⟨b, o + k, none⟩ = some (en (l.getD k d)) := by
  obtain ⟨b, o, rfl, hlt, hc⟩ := h (by simp; omega)
  refine ⟨b, o, rfl, hlt, ?_⟩
  rw [hc k (by simpa using hk)]
  simp [List.getD, hk]
end

theorem below_box {w0 w : World} (h : Below w0.heap.size w0 w) (o : Obj) : Below w0.heap.size w0 (w.alloc o) := h.alloc h.size o

theorem Rd.all {w : World} {A : Option Addr} {α : Type} {en : α → Value} {l : List α} (h : Rd w A (l.map en)) (h0 : 0 < l.length) (d : α) : ∃ b o, A = some ⟨b, o, none⟩ ∧ b < w.heap.size ∧ ∀ k, k < l.length → w.cell? ⟨b, o + k, none⟩ = some (en (l.getD k d)) := by
  obtain ⟨b, o, rfl, hb, _⟩ := h.at h0 d
  refine ⟨b, o, rfl, hb, fun k hk => ?_⟩
  obtain ⟨b', o', e, _, hc⟩ := h.at hk d
  cases e
  exact hc

/-- A slice of one-cell elements that lies in the part of memory behind B, its block's only one. -/
def OwnV (w : World) (B : Nat) (e : TypeId) (v : Value) (xs : List Value) : Prop := ∃ A c, v = .slice A xs.length c ∧ w.ownsRow B e 1 (.slice A xs.length c) xs.length xs

section
variable {w w' : World} {B : Nat} {e : TypeId} {v : Value} {xs : List Value}
theorem OwnV.nil (w : World) (B : Nat) (e : TypeId) : OwnV w B e (.slice none 0 0) [] := ⟨none, 0, rfl, World.ownsRow_nil w B e 1⟩
theorem OwnV.mono {B' : Nat} (h : OwnV w B e v xs) (hb : B' ≤ B) : OwnV w B' e v xs := by
  obtain ⟨A, c, hv, h1, h2⟩ := h
  refine ⟨A, c, hv, h1, h2.imp id ?_⟩
  rintro ⟨g, cap, cur, h3, h4, h5⟩
  exact ⟨g, cap, cur, h3, Nat.le_trans hb h4, h5⟩
theorem OwnV.below (h : OwnV w B e v xs) (hB : Below w.heap.size w w') : OwnV w' B e v xs := by
  obtain ⟨A, c, hv, h1, h2⟩ := h
  refine ⟨A, c, hv, h1, h2.imp id ?_⟩
  rintro ⟨g, cap, cur, h3, h4, h5, h6⟩
  exact ⟨g, cap, cur, h3, h4, by rw [hB.block g (Array.getElem?_eq_some_iff.1 h5).1]; exact h5, h6⟩
theorem OwnV.drewN (h : OwnV w B e v xs) (n : Nat) : OwnV (w.drewN n) B e v xs := h
theorem OwnV.alloc (h : OwnV w B e v xs) (o : Obj) : OwnV (w.alloc o) B e v xs := h.below ((Below.refl _ _).alloc (Nat.le_refl _) o)
theorem OwnV.of {A : Option Addr} {n c : Nat} (h : w.ownsRow B e 1 (.slice A n c) n xs) : OwnV w B e (.slice A n c) xs := by
  have hl : xs.length = n := by have := h.1; omega
  subst hl; exact ⟨A, c, rfl, h⟩
theorem OwnV.rd {A : Option Addr} {n c : Nat} (h : OwnV w B e (.slice A n c) xs) : n = xs.length ∧ Rd w A xs := by
  obtain ⟨A', c', hv, ho⟩ := h
  simp only [Value.slice.injEq] at hv
  obtain ⟨rfl, rfl, rfl⟩ := hv
  exact ⟨rfl, Rd.of_own ho⟩
theorem OwnV.lit (w : World) (us : List Value) (hb : B ≤ w.heap.size) (hm : us.length ≤ maxLen) : OwnV (w.alloc (.cells us.toArray e)) B e (.slice (some ⟨w.heap.size, 0, none⟩) us.length us.length) us :=
  ⟨_, _, rfl, World.ownsRow_lit w _ _ hb hm (by simp)⟩

/-- 'append(s, u)' over a slice of one's own, u just laid in a block of its own. -/
theorem OPW_app {P : Program} {o : Oper} {f : Array Value} {K' : Value → World → Prop} {s x : Operand} {t : TypeId} {bytes : Nat} {zc : List Value} {us : List Value} {e0 : TypeId} {w0 : World}
    (ho : o.op = .call { callee := .builtin .append, args := #[s, x], argTypes := #[t, t] }) (hi : apI P t = some (e, 1, bytes, zc))
    (hs : evo f s = v) (hx : evo f x = .slice (some ⟨w.heap.size, 0, none⟩) 1 1) (hl : us.length = 1) (h1 : ∀ u ∈ us, u.oneCell' = true)
    (hown : OwnV w w0.heap.size e v xs) (hB : Below w0.heap.size w0 w) (hn : xs.length ≤ 1000000) (hb : bytes ≤ 64)
    (hk : ∀ v' w', OwnV w' w0.heap.size e v' (xs ++ us) → Below w0.heap.size w0 w' → Now (K' v' w')) : OPW P o f (w.alloc (.cells us.toArray e0)) K' := by
  obtain ⟨A, c, rfl, hown⟩ := hown
  refine OPW_append1 ho hi hs hx hl h1 hown ?_ (by omega) hB.size ?_
  · exact Nat.le_trans (Nat.mul_le_mul (show xs.length + 1 ≤ 1000001 by omega) hb) (by omega)
  · intro A' c' w' ho' hg hloc
    exact hk _ _ (OwnV.of ho') (hB.grown hg hB.size fun k hk => (hown.lt k hk).1)
end

section
variable {w w' : World} {B : Nat} {e : TypeId} {v : Value} {xs : List Value}
/-- 'append(s, t...)' over a slice of one's own. -/
theorem OPW_appS {P : Program} {o : Oper} {f : Array Value} {K' : Value → World → Prop} {s x : Operand} {t : TypeId} {bytes : Nat} {zc : List Value} {us : List Value} {w0 : World} {A : Option Addr} {c : Nat}
    (ho : o.op = .call { callee := .builtin .append, args := #[s, x], argTypes := #[t, t] }) (hi : apI P t = some (e, 1, bytes, zc))
    (hs : evo f s = v) (hx : evo f x = .slice A us.length c) (hu : Rd w A us) (hu0 : 0 < us.length) (h1 : ∀ u ∈ us, u.oneCell' = true)
    (hown : OwnV w w0.heap.size e v xs) (hB : Below w0.heap.size w0 w) (hn : xs.length + us.length ≤ 1000000) (hb : bytes ≤ 64)
    (hk : ∀ v' w', OwnV w' w0.heap.size e v' (xs ++ us) → Below w0.heap.size w0 w' → Now (K' v' w')) : OPW P o f w K' := by
  obtain ⟨A0, c0, rfl, hown⟩ := hown
  obtain ⟨b, off, rfl, hlt, hc⟩ := hu hu0
  obtain ⟨i, z, h2, h3, h4, h5, h6, h7, h8, _⟩ := apI_spec hi
  intro X K Q hK
  refine op_lift X (by rw [ho]; intro c h; cases h) ?_
  have hcells : ∀ j u, us[j]? = some u → w.cell? ((⟨b, off, none⟩ : Addr).add j) = some u := by
    intro j u hu
    rw [add_mk, hc j (List.getElem?_eq_some_iff.1 hu).1, hu]
  obtain ⟨v', w', hrun, g1, g2, g3, g4⟩ := run_append_own_at (P := P) w w0.heap.size t o.type e i z 1 bytes h2 h3 h4 h5 h6 h7 h8 (.slice A0 xs.length c0) xs.length xs hown ⟨b, off, none⟩ us.length c us (by simp) hcells h1
    (by simp only [maxLen]; omega) (Nat.le_trans (Nat.mul_le_mul hn hb) (by omega)) hB.size
  obtain ⟨A', c', rfl⟩ := own_slice g1
  rw [evo_eq f X.ds] at hs hx
  have := hK _ w' (hk _ w' (OwnV.of g1) (hB.grown g2 hB.size fun k hk => (hown.lt k hk).1))
  unfold Oper.wp execOp
  simp only [ho, resolve, invoke, builtin, Sem.run_bind, Sem.run_pure, Result.andThen_ok, List.map_toArray, List.map_cons, List.map_nil, hs, hx, hrun]
  exact this

theorem OwnV.form (h : OwnV w B e v xs) (h0 : 0 < xs.length) : ∃ g c, v = .slice (some ⟨g, 0, none⟩) xs.length c ∧ B ≤ g ∧ g < w.heap.size := by
  obtain ⟨A, c, hv, h1, h2⟩ := h
  rcases h2 with ⟨_, h2⟩ | ⟨g, cap, cur, h3, h4, h5, h6⟩
  · omega
  · exact ⟨g, cap, hv.trans h3, h4, (Array.getElem?_eq_some_iff.1 h5).1⟩
theorem OwnV.at {g n c : Nat} (h : OwnV w B e (.slice (some ⟨g, 0, none⟩) n c) xs) {j : Nat} (hj : j < xs.length) : w.cell? ⟨g, j, none⟩ = xs[j]? ∧ w.frozen? ⟨g, j, none⟩ = false := by
  obtain ⟨A, c', hv, ho⟩ := h
  simp only [Value.slice.injEq] at hv
  obtain ⟨rfl, rfl, rfl⟩ := hv
  exact ⟨ho.cellAt j (by omega), ho.frozenAt j⟩
theorem OwnV.stored {g n c : Nat} (h : OwnV w B e (.slice (some ⟨g, 0, none⟩) n c) xs) (j : Nat) (u : Value) : OwnV (w.setCell ⟨g, j, none⟩ u) B e (.slice (some ⟨g, 0, none⟩) n c) (xs.set j u) := by
  obtain ⟨A, c', hv, ho⟩ := h
  simp only [Value.slice.injEq] at hv
  obtain ⟨rfl, rfl, rfl⟩ := hv
  exact OwnV.of (ho.stored j u).1
/-- A store elsewhere. -/
theorem OwnV.setCell {a : Addr} (h : OwnV w B e v xs) (ha : a.block < B) (u : Value) : OwnV (w.setCell a u) B e v xs := by
  obtain ⟨A, c, hv, ho⟩ := h
  exact ⟨A, c, hv, ownsRow_setCell_below ho ha u⟩
end

/-- Ints that came in. -/
theorem Rd.of_arg {w : World} {A : Option Addr} {n : Nat} {k : IntKind} (h : ArgS w A n 1 [.i k]) : ∃ l : List Int, l.length = n ∧ Rd w A (l.map (Value.int k)) ∧ ∀ x ∈ l, fits k x := by
  by_cases h0 : 0 < n
  · obtain ⟨b, o, rfl, hb, hc⟩ := h h0
    refine ⟨(List.range n).map fun i => rdI w ⟨b, o + i, none⟩, by simp, fun _ => ⟨b, o, rfl, hb, fun j hj => ?_⟩, fun x hx => ?_⟩
    · have hjn : j < n := by simpa using hj
      obtain ⟨h1, _⟩ := hc j hjn 0 _ rfl
      rw [Nat.mul_one, Nat.add_zero] at h1
      rw [h1]
      simp [hjn, rdK]
    · obtain ⟨i, hi, rfl⟩ := List.mem_map.1 hx
      obtain ⟨_, n', h2, h3⟩ := hc i (by simpa using hi) 0 _ rfl
      rw [Nat.mul_one, Nat.add_zero] at h2
      simp only [rdK, Value.int.injEq, true_and] at h2
      rw [h2]; exact h3
  · exact ⟨[], by simp; omega, Rd.nil _ _, fun x hx => by cases hx⟩
/-- Bools that came in. -/
theorem Rd.of_argB {w : World} {A : Option Addr} {n : Nat} (h : ArgS w A n 1 [.b]) : ∃ l : List Bool, l.length = n ∧ Rd w A (l.map Value.bool) := by
  by_cases h0 : 0 < n
  · obtain ⟨b, o, rfl, hb, hc⟩ := h h0
    refine ⟨(List.range n).map fun i => rdB w ⟨b, o + i, none⟩, by simp, fun _ => ⟨b, o, rfl, hb, fun j hj => ?_⟩⟩
    have hjn : j < n := by simpa using hj
    obtain ⟨h1, _⟩ := hc j hjn 0 _ rfl
    rw [Nat.mul_one, Nat.add_zero] at h1
    rw [h1]
    simp [hjn, rdK]
  · exact ⟨[], by simp; omega, Rd.nil _ _⟩
end Go.VC
