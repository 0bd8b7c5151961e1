/- Several slices that a call makes itself, of elements of any size, each in a block of its own. Over any program. -/
import Derived.Test.YtelfmhiaafkimaaOwn
namespace Go.VC
open Go Go.RowKit
set_option linter.unusedVariables false
set_option linter.unusedSimpArgs false

/-- Two slices that lie in different blocks. -/
def Sep (u v : Value) : Prop := ∀ g, u.ownBlock = some g → v.ownBlock ≠ some g
theorem Sep.symm {u v : Value} (h : Sep u v) : Sep v u := fun g h1 h2 => h g h2 h1
theorem Sep.nil (v : Value) (n c : Nat) : Sep v (.slice none n c) := fun g _ h => by simp [Value.ownBlock] at h

/-- Where the slice v' that came of v lies. -/
def Stays (w : World) (v v' : Value) : Prop := v'.ownBlock = v.ownBlock ∨ ∃ g, v'.ownBlock = some g ∧ w.heap.size ≤ g

/-- n elements of 'size' cells each. -/
def OwnK (w : World) (B : Nat) (e : TypeId) (size n : Nat) (v : Value) (xs : List Value) : Prop := ∃ A c, v = .slice A n c ∧ w.ownsRow B e size v n xs

theorem cell_new {w : World} {c : Array Value} {t : TypeId} {b i : Nat} (h : b = w.heap.size) : (w.alloc (.cells c t)).cell? ⟨b, i, none⟩ = c[i]? := by rw [h]; exact World.cell?_alloc_new w c t i
theorem frozen_new {w : World} {c : Array Value} {t : TypeId} {b i : Nat} (h : b = w.heap.size) : (w.alloc (.cells c t)).frozen? ⟨b, i, none⟩ = false := by rw [h]; exact World.frozen?_alloc_new ..

/-! The formula, step by step: where one run over all of it is too much for the kernel. -/
section
variable {X : Ctx} {P : Program} {n : Nat} {Q : Exit → Array Value → World → Prop} {f : Array Value} {w : World}
theorem vc_seq {a b : Code} : vc X P n (.seq a b) Q f w = vc X P n a (thenF (vc X P n b Q) Q) f w := rfl
theorem vc_skip : vc X P n .skip Q f w = Q .normal f w := rfl
theorem vc_ret : vc X P n .ret Q f w = Q .ret f w := rfl
theorem vc_exit {i : Nat} : vc X P n (.exit i) Q f w = Q (.exit i) f w := rfl
theorem vc_block {i : Nat} {b : Code} : vc X P n (.block i b) Q f w = vc X P n b (blkF i Q) f w := rfl
theorem vc_cond {c : Operand} {t e : Code} : vc X P n (.cond c t e) Q f w = match evo f c with
    | .bool b => @ite Prop (b = true) _ (vc X P n t Q f w) (vc X P n e Q f w)
    | _ => False := rfl
theorem vc_region {id : Nat} {ops : Array Oper} {draw : Bool} : vc X P n (.region id ops draw) Q f w = if ops.toList.all fun o => pureB o.op then
      reg (ops.toList.all fun o => nomulB o.op) P w (ops.toList.map (·.dst)) (regQ draw w (Q .normal)) ops.toList [] f
    else if draw then WP X P n (.region id ops draw) Q f w
    else seq P (ops.toList.map (·.dst)) (Q .normal) ops.toList f w := rfl
end
/-- What follows, behind a name. -/
theorem vc_plain {X : Ctx} {P : Program} {n : Nat} {c : Code} {f : Array Value} {w : World} (Q : Exit → Array Value → World → Prop) (h : ∀ Q' : Exit → Array Value → World → Prop, Q' = Q → vc X P n c Q' f w) : vc X P n c Q f w := h Q rfl

/-- A call met by any contract. -/
theorem CALL_by {P : Program} {g : FuncId} {args : Array Value} {w : World} {K' : Value → World → Prop} {R : Ending → World → Prop} (h : Calls P g args w R) (hk : ∀ e w', R e w' → ∃ v, e = .returned v ∧ Now (K' v w')) : CALL P g args w K' :=
  h.mono hk

section
variable {w w' : World} {B : Nat} {e : TypeId} {size n : Nat} {v : Value} {xs : List Value}
theorem OwnK.lt (h : OwnK w B e size n v xs) {g : Nat} (hg : v.ownBlock = some g) : B ≤ g ∧ g < w.heap.size := by
  obtain ⟨A, c, rfl, h1, h2⟩ := h
  rcases h2 with ⟨h3, _⟩ | ⟨g', cap, cur, h3, h4, h5, _⟩
  · rw [h3] at hg; simp [Value.ownBlock] at hg
  · rw [h3] at hg; simp [Value.ownBlock] at hg
    subst hg; exact ⟨h4, (Array.getElem?_eq_some_iff.1 h5).1⟩
theorem OwnK.nil (w : World) (B : Nat) (e : TypeId) (size : Nat) : OwnK w B e size 0 (.slice none 0 0) [] := ⟨none, 0, rfl, World.ownsRow_nil w B e size⟩
theorem OwnK.mono {B' : Nat} (h : OwnK w B e size n v xs) (hb : B' ≤ B) : OwnK w B' e size n v xs := by
  obtain ⟨A, c, hv, h1, h2⟩ := h
  refine ⟨A, c, hv, h1, h2.imp id ?_⟩
  rintro ⟨g, cap, cur, h3, h4, h5⟩
  exact ⟨g, cap, cur, h3, Nat.le_trans hb h4, h5⟩
theorem OwnK.keep (h : OwnK w B e size n v xs) (hb : ∀ g, v.ownBlock = some g → w'.heap[g]? = w.heap[g]?) : OwnK w' B e size n v xs := by
  obtain ⟨A, c, hv, h1, h2⟩ := h
  refine ⟨A, c, hv, h1, h2.imp id ?_⟩
  rintro ⟨g, cap, cur, h3, h4, h5, h6⟩
  exact ⟨g, cap, cur, h3, h4, by rw [hb g (by rw [h3]; rfl)]; exact h5, h6⟩
theorem OwnK.below (h : OwnK w B e size n v xs) (hB : Below w.heap.size w w') : OwnK w' B e size n v xs := h.keep fun g hg => hB.block g (h.lt hg).2
theorem OwnK.drewN (h : OwnK w B e size n v xs) (k : Nat) : OwnK (w.drewN k) B e size n v xs := h
theorem OwnK.alloc (h : OwnK w B e size n v xs) (o : Obj) : OwnK (w.alloc o) B e size n v xs := h.below ((Below.refl _ _).alloc (Nat.le_refl _) o)
theorem OwnK.grown {row : Option Nat} (h : OwnK w B e size n v xs) (hg : w.grownBy w' row) (hne : ∀ g, v.ownBlock = some g → row ≠ some g) : OwnK w' B e size n v xs :=
  h.keep fun g hv => hg.block g (h.lt hv).2 fun e => hne g hv e.symm
theorem OwnK.setCell {a : Addr} (h : OwnK w B e size n v xs) (ha : v.ownBlock ≠ some a.block) (u : Value) : OwnK (w.setCell a u) B e size n v xs :=
  h.keep fun g hv => Below.heap_setCell w a u g fun e => ha (by rw [hv, e])
theorem OwnK.of_own (h : OwnV w B e v xs) : OwnK w B e 1 xs.length v xs := by obtain ⟨A, c, rfl, h⟩ := h; exact ⟨A, c, rfl, h⟩
theorem OwnK.own (h : OwnK w B e 1 n v xs) : OwnV w B e v xs := by
  obtain ⟨A, c, rfl, h⟩ := h
  exact OwnV.of h
theorem OwnK.length (h : OwnK w B e size n v xs) : xs.length = n * size := by obtain ⟨A, c, rfl, h⟩ := h; exact h.1
theorem OwnK.sep_new {u : Value} (h : OwnK w B e size n v xs) {g : Nat} (hu : u.ownBlock = some g) (hg : w.heap.size ≤ g) : Sep v u := fun k h1 h2 => by
  have := (h.lt h1).2
  rw [hu] at h2; cases h2; omega
/-- A slice that stays apart while another one grows. -/
theorem OwnK.sep_stays {u u' : Value} (h : OwnK w B e size n v xs) (hs : Sep v u) (hu : Stays w u u') : Sep v u' := by
  rcases hu with hu | ⟨g, hu, hg⟩
  · intro k h1 h2; rw [hu] at h2; exact hs k h1 h2
  · exact h.sep_new hu hg
theorem Stays.alloc {u u' : Value} {o : Obj} (h : Stays (w.alloc o) u u') : Stays w u u' := h.imp id fun ⟨g, h1, h2⟩ => ⟨g, h1, by simp at h2; omega⟩

/-- 'append(s, x)', s the call's own, x one element, just laid in a block of its own. -/
theorem OPW_appK {P : Program} {o : Oper} {f : Array Value} {K' : Value → World → Prop} {s x : Operand} {t : TypeId} {bytes : Nat} {zc : List Value} {us : List Value} {e0 : TypeId}
    (ho : o.op = .call { callee := .builtin .append, args := #[s, x], argTypes := #[t, t] }) (hi : apI P t = some (e, size, bytes, zc))
    (hs : evo f s = v) (hx : evo f x = .slice (some ⟨w.heap.size, 0, none⟩) 1 1) (hl : us.length = size) (h1 : ∀ u ∈ us, u.oneCell' = true)
    (hown : OwnK w B e size n v xs) (hbase : B ≤ w.heap.size) (hn : n ≤ 100000) (hb : bytes ≤ 1024)
    (hk : ∀ v' w', OwnK w' B e size (n + 1) v' (xs ++ us) → w.grownBy w' v.ownBlock → Stays w v v' → Now (K' v' w')) : OPW P o f (w.alloc (.cells us.toArray e0)) K' := by
  obtain ⟨A, c, rfl, hown⟩ := hown
  refine OPW_append1 ho hi hs hx hl h1 hown ?_ (by omega) hbase ?_
  · exact Nat.le_trans (Nat.mul_le_mul (show n + 1 ≤ 100001 by omega) hb) (by omega)
  · intro A' c' w' ho' hg hloc
    exact hk _ _ ⟨A', c', rfl, ho'⟩ hg hloc

/-- The same; where the box lies is told apart. -/
theorem OPW_appN {P : Program} {o : Oper} {f : Array Value} {K' : Value → World → Prop} {s x : Operand} {t : TypeId} {bytes G : Nat} {zc : List Value} {us : List Value} {e0 : TypeId}
    (hG : G = w.heap.size) (ho : o.op = .call { callee := .builtin .append, args := #[s, x], argTypes := #[t, t] }) (hi : apI P t = some (e, size, bytes, zc))
    (hs : evo f s = v) (hx : evo f x = .slice (some ⟨G, 0, none⟩) 1 1) (hl : us.length = size) (h1 : ∀ u ∈ us, u.oneCell' = true)
    (hown : OwnK w B e size n v xs) (hbase : B ≤ w.heap.size) (hn : n ≤ 100000) (hb : bytes ≤ 1024)
    (hk : ∀ v' w', OwnK w' B e size (n + 1) v' (xs ++ us) → w.grownBy w' v.ownBlock → Stays w v v' → Now (K' v' w')) : OPW P o f (w.alloc (.cells us.toArray e0)) K' := by
  subst hG
  exact OPW_appK ho hi hs hx hl h1 hown hbase hn hb hk

theorem OwnK.form (h : OwnK w B e size n v xs) (h0 : 0 < n) : ∃ g c, v = .slice (some ⟨g, 0, none⟩) n c ∧ B ≤ g ∧ g < w.heap.size := by
  obtain ⟨A, c, rfl, h1, h2⟩ := h
  rcases h2 with ⟨_, h2⟩ | ⟨g, cap, cur, h3, h4, h5, h6⟩
  · omega
  · exact ⟨g, cap, h3, h4, (Array.getElem?_eq_some_iff.1 h5).1⟩
theorem OwnK.at {g m c : Nat} (h : OwnK w B e size n (.slice (some ⟨g, 0, none⟩) m c) xs) {j : Nat} (hj : j < n * size) : w.cell? ⟨g, j, none⟩ = xs[j]? ∧ w.frozen? ⟨g, j, none⟩ = false := by
  obtain ⟨A, c', hv, ho⟩ := h
  simp only [Value.slice.injEq] at hv
  obtain ⟨rfl, rfl, rfl⟩ := hv
  exact ⟨ho.cellAt j hj, ho.frozenAt j⟩
theorem OwnK.stored {g m c : Nat} (h : OwnK w B e size n (.slice (some ⟨g, 0, none⟩) m c) xs) (j : Nat) (u : Value) : OwnK (w.setCell ⟨g, j, none⟩ u) B e size n (.slice (some ⟨g, 0, none⟩) m c) (xs.set j u) := by
  obtain ⟨A, c', hv, ho⟩ := h
  simp only [Value.slice.injEq] at hv
  obtain ⟨rfl, rfl, rfl⟩ := hv
  exact ⟨_, _, rfl, (ho.stored j u).1⟩
theorem OwnK.rd {A : Option Addr} {m c : Nat} (h : OwnK w B e 1 n (.slice A m c) xs) : m = n ∧ Rd w A xs := by
  obtain ⟨A', c', hv, ho⟩ := h
  simp only [Value.slice.injEq] at hv
  obtain ⟨rfl, rfl, rfl⟩ := hv
  exact ⟨rfl, Rd.of_own ho⟩

theorem grownBy.below {row : Option Nat} (hg : w.grownBy w' row) {B0 : Nat} {w0 : World} (h : Below B0 w0 w) (hs : B0 ≤ w.heap.size) (hr : ∀ g, row = some g → B0 ≤ g) : Below B0 w0 w' := h.grown hg hs hr
theorem OwnK.row (h : OwnK w B e size n v xs) : ∀ g, v.ownBlock = some g → B ≤ g := fun g hg => (h.lt hg).1
end
end Go.VC
