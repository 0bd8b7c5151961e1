/- Arguments of any depth that come in, read off the form's own reading; slices of structs that hold a slice. -/
import Derived.Test.YtdcjacloejhmlaaArg
import Derived.Test.YtdcjacloejhmlaaOwn
namespace Go.VC
open Go Go.RowKit Go.ChangeShapes Go.WideShapes Go.Deep
set_option linter.unusedVariables false
set_option linter.unusedSimpArgs false

/-- What the cells of a value of type t hold, n steps deep. -/
def WfC (P : Program) (w : World) : Nat → TypeId → List Value → Prop
  | 0, _, _ => True
  | n + 1, t, cs => match P.underlying t with
    | some (.int k) => ∃ x, cs = [.int k x] ∧ fits k x
    | some .bool => ∃ b, cs = [.bool b]
    | some (.slice e) => ∃ A len cap, cs = [.slice A len cap] ∧ len ≤ cap ∧ cap ≤ maxLen ∧
        ∀ i, i < len → ∃ a cs', A = some a ∧ cs'.length = P.cellsOf e ∧ (∀ j, j < P.cellsOf e → w.cell? (a.add (i * P.cellsOf e + j)) = cs'[j]?) ∧ WfC P w n e cs'
    | some (.struct fs) => cs.length = P.cellsOf t ∧ ∀ (i : Nat) (f : Field), fs[i]? = some f → WfC P w n f.type ((cs.drop f.offset).take (P.cellsOf f.type))
    | _ => True

section
variable {H : Type} {enc : TypeId × Value → H} {P : Program} {w : World} {base : Nat} {spare : Nat → Bool} {held : Bool}
theorem WfC.of_trod : ∀ (n : Nat) {t : TypeId} {fuel : Nat} {cs : List Value} {x : DataW H × List MemPlace}, DataW.trod enc P w base spare held fuel t cs = some x → WfC P w n t cs
  | 0, _, _, _, _, _ => trivial
  | n + 1, t, fuel, cs, x, h => by
    unfold WfC
    split
    · rename_i k hk
      obtain ⟨m, hv, _, hw⟩ := DataW.trod_int hk h
      exact ⟨m, hv, fits_of_wf hw⟩
    · rename_i hk
      obtain ⟨m, hv, _⟩ := DataW.trod_bool hk h
      exact ⟨m, hv⟩
    · rename_i e he
      rcases open_slice he h with ⟨hcs, _⟩ | ⟨a, len, cap, m, n', D, Pl, hcs, _, hl, hm, hmm, _, hi⟩
      · exact ⟨none, 0, 0, hcs, Nat.le_refl _, by simp [maxLen], fun i hi => absurd hi (by omega)⟩
      · refine ⟨some a, len, cap, hcs, hl, hm, fun i hil => ?_⟩
        have hlm : len ≤ m := by rw [hmm]; split <;> omega
        obtain ⟨cs', hc, ht'⟩ := hi i (by omega)
        obtain ⟨_, hcl, hat⟩ := World.cells?_some hc
        refine ⟨a, cs', rfl, hcl, fun j hj => ?_, WfC.of_trod n ht'⟩
        rw [← Go.Deep.add_add]
        exact hat j hj
    · rename_i fs hs
      obtain ⟨xs, n', hn', hx, hlen, hxl, hf⟩ := DataW.trod_struct hs h
      refine ⟨hlen, fun i f hif => ?_⟩
      have h1 := hf i f hif
      have hil : i < fs.size := (Array.getElem?_eq_some_iff.1 hif).1
      have hys : xs[i]? = some (xs[i]'(by omega)) := List.getElem?_eq_getElem (by omega)
      exact WfC.of_trod n (h1.trans hys)
    · trivial
end

section
variable {P : Program} {w : World}
/-- A slice of numbers. -/
theorem WfC.nums {t e : TypeId} {k : IntKind} {n : Nat} {cs : List Value} (ht : P.underlying t = some (.slice e)) (he : P.underlying e = some (.int k)) (hC : P.cellsOf e = 1) (h : WfC P w (n + 2) t cs) :
    ∃ A c, ∃ l : List Int, cs = [.slice A l.length c] ∧ l.length ≤ c ∧ c ≤ maxLen ∧ Rd w A (l.map (Value.int k)) ∧ ∀ x ∈ l, fits k x := by
  unfold WfC at h
  rw [ht] at h
  obtain ⟨A, len, cap, hcs, hl, hm, hi⟩ := h
  have one : ∀ i, i < len → ∃ a x, A = some a ∧ w.cell? (a.add i) = some (.int k x) ∧ fits k x := by
    intro i hil
    obtain ⟨a, cs', hA, hcl, hat, hw⟩ := hi i hil
    unfold WfC at hw
    rw [he] at hw
    obtain ⟨x, hx, hf⟩ := hw
    rw [hC] at hat
    have := hat 0 (by omega)
    rw [hx, Nat.mul_one, Nat.add_zero] at this
    exact ⟨a, x, hA, this, hf⟩
  by_cases h0 : 0 < len
  · obtain ⟨a, x0, rfl, hc0, _⟩ := one 0 h0
    have ha : a.add 0 = a := by simp [Addr.add]
    rw [ha] at hc0
    obtain ⟨b, o, rfl, hb⟩ := addr_of_cell hc0
    refine ⟨_, cap, (List.range len).map fun i => rdI w ⟨b, o + i, none⟩, by simpa using hcs, by simpa using hl, hm, fun _ => ⟨b, o, rfl, hb, fun j hj => ?_⟩, fun x hx => ?_⟩
    · have hjl : j < len := by simpa using hj
      obtain ⟨a', x, e, hc, _⟩ := one j hjl
      cases e
      rw [add_mk] at hc
      rw [hc]
      simp [hjl, rdI_of hc]
    · obtain ⟨i, hi', rfl⟩ := List.mem_map.1 hx
      obtain ⟨a', x, e, hc, hf⟩ := one i (by simpa using hi')
      cases e
      rw [add_mk] at hc
      rw [rdI_of hc]; exact hf
  · obtain rfl : len = 0 := by omega
    exact ⟨A, cap, [], hcs, by simp, hm, Rd.nil _ _, fun x hx => by cases hx⟩
end

/-- Needs that came in: who, all, for whom. -/
def RdN (w : World) (A : Option Addr) (n : Nat) (who : Nat → Int) (all : Nat → Bool) (F : Nat → Option Addr) (C : Nat → Nat) (L : Nat → List Int) : Prop :=
  (0 < n → ∃ b o, A = some ⟨b, o, none⟩ ∧ b < w.heap.size ∧ ∀ i, i < n → w.cell? ⟨b, o + i * 3, none⟩ = some (.int .i64 (who i)) ∧ w.cell? ⟨b, o + i * 3 + 1, none⟩ = some (.bool (all i)) ∧ w.cell? ⟨b, o + i * 3 + 2, none⟩ = some (.slice (F i) (L i).length (C i)) ∧ fits .i64 (who i)) ∧
    ∀ i, i < n → Rd w (F i) ((L i).map (Value.int .i64)) ∧ ∀ x ∈ L i, fits .i64 x
theorem RdN.below {w w' : World} {A : Option Addr} {n : Nat} {who : Nat → Int} {all : Nat → Bool} {F : Nat → Option Addr} {C : Nat → Nat} {L : Nat → List Int} (h : RdN w A n who all F C L) (hb : Below w.heap.size w w') : RdN w' A n who all F C L := by
  refine ⟨fun h0 => ?_, fun i hi => ⟨(h.2 i hi).1.below hb, (h.2 i hi).2⟩⟩
  obtain ⟨b, o, rfl, hlt, hc⟩ := h.1 h0
  refine ⟨b, o, rfl, Nat.lt_of_lt_of_le hlt hb.size, fun i hi => ?_⟩
  obtain ⟨h1, h2, h3, h4⟩ := hc i hi
  exact ⟨(hb.cell (p := ⟨b, _, none⟩) hlt).trans h1, (hb.cell (p := ⟨b, _, none⟩) hlt).trans h2, (hb.cell (p := ⟨b, _, none⟩) hlt).trans h3, h4⟩

theorem RdN.of {P : Program} {w : World} {t e i3 b4 s39 : TypeId} {fs : Array Field} {A : Option Addr} {len cap : Nat} (ht : P.underlying t = some (.slice e)) (he : P.underlying e = some (.struct fs)) (hC : P.cellsOf e = 3)
    (hf : fs.toList.map (fun f => (f.type, f.offset)) = [(i3, 0), (b4, 1), (s39, 2)]) (h3 : P.underlying i3 = some (.int .i64)) (c3 : P.cellsOf i3 = 1) (h4 : P.underlying b4 = some .bool) (c4 : P.cellsOf b4 = 1) (h39 : P.underlying s39 = some (.slice i3)) (c39 : P.cellsOf s39 = 1)
    (h : WfC P w 5 t [.slice A len cap]) : ∃ who all F C L, RdN w A len who all F C L ∧ len ≤ cap ∧ cap ≤ maxLen := by
  unfold WfC at h
  rw [ht] at h
  obtain ⟨A', len', cap', hcs, hl, hm, hi⟩ := h
  simp only [List.cons.injEq, Value.slice.injEq, and_true] at hcs
  obtain ⟨rfl, rfl, rfl⟩ := hcs
  have one : ∀ i, i < len → ∃ a x y, ∃ B c, ∃ l : List Int, A = some a ∧ w.cell? (a.add (i * 3)) = some (.int .i64 x) ∧ w.cell? (a.add (i * 3 + 1)) = some (.bool y) ∧ w.cell? (a.add (i * 3 + 2)) = some (.slice B l.length c) ∧ fits .i64 x ∧ Rd w B (l.map (Value.int .i64)) ∧ ∀ x ∈ l, fits .i64 x := by
    intro i hil
    obtain ⟨a, cs', hA, hcl, hat, hw⟩ := hi i hil
    rw [hC] at hcl hat
    unfold WfC at hw
    rw [he] at hw
    obtain ⟨_, hfl⟩ := hw
    have hfs : fs.toList.length = 3 := by have := congrArg List.length hf; simpa using this
    match hq : fs.toList, hfs with
    | [f0, f1, f2], _ =>
      rw [hq] at hf
      simp only [List.map_cons, List.map_nil, List.cons.injEq, Prod.mk.injEq, and_true] at hf
      obtain ⟨⟨t0, o0⟩, ⟨t1, o1⟩, t2, o2⟩ := hf
      match cs', hcl with
      | [v0, v1, v2], _ =>
        have g : ∀ (k : Nat) (f : Field), fs.toList[k]? = some f → WfC P w 3 f.type (([v0, v1, v2].drop f.offset).take (P.cellsOf f.type)) := fun k f hk => hfl k f (by rw [← hk]; simp)
        have g0 := g 0 f0 (by rw [hq]; rfl)
        have g1 := g 1 f1 (by rw [hq]; rfl)
        have g2 := g 2 f2 (by rw [hq]; rfl)
        rw [t0, o0, c3] at g0
        rw [t1, o1, c4] at g1
        rw [t2, o2, c39] at g2
        unfold WfC at g0 g1
        rw [h3] at g0
        rw [h4] at g1
        obtain ⟨x, hx, fx⟩ := g0
        obtain ⟨y, hy⟩ := g1
        obtain ⟨B, c, l, hB, _, _, hr, hfl2⟩ := WfC.nums (n := 1) h39 h3 c3 g2
        simp at hx hy hB
        have k0 := hat 0 (by omega)
        have k1 := hat 1 (by omega)
        have k2 := hat 2 (by omega)
        subst hx; subst hy; subst hB
        exact ⟨a, x, y, B, c, l, hA, k0, k1, k2, fx, hr, hfl2⟩
  by_cases h0 : 0 < len
  · obtain ⟨a, _, _, _, _, _, rfl, hc0, _⟩ := one 0 h0
    rw [Nat.zero_mul] at hc0
    have ha : a.add 0 = a := by simp [Addr.add]
    rw [ha] at hc0
    obtain ⟨b, o, rfl, hb⟩ := addr_of_cell hc0
    classical
    have one' : ∀ i, ∃ q : Int × Bool × Option Addr × Nat × List Int, i < len → w.cell? ⟨b, o + i * 3, none⟩ = some (.int .i64 q.1) ∧ w.cell? ⟨b, o + i * 3 + 1, none⟩ = some (.bool q.2.1) ∧ w.cell? ⟨b, o + i * 3 + 2, none⟩ = some (.slice q.2.2.1 q.2.2.2.2.length q.2.2.2.1) ∧ fits .i64 q.1 ∧ Rd w q.2.2.1 (q.2.2.2.2.map (Value.int .i64)) ∧ ∀ x ∈ q.2.2.2.2, fits .i64 x := by
      intro i
      by_cases hil : i < len
      · obtain ⟨a, x, y, B, c, l, e, k0, k1, k2, fx, hr, hfl⟩ := one i hil
        cases e
        rw [add_mk] at k0 k1 k2
        exact ⟨(x, y, B, c, l), fun _ => ⟨k0, by rw [← k1, Nat.add_assoc], by rw [← k2, Nat.add_assoc], fx, hr, hfl⟩⟩
      · exact ⟨(0, false, none, 0, []), fun h => absurd h hil⟩
    obtain ⟨q, hq⟩ := Classical.axiomOfChoice one'
    refine ⟨fun i => (q i).1, fun i => (q i).2.1, fun i => (q i).2.2.1, fun i => (q i).2.2.2.1, fun i => (q i).2.2.2.2, ⟨fun _ => ⟨b, o, rfl, hb, fun i hil => ?_⟩, fun i hil => ?_⟩, hl, hm⟩
    · obtain ⟨k0, k1, k2, fx, _⟩ := hq i hil
      exact ⟨k0, k1, k2, fx⟩
    · exact (hq i hil).2.2.2.2
  · exact ⟨fun _ => 0, fun _ => false, fun _ => none, fun _ => 0, fun _ => [], ⟨fun h => absurd h h0, fun i hi => absurd hi (by omega)⟩, hl, hm⟩
end Go.VC
