/- Arguments that come in: slices of plain values and of flat structs, read off the form's own reading. -/
import Derived.Test.YtelfmhiaafkimaaVC
import Derived.Deep.Slices
import Derived.Deep.Fields
import Derived.ChangeSame
import Derived.ProofKit
import Derived.OpenShut
import Derived.ChangeOld
import Derived.Below
namespace Go.VC
open Go Go.RowKit Go.ChangeShapes Go.WideShapes Go.Deep

section
variable {H : Type} {enc : TypeId × Value → H} {P : Program} {w : World} {base : Nat} {spare : Nat → Bool} {held : Bool}
theorem open_slice_fields {t e : TypeId} {fs : Array Field} {fuel : Nat} {cs : List Value} {x : DataW H × List MemPlace} (ht : P.underlying t = some (.slice e)) (he : P.underlying e = some (.struct fs))
    (hone : oneCellFields P fs = true) (hC : P.cellsOf e = fs.size) (h : DataW.trod enc P w base spare held fuel t cs = some x) :
    (cs = [.slice none 0 0] ∧ x = (.nil, [])) ∨
    ∃ (a : Addr) (len cap m : Nat) (D : Nat → DataW H) (Pl : Nat → List MemPlace), cs = [.slice (some a) len cap] ∧ base ≤ a.block ∧ len ≤ cap ∧ cap ≤ maxLen ∧ m = (if spare a.block then cap else len) ∧
      x = (.slice ((List.range len).map D) ((List.range (m - len)).map fun j => D (len + j)), MemPlace.row a (m * fs.size) ++ (List.range m).flatMap Pl) ∧
      ∀ i, i < m → ∃ (ys : List (DataW H × List MemPlace)) (n : Nat), D i = .agg (ys.map (·.1)) ∧ Pl i = ys.flatMap (·.2) ∧ ys.length = fs.size ∧
        ∀ (j : Nat) (f : Field), fs[j]? = some f → ∃ (v : Value) (y : DataW H × List MemPlace), w.cell? (a.add (i * fs.size + j)) = some v ∧ ys[j]? = some y ∧ DataW.trod enc P w base spare held n f.type [v] = some y := by
  rcases open_slice ht h with h0 | ⟨a, len, cap, m, n, D, Pl, hcs, hb, hl, hm, hmm, hx, hi⟩
  · exact .inl h0
  · refine .inr ⟨a, len, cap, m, D, Pl, hcs, hb, hl, hm, hmm, by rw [hC] at hx; exact hx, fun i him => ?_⟩
    obtain ⟨cs', hc, ht'⟩ := hi i him
    rw [hC] at hc
    obtain ⟨ys, n', hn', hy, hlen, hyl, hf⟩ := DataW.trod_struct he ht'
    obtain ⟨_, hcl, hat⟩ := World.cells?_some hc
    simp only [Prod.mk.injEq] at hy
    refine ⟨ys, n', hy.1, hy.2, hyl, fun j f hj => ?_⟩
    obtain ⟨ho, hk⟩ := hone_of hone j f hj
    have hjl : j < fs.size := (Array.getElem?_eq_some_iff.1 hj).1
    have hcell := hat j hjl
    have hv : cs'[j]? = some (cs'[j]'(by omega)) := List.getElem?_eq_getElem (by omega)
    have h1 := hf j f hj
    rw [ho, hk] at h1
    have hone' : (cs'.drop j).take 1 = [cs'[j]'(by omega)] := by
      rw [List.drop_eq_getElem_cons (by omega)]
      rfl
    rw [hone'] at h1
    have hys : ys[j]? = some (ys[j]'(by omega)) := List.getElem?_eq_getElem (by omega)
    refine ⟨_, _, ?_, hys, h1.trans hys⟩
    rw [← Go.Deep.add_add, hcell, hv]

/-- What a cell of a plain kind holds. -/
def wfK : K → Value → Prop
  | .i k, v => ∃ n, v = .int k n ∧ fits k n
  | .b, v => ∃ b, v = .bool b
  | _, _ => True

def plainK : K → Bool | .i _ | .b => true | _ => false
theorem cell_typed {a : Addr} {k : K} {v : Value} (hc : w.cell? a = some v) (hk : wfK k v) (hp : plainK k = true) : w.cell? a = some (rdK w a k) ∧ wfK k (rdK w a k) := by
  cases k <;> simp [plainK] at hp
  · obtain ⟨n, rfl, hf⟩ := hk
    rw [rdK, rdI_of hc]; exact ⟨hc, n, rfl, hf⟩
  · obtain ⟨n, rfl⟩ := hk
    rw [rdK, rdB_of hc]; exact ⟨hc, n, rfl⟩

theorem fits_of_wf {k : IntKind} {n : Int} (h : (Lit.int k n).wf = true) : fits k n := by
  simpa [Lit.wf, fits] using h

theorem trod_plain {t : TypeId} {k : K} {n : Nat} {v : Value} {y : DataW H × List MemPlace} (hk : kOf P t = k) (hp : plainK k = true) (h : DataW.trod enc P w base spare held n t [v] = some y) : wfK k v := by
  cases k <;> simp [plainK] at hp
  · obtain ⟨m, hv, _, hw⟩ := DataW.trod_int (kOf_i hk) h
    simp only [List.cons.injEq, and_true] at hv
    exact ⟨m, hv, fits_of_wf hw⟩
  · obtain ⟨m, hv, _⟩ := DataW.trod_bool (kOf_b hk) h
    simp only [List.cons.injEq, and_true] at hv
    exact ⟨m, hv⟩

/-- A slice of 'len' elements of 'sz' cells, of the kinds 'ks', that came in. -/
def ArgS (w : World) (A : Option Addr) (len sz : Nat) (ks : List K) : Prop :=
  0 < len → ∃ b o, A = some ⟨b, o, none⟩ ∧ b < w.heap.size ∧ ∀ i, i < len → ∀ j k, ks[j]? = some k →
    w.cell? ⟨b, o + i * sz + j, none⟩ = some (rdK w ⟨b, o + i * sz + j, none⟩ k) ∧ wfK k (rdK w ⟨b, o + i * sz + j, none⟩ k)

def plainKs (ks : List K) : Bool := ks.all plainK

theorem addr_of_cell {a : Addr} {v : Value} (h : w.cell? a = some v) : ∃ b o, a = ⟨b, o, none⟩ ∧ b < w.heap.size := by
  obtain ⟨b, o, s⟩ := a
  have hs : s = none := World.cell?_spot h
  subst hs
  exact ⟨b, o, rfl, World.block_lt_of_cell? w ⟨b, o, none⟩ h⟩

theorem ArgS.of_structs {t e : TypeId} {fs : Array Field} {len cap : Nat} {A : Option Addr} {x : DataW H} {p : List MemPlace} {ks : List K} (ht : P.underlying t = some (.slice e)) (he : P.underlying e = some (.struct fs))
    (hone : oneCellFields P fs = true) (hC : P.cellsOf e = fs.size) (hne : fs.size ≠ 0) (hks : fs.toList.map (fun f => kOf P f.type) = ks) (hpl : plainKs ks = true) (h : DataW.Trod enc P w base spare held t (.slice A len cap) x p) :
    ArgS w A len fs.size ks ∧ len ≤ cap ∧ cap ≤ maxLen := by
  obtain ⟨fuel, hf⟩ := h
  rcases open_slice_fields ht he hone hC hf with ⟨hcs, _⟩ | ⟨a, len', cap', m, D, Pl, hcs, _, hl, hm, hmm, _, hi⟩
  · simp [Value.cells] at hcs
    obtain ⟨rfl, rfl, rfl⟩ := hcs
    exact ⟨fun h => absurd h (by omega), Nat.le_refl _, by simp [maxLen]⟩
  · simp [Value.cells] at hcs
    obtain ⟨rfl, rfl, rfl⟩ := hcs
    refine ⟨fun hpos => ?_, hl, hm⟩
    have hlm : len ≤ m := by rw [hmm]; split <;> omega
    subst hks
    have h0 := hne
    have hf0 : ∃ f, fs[0]? = some f := ⟨fs[0]'(by omega), Array.getElem?_eq_getElem (by omega)⟩
    obtain ⟨f0, hf0⟩ := hf0
    obtain ⟨ys, n, _, _, _, hg⟩ := hi 0 (by omega)
    obtain ⟨v0, y0, hc0, _, _⟩ := hg 0 f0 hf0
    have ha : a.add (0 * fs.size + 0) = a := by simp [Addr.add]
    rw [ha] at hc0
    obtain ⟨b, o, rfl, hb⟩ := addr_of_cell hc0
    refine ⟨b, o, rfl, hb, fun i him j k hk => ?_⟩
    obtain ⟨ys, n, _, _, _, hg⟩ := hi i (by omega)
    rw [List.getElem?_map] at hk
    obtain ⟨f, hfj, hk'⟩ := Option.map_eq_some_iff.1 hk
    obtain ⟨v, y, hc, _, ht'⟩ := hg j f (by simpa using hfj)
    rw [add_mk, ← Nat.add_assoc] at hc
    have hp : plainK k = true := List.all_eq_true.1 hpl k (List.mem_of_getElem? (by rw [List.getElem?_map]; exact hk))
    exact cell_typed hc (trod_plain hk' hp ht') hp

theorem ArgS.of_plain {t e : TypeId} {len cap : Nat} {A : Option Addr} {x : DataW H} {p : List MemPlace} {k : K} (ht : P.underlying t = some (.slice e))
    (hC : P.cellsOf e = 1) (hk : kOf P e = k) (hpl : plainK k = true) (h : DataW.Trod enc P w base spare held t (.slice A len cap) x p) :
    ArgS w A len 1 [k] ∧ len ≤ cap ∧ cap ≤ maxLen := by
  obtain ⟨fuel, hf⟩ := h
  rcases open_slice ht hf with ⟨hcs, _⟩ | ⟨a, len', cap', m, n, D, Pl, hcs, _, hl, hm, hmm, _, hi⟩
  · simp [Value.cells] at hcs
    obtain ⟨rfl, rfl, rfl⟩ := hcs
    exact ⟨fun h => absurd h (by omega), Nat.le_refl _, by simp [maxLen]⟩
  · simp [Value.cells] at hcs
    obtain ⟨rfl, rfl, rfl⟩ := hcs
    refine ⟨fun hpos => ?_, hl, hm⟩
    have hlm : len ≤ m := by rw [hmm]; split <;> omega
    have one : ∀ i, i < m → ∃ v, w.cell? (a.add i) = some v ∧ wfK k v := by
      intro i him
      obtain ⟨cs', hc, ht'⟩ := hi i him
      rw [hC] at hc
      obtain ⟨_, hcl, hat⟩ := World.cells?_some hc
      have h0 := hat 0 (by omega)
      have hl1 : cs'.length = 1 := by omega
      match cs', hl1 with
      | [v], _ =>
        refine ⟨v, ?_, trod_plain hk hpl ht'⟩
        simpa [Go.Deep.add_add, Addr.add] using h0
    obtain ⟨v0, hc0, _⟩ := one 0 (by omega)
    have ha : a.add 0 = a := by simp [Addr.add]
    rw [ha] at hc0
    obtain ⟨b, o, rfl, hb⟩ := addr_of_cell hc0
    refine ⟨b, o, rfl, hb, fun i him j k' hk' => ?_⟩
    match j, hk' with
    | 0, hk' =>
      simp at hk'
      subst hk'
      obtain ⟨v, hc, hw⟩ := one i (by omega)
      rw [add_mk] at hc
      rw [Nat.mul_one, Nat.add_zero]
      exact cell_typed hc hw hpl
end
end Go.VC
