/- Many copies as one: a script that came in; what is told. -/
import Derived.Test.YtnggjekppdlaoaaRegD2
namespace Go.Proofs.Ytnggjekppdlaoaa
open Go Go.RowKit Go.VC
set_option linter.unusedSimpArgs false
set_option linter.unusedVariables false

/-- A slice of n steps. -/
def RdCall (w : World) (A : Option Addr) (n : Nat) (f : Nat → Call) : Prop :=
  0 < n → ∃ b o, A = some ⟨b, o, none⟩ ∧ b < w.heap.size ∧ ∀ i, i < n → w.cell? ⟨b, o + i * 6, none⟩ = some (.int .i64 (f i).kind) ∧ w.cell? ⟨b, o + i * 6 + 1, none⟩ = some (.int .i64 (f i).who) ∧
    w.cell? ⟨b, o + i * 6 + 2, none⟩ = some (.int .i64 (f i).at_) ∧ w.cell? ⟨b, o + i * 6 + 3, none⟩ = some (.int .i64 (f i).of_) ∧ w.cell? ⟨b, o + i * 6 + 4, none⟩ = some (.bool (f i).wr) ∧ w.cell? ⟨b, o + i * 6 + 5, none⟩ = some (.int .i64 (f i).val)
theorem RdCall.of_arg {w : World} {A : Option Addr} {n : Nat} (h : ArgS w A n 6 [.i .i64, .i .i64, .i .i64, .i .i64, .b, .i .i64]) : ∃ f, RdCall w A n f := by
  by_cases h0 : 0 < n
  · obtain ⟨b, o, rfl, hb, hc⟩ := h h0
    refine ⟨fun i => ⟨rdI w ⟨b, o + i * 6, none⟩, rdI w ⟨b, o + i * 6 + 1, none⟩, rdI w ⟨b, o + i * 6 + 2, none⟩, rdI w ⟨b, o + i * 6 + 3, none⟩, rdB w ⟨b, o + i * 6 + 4, none⟩, rdI w ⟨b, o + i * 6 + 5, none⟩⟩, fun _ => ⟨b, o, rfl, hb, fun i hi => ?_⟩⟩
    exact ⟨(hc i hi 0 _ rfl).1, (hc i hi 1 _ rfl).1, (hc i hi 2 _ rfl).1, (hc i hi 3 _ rfl).1, (hc i hi 4 _ rfl).1, (hc i hi 5 _ rfl).1⟩
  · exact ⟨fun _ => ⟨0, 0, 0, 0, false, 0⟩, fun h => absurd h h0⟩
theorem RdCall.below {w w' : World} {A : Option Addr} {n : Nat} {f : Nat → Call} (h : RdCall w A n f) (hb : Below w.heap.size w w') : RdCall w' A n f := by
  intro h0
  obtain ⟨b, o, rfl, hlt, hc⟩ := h h0
  refine ⟨b, o, rfl, Nat.lt_of_lt_of_le hlt hb.size, fun i hi => ?_⟩
  obtain ⟨h0, h1, h2, h3, h4, h5⟩ := hc i hi
  exact ⟨(hb.cell (p := ⟨b, _, none⟩) hlt).trans h0, (hb.cell (p := ⟨b, _, none⟩) hlt).trans h1, (hb.cell (p := ⟨b, _, none⟩) hlt).trans h2, (hb.cell (p := ⟨b, _, none⟩) hlt).trans h3, (hb.cell (p := ⟨b, _, none⟩) hlt).trans h4, (hb.cell (p := ⟨b, _, none⟩) hlt).trans h5⟩
/-- A slice of k ops. -/
def RdOps (w : World) (A : Option Addr) (k : Nat) (op : Nat → OpS) : Prop :=
  0 < k → ∃ b o, A = some ⟨b, o, none⟩ ∧ b < w.heap.size ∧ ∀ i, i < k → ∀ j v, (apC (op i))[j]? = some v → w.cell? ⟨b, o + i * 6 + j, none⟩ = some v
theorem RdOps.below {w w' : World} {A : Option Addr} {k : Nat} {op : Nat → OpS} (h : RdOps w A k op) (hb : Below w.heap.size w w') : RdOps w' A k op := by
  intro h0
  obtain ⟨b, o, rfl, hlt, hc⟩ := h h0
  exact ⟨b, o, rfl, Nat.lt_of_lt_of_le hlt hb.size, fun i hi j v hv => (hb.cell (p := ⟨b, _, none⟩) hlt).trans (hc i hi j v hv)⟩
theorem RdOps.own {w : World} {B : Nat} {e : TypeId} {A : Option Addr} {c k : Nat} {s : RS} (h : OwnK w B e 6 k (.slice A k c) (seqC (opsP s) k)) : RdOps w A k s.op := by
  intro h0
  obtain ⟨g, c', e, _, hlt⟩ := h.form h0
  cases e
  refine ⟨g, 0, rfl, hlt, fun i hi j v hv => ?_⟩
  rw [Nat.zero_add]
  have hj : j < 6 := by
    have := (List.getElem?_eq_some_iff.1 hv).1
    exact this
  exact (OwnK.cellS h (fun _ _ => rfl) hi hj hv).1
abbrev nilS : Value := .slice none 0 0
noncomputable abbrev rcodes (n : Nat) (f : Nat → Call) (k : Nat) : List Value := (List.range k).map fun i => Value.int .i64 (rcode n f i)
/-- What a script comes to. -/
def RegV (n : Nat) (f : Nat → Call) (k : Nat) (v : Value) (w : World) : Prop :=
  ∃ A0 c0 A1 c1, v = .agg #[.slice A0 k c0, .slice A1 (rst n f k).k c1] ∧ Rd w A0 (rcodes n f k) ∧ RdOps w A1 (rst n f k).k (rst n f k).op
end Go.Proofs.Ytnggjekppdlaoaa
