/- Records side by side, read by place; a script that came in. Over any program. -/
import Derived.Test.YtelfmhiaafkimaaHp2
import Derived.Test.YtelfmhiaafkimaaArg
namespace Go.VC
open Go Go.RowKit
set_option linter.unusedVariables false
set_option linter.unusedSimpArgs false

/-- n records of K cells from A on. -/
def RdT (w : World) (A : Option Addr) (n K : Nat) (cs : Nat → List Value) : Prop :=
  0 < n → ∃ b o, A = some ⟨b, o, none⟩ ∧ b < w.heap.size ∧ ∀ i, i < n → ∀ (j : Nat) (v : Value), (cs i)[j]? = some v → w.cell? ⟨b, o + i * K + j, none⟩ = some v
section
variable {w w' : World} {A : Option Addr} {n K : Nat} {cs : Nat → List Value}
theorem RdT.nil (w : World) (A : Option Addr) (K : Nat) (cs : Nat → List Value) : RdT w A 0 K cs := fun h => absurd h (Nat.lt_irrefl 0)
theorem RdT.below (h : RdT w A n K cs) (hb : Below w.heap.size w w') : RdT w' A n K cs := by
  intro h0
  obtain ⟨b, o, rfl, hlt, hc⟩ := h h0
  exact ⟨b, o, rfl, Nat.lt_of_lt_of_le hlt hb.size, fun i hi j v hv => (hb.cell (p := ⟨b, _, none⟩) hlt).trans (hc i hi j v hv)⟩
theorem RdT.congr {cs' : Nat → List Value} (h : RdT w A n K cs) (he : ∀ i, i < n → cs' i = cs i) : RdT w A n K cs' := by
  intro h0
  obtain ⟨b, o, rfl, hlt, hc⟩ := h h0
  exact ⟨b, o, rfl, hlt, fun i hi j v hv => hc i hi j v (by rw [← he i hi]; exact hv)⟩
theorem RdT.recs {g : Nat} (h : Recs w g n K cs) (hK : ∀ i, i < n → (cs i).length = K) : RdT w (some ⟨g, 0, none⟩) n K cs := by
  intro h0
  refine ⟨g, 0, rfl, h.1, fun i hi j v hv => ?_⟩
  have hj : j < K := by
    have := (List.getElem?_eq_some_iff.1 hv).1
    rw [hK i hi] at this; exact this
  rw [Nat.zero_add]
  exact h.at hi hj hv
theorem flat_at {α : Type} {f : α → List Value} {K : Nat} (hK : ∀ x, (f x).length = K) : ∀ {l : List α} {i j : Nat} (hi : i < l.length) (hj : j < K), (l.flatMap f)[i * K + j]? = (f l[i])[j]?
  | [], i, j, hi, _ => absurd hi (Nat.not_lt_zero i)
  | x :: l, 0, j, hi, hj => by
    rw [List.flatMap_cons, List.getElem?_append_left (by rw [hK]; omega)]; simp
  | x :: l, i + 1, j, hi, hj => by
    rw [List.flatMap_cons, List.getElem?_append_right (by rw [hK, Nat.succ_mul]; omega), hK, show (i + 1) * K + j - K = i * K + j by rw [Nat.succ_mul]; omega, flat_at hK (by simpa using hi) hj]
    rfl
theorem flat_length {α : Type} {f : α → List Value} {K : Nat} (hK : ∀ x, (f x).length = K) : ∀ (l : List α), (l.flatMap f).length = l.length * K
  | [] => by simp
  | x :: l => by rw [List.flatMap_cons, List.length_append, hK, flat_length hK l, List.length_cons, Nat.succ_mul, Nat.add_comm]
theorem OwnK.cellL {α : Type} {f : α → List Value} {B g c : Nat} {e : TypeId} {l : List α} (h : OwnK w B e K l.length (.slice (some ⟨g, 0, none⟩) l.length c) (l.flatMap f)) (hK : ∀ x, (f x).length = K) {i j : Nat} (hi : i < l.length) (hj : j < K) :
    w.cell? ⟨g, i * K + j, none⟩ = (f l[i])[j]? ∧ w.frozen? ⟨g, i * K + j, none⟩ = false := by
  have hl : i * K + j < l.length * K := by
    have h1 : (i + 1) * K ≤ l.length * K := Nat.mul_le_mul_right K (by omega)
    rw [Nat.succ_mul] at h1; omega
  have h2 := h.at (j := i * K + j) hl
  rw [flat_at hK hi hj] at h2
  exact h2
theorem RdT.ownL {α : Type} {f : α → List Value} {B c : Nat} {e : TypeId} {l : List α} (h : OwnK w B e K l.length (.slice A l.length c) (l.flatMap f)) (hK : ∀ x, (f x).length = K) (d : α) : RdT w A l.length K (fun i => f (l.getD i d)) := by
  intro h0
  obtain ⟨g, c', e, _, hlt⟩ := h.form h0
  cases e
  refine ⟨g, 0, rfl, hlt, fun i hi j v hv => ?_⟩
  have e1 : l.getD i d = l[i] := by rw [List.getD_eq_getElem?_getD, List.getElem?_eq_getElem hi]; rfl
  replace hv : (f (l.getD i d))[j]? = some v := hv
  rw [e1] at hv
  have hj : j < K := by
    have := (List.getElem?_eq_some_iff.1 hv).1
    rw [hK] at this; exact this
  rw [Nat.zero_add, (h.cellL hK hi hj).1, hv]
/-- Records of whole numbers that came in. -/
theorem RdT.of_ints {ks : List VC.K} (h : ArgS w A n K ks) (hk : ∀ j, j < K → ks[j]? = some (.i .i64)) : ∃ g : Nat → Nat → Int, (∀ i j, fits .i64 (g i j)) ∧ RdT w A n K (fun i => (List.range K).map fun j => .int .i64 (g i j)) := by
  by_cases h0 : 0 < n
  · obtain ⟨b, o, rfl, hb, hc⟩ := h h0
    refine ⟨fun i j => if i < n ∧ j < K then rdI w ⟨b, o + i * K + j, none⟩ else 0, fun i j => ?_, fun _ => ⟨b, o, rfl, hb, fun i hi j v hv => ?_⟩⟩
    · show fits .i64 (if i < n ∧ j < K then rdI w ⟨b, o + i * K + j, none⟩ else 0)
      split
      · rename_i hij
        obtain ⟨_, n1, h2, h3⟩ := hc i hij.1 j _ (hk j hij.2)
        have : rdI w ⟨b, o + i * K + j, none⟩ = n1 := by have h2 : Value.int .i64 (rdI w ⟨b, o + i * K + j, none⟩) = .int .i64 n1 := h2; cases h2; rfl
        rw [this]; exact h3
      · exact fits_i64 (by omega) (by omega)
    · have hj : j < K := by
        have := (List.getElem?_eq_some_iff.1 hv).1
        simpa using this
      rw [List.getElem?_map, List.getElem?_range hj, Option.map_some] at hv
      have hv : Value.int .i64 (if i < n ∧ j < K then rdI w ⟨b, o + i * K + j, none⟩ else 0) = v := Option.some.inj hv
      rw [if_pos ⟨hi, hj⟩] at hv
      rw [← hv]
      exact (hc i hi j _ (hk j hj)).1
  · exact ⟨fun _ _ => 0, fun _ _ => (fits_i64 (by omega) (by omega) : fits .i64 0), fun h => absurd h h0⟩
end
end Go.VC
