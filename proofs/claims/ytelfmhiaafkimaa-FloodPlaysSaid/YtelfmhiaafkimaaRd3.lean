/- Slices of structs of three numbers; the first that is not 0. -/
import Derived.Test.YtelfmhiaafkimaaFa
import Derived.Test.YtelfmhiaafkimaaOwn
namespace Go.VC
open Go Go.RowKit
set_option linter.unusedSimpArgs false
set_option linter.unusedVariables false

def Rd3 (w : World) (A : Option Addr) (n : Nat) (x y z : Nat → Int) : Prop :=
  0 < n → ∃ b o, A = some ⟨b, o, none⟩ ∧ b < w.heap.size ∧ ∀ i, i < n → w.cell? ⟨b, o + i * 3, none⟩ = some (.int .i64 (x i)) ∧ w.cell? ⟨b, o + i * 3 + 1, none⟩ = some (.int .i64 (y i)) ∧ w.cell? ⟨b, o + i * 3 + 2, none⟩ = some (.int .i64 (z i)) ∧
    fits .i64 (x i) ∧ fits .i64 (y i) ∧ fits .i64 (z i)

theorem Rd3.of_arg {w : World} {A : Option Addr} {n : Nat} (h : ArgS w A n 3 [.i .i64, .i .i64, .i .i64]) : ∃ x y z, Rd3 w A n x y z := by
  by_cases h0 : 0 < n
  · obtain ⟨b, o, rfl, hb, hc⟩ := h h0
    refine ⟨fun i => rdI w ⟨b, o + i * 3, none⟩, fun i => rdI w ⟨b, o + i * 3 + 1, none⟩, fun i => rdI w ⟨b, o + i * 3 + 2, none⟩, fun _ => ⟨b, o, rfl, hb, fun i hi => ?_⟩⟩
    obtain ⟨h1, n1, h1', h1f⟩ := hc i hi 0 _ rfl
    obtain ⟨h2, n2, h2', h2f⟩ := hc i hi 1 _ rfl
    obtain ⟨h3, n3, h3', h3f⟩ := hc i hi 2 _ rfl
    simp only [rdK, Value.int.injEq, true_and] at h1' h2' h3'
    rw [h1'.symm] at h1f; rw [h2'.symm] at h2f; rw [h3'.symm] at h3f
    exact ⟨h1, h2, h3, h1f, h2f, h3f⟩
  · exact ⟨fun _ => 0, fun _ => 0, fun _ => 0, fun h => absurd h h0⟩

theorem Rd3.below {w w' : World} {A : Option Addr} {n : Nat} {x y z : Nat → Int} (h : Rd3 w A n x y z) (hb : Below w.heap.size w w') : Rd3 w' A n x y z := by
  intro h0
  obtain ⟨b, o, rfl, hlt, hc⟩ := h h0
  refine ⟨b, o, rfl, Nat.lt_of_lt_of_le hlt hb.size, fun i hi => ?_⟩
  obtain ⟨h1, h2, h3, h4⟩ := hc i hi
  exact ⟨(hb.cell (p := ⟨b, _, none⟩) hlt).trans h1, (hb.cell (p := ⟨b, _, none⟩) hlt).trans h2, (hb.cell (p := ⟨b, _, none⟩) hlt).trans h3, h4⟩

open Classical in
/-- The first value that is not 0; 0 if there is none. -/
noncomputable def firstNZ (f : Nat → Int) (n : Nat) : Int := if h : ∃ k, k < n ∧ f k ≠ 0 ∧ ∀ j, j < k → f j = 0 then f h.choose else 0
theorem firstNZ_hit {f : Nat → Int} {n k : Nat} (hk : k < n) (h0 : ∀ j, j < k → f j = 0) (h : f k ≠ 0) : firstNZ f n = f k := by
  have he : ∃ k, k < n ∧ f k ≠ 0 ∧ ∀ j, j < k → f j = 0 := ⟨k, hk, h, h0⟩
  unfold firstNZ
  rw [dif_pos he]
  obtain ⟨h1, h2, h3⟩ := he.choose_spec
  rcases Nat.lt_trichotomy he.choose k with h4 | h4 | h4
  · exact absurd (h0 _ h4) h2
  · rw [h4]
  · exact absurd (h3 _ h4) h
theorem firstNZ_miss {f : Nat → Int} {n : Nat} (h0 : ∀ j, j < n → f j = 0) : firstNZ f n = 0 := by
  unfold firstNZ
  rw [dif_neg]
  rintro ⟨k, hk, h, _⟩
  exact h (h0 k hk)
theorem firstNZ_zero {f : Nat → Int} {n : Nat} (h : firstNZ f n = 0) : ∀ j, j < n → f j = 0 := by
  intro j
  induction j using Nat.strongRecOn with
  | _ j ih =>
    intro hj
    refine Classical.byContradiction fun hne => ?_
    rw [firstNZ_hit hj (fun i hi => ih i hi (by omega)) hne] at h
    exact hne h
end Go.VC
