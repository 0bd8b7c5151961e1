/- Tables of bools, row by row. Plain. -/
import Derived.Test.YtdcjacloejhmlaaOwn
namespace Go.VC
open Go Go.RowKit
set_option linter.unusedVariables false
set_option linter.unusedSimpArgs false

def matL (n : Nat) (f : Nat → Nat → Bool) : List Bool := (List.range (n * n)).map fun x => f (x / n) (x % n)
theorem mat_lt {n i j : Nat} (hi : i < n) (hj : j < n) : i * n + j < n * n := by
  have : (i + 1) * n ≤ n * n := Nat.mul_le_mul_right n hi
  rw [Nat.add_mul, Nat.one_mul] at this
  omega
theorem mat_div {n i j : Nat} (hj : j < n) : (i * n + j) / n = i := by
  rw [Nat.mul_comm, Nat.mul_add_div (by omega), Nat.div_eq_of_lt hj, Nat.add_zero]
theorem mat_mod {n i j : Nat} (hj : j < n) : (i * n + j) % n = j := by
  rw [Nat.mul_comm, Nat.mul_add_mod, Nat.mod_eq_of_lt hj]
theorem mat_eq {n x : Nat} : x / n * n + x % n = x := by rw [Nat.mul_comm]; exact Nat.div_add_mod x n
theorem matL_length (n : Nat) (f : Nat → Nat → Bool) : (matL n f).length = n * n := by simp [matL]
theorem matL_get {n i j : Nat} {f : Nat → Nat → Bool} (hi : i < n) (hj : j < n) : (matL n f)[i * n + j]? = some (f i j) := by
  have := mat_lt hi hj
  simp only [matL, List.getElem?_map, List.getElem?_range this, Option.map_some, mat_div hj, mat_mod hj]
theorem matL_congr {n : Nat} {f g : Nat → Nat → Bool} (h : ∀ a b, a < n → b < n → f a b = g a b) : matL n f = matL n g := by
  refine List.map_congr_left fun x hx => ?_
  rw [List.mem_range] at hx
  have h0 : 0 < n := by rcases Nat.eq_zero_or_pos n with h | h; · subst h; simp at hx
                        · exact h
  exact h _ _ ((Nat.div_lt_iff_lt_mul h0).2 hx) (Nat.mod_lt _ h0)
theorem matL_set {n i j : Nat} {f : Nat → Nat → Bool} (hi : i < n) (hj : j < n) : (matL n f).set (i * n + j) true = matL n fun a b => f a b || decide (a = i ∧ b = j) := by
  apply List.ext_getElem
  · simp [matL]
  · intro k h1 h2
    rw [List.getElem_set]
    simp only [matL, List.getElem_map, List.getElem_range]
    by_cases h : i * n + j = k
    · subst h; simp [mat_div hj, mat_mod hj]
    · have h' : ¬ (k / n = i ∧ k % n = j) := fun ⟨e1, e2⟩ => h (by rw [← e1, ← e2]; exact mat_eq)
      simp [h, h']
theorem matL_false (n : Nat) : matL n (fun _ _ => false) = List.replicate (n * n) false := by simp [matL, List.map_const']

/-- Where a cell of a table lies. -/
theorem mat_int (i n j : Nat) : ((i : Int) * n + j) = ((i * n + j : Nat) : Int) := by simp
theorem mat_toNat (i n j : Nat) : ((i : Int) * n + j).toNat = i * n + j := by rw [mat_int]; rfl
theorem mat_fits {n i j : Nat} (hi : i < n) (hj : j < n) (hn : n ≤ 100) : fits .i64 ((i : Int) * n) ∧ fits .i64 ((i : Int) * n + j) ∧ (0 : Int) ≤ (i : Int) * n + j ∧ (i : Int) * n + j < ((n * n : Nat) : Int) := by
  have h1 := mat_lt hi hj
  have h2 : n * n ≤ 100 * 100 := Nat.mul_le_mul hn hn
  have e : ((i : Int) * n) = ((i * n : Nat) : Int) := by simp
  rw [mat_int, e]
  exact ⟨fits_i64 (by omega) (by omega), fits_i64 (by omega) (by omega), by omega, by omega⟩
end Go.VC
