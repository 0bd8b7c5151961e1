/- Bits of u32 numbers, plainly. Over any program. -/
import Derived.Test.YtelfmhiaafkimaaVC
import Derived.Laws.BitsAllLaws
namespace Go.VC
open Go
set_option linter.unusedVariables false
set_option linter.unusedSimpArgs false

theorem and_two_pow (n i : Nat) : n &&& 2 ^ i = if n.testBit i then 2 ^ i else 0 := by
  apply Nat.eq_of_testBit_eq
  intro j
  rw [Nat.testBit_and, Nat.testBit_two_pow]
  by_cases h : i = j
  · subst h
    cases hb : n.testBit i <;> simp [Nat.testBit_two_pow]
  · cases hb : n.testBit i <;> simp [Nat.testBit_two_pow, h]
theorem shN_lt {i : Nat} (h : i < 32) : shN .u32 (i : Int) = i := by
  unfold shN
  simp [IntKind.bits]; omega
theorem shN_lt64 {i : Nat} (h : i < 64) : shN .u64 (i : Int) = i := by
  unfold shN
  simp [IntKind.bits]; omega
/-- 'w & (1 << i)', as the model reckons it. -/
theorem and_shl {w i : Nat} (hw : w < 4294967296) (hi : i < 32) : (bits .and .u32 (w : Int) (IntKind.wrap .u32 (1 * 2 ^ shN .u32 (i : Int))) = 0) = (w.testBit i = false) := by
  have h2 : 2 ^ i < 4294967296 := Nat.lt_of_lt_of_le (Nat.pow_lt_pow_right (by omega) hi) (by decide)
  have e : IntKind.wrap .u32 (1 * 2 ^ shN .u32 (i : Int)) = ((2 ^ i : Nat) : Int) := by
    rw [shN_lt hi, Int.one_mul, IntKind.wrap_u32']
    have : ((2 : Int) ^ i) = ((2 ^ i : Nat) : Int) := by simp
    rw [this]; clear this; revert h2; generalize 2 ^ i = p; intro h2; omega
  rw [e, u32_and_nat w (2 ^ i) hw h2, and_two_pow]
  have hp : 0 < 2 ^ i := Nat.pow_pos (by omega)
  have hp' : ((2 ^ i : Nat) : Int) ≠ 0 := by revert hp; generalize 2 ^ i = p; intro hp; omega
  cases hb : w.testBit i
  · rw [if_neg (by simp)]; simp
  · rw [if_pos rfl]
    exact propext ⟨fun h => absurd h hp', fun h => by cases h⟩
theorem and_shl64 {w i : Nat} (hw : w < 18446744073709551616) (hi : i < 64) : (bits .and .u64 (w : Int) (IntKind.wrap .u64 (1 * 2 ^ shN .u64 (i : Int))) = 0) = (w.testBit i = false) := by
  have h2 : 2 ^ i < 18446744073709551616 := Nat.lt_of_lt_of_le (Nat.pow_lt_pow_right (by omega) hi) (by decide)
  have e : IntKind.wrap .u64 (1 * 2 ^ shN .u64 (i : Int)) = ((2 ^ i : Nat) : Int) := by
    rw [shN_lt64 hi, Int.one_mul, IntKind.wrap_u64]
    have : ((2 : Int) ^ i) = ((2 ^ i : Nat) : Int) := by simp
    rw [this]; clear this; revert h2; generalize 2 ^ i = p; intro h2; omega
  rw [e, u64_and_nat w (2 ^ i) hw h2, and_two_pow]
  have hp : 0 < 2 ^ i := Nat.pow_pos (by omega)
  have hp' : ((2 ^ i : Nat) : Int) ≠ 0 := by revert hp; generalize 2 ^ i = p; intro hp; omega
  cases hb : w.testBit i
  · rw [if_neg (by simp)]; simp
  · rw [if_pos rfl]
    exact propext ⟨fun h => absurd h hp', fun h => by cases h⟩
/-- 'w >> n', as the model reckons it. -/
theorem shr_eq {w n : Nat} (hn : n < 32) : (w : Int).fdiv (2 ^ shN .u32 (n : Int)) = ((w / 2 ^ n : Nat) : Int) := by
  rw [shN_lt hn]
  have : ((2 : Int) ^ n) = ((2 ^ n : Nat) : Int) := by simp
  rw [this, Int.fdiv_eq_ediv_of_nonneg _ (Int.natCast_nonneg _)]
  simp
theorem shr_zero {w n : Nat} (hn : n < 32) : ((w : Int).fdiv (2 ^ shN .u32 (n : Int)) = 0) = (w < 2 ^ n) := by
  rw [shr_eq hn]
  have hp : 0 < 2 ^ n := Nat.pow_pos (by omega)
  apply propext
  constructor
  · intro h
    have h : w / 2 ^ n = 0 := by omega
    rcases Nat.div_eq_zero_iff.1 h with h | h
    · omega
    · exact h
  · intro h; rw [Nat.div_eq_of_lt h]; rfl
/-- Bits from n on. -/
theorem high_bits {w n : Nat} (hw : w < 4294967296) : (∃ i, n ≤ i ∧ i < 32 ∧ w.testBit i = true) ↔ ¬ w < 2 ^ n := by
  constructor
  · rintro ⟨i, h1, h2, h3⟩ h
    rw [Nat.testBit_lt_two_pow (Nat.lt_of_lt_of_le h (Nat.pow_le_pow_right (by omega) h1))] at h3
    cases h3
  · intro h
    refine Classical.byContradiction fun hno => h (Nat.lt_pow_two_of_testBit w fun i hi => ?_)
    by_cases h32 : i < 32
    · cases hb : w.testBit i with
      | false => rfl
      | true => exact absurd ⟨i, hi, h32, hb⟩ hno
    · exact Nat.testBit_lt_two_pow (Nat.lt_of_lt_of_le hw (Nat.le_trans (show 4294967296 ≤ 2 ^ 32 by decide) (Nat.pow_le_pow_right (by omega) (by omega))))
end Go.VC
