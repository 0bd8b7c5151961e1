/- Orders of ops: the search. Plain. -/
import Derived.Test.YtdcjacloejhmlaaLin1
import Derived.Test.YtdcjacloejhmlaaBits2
namespace Go.Proofs.Ytdcjacloejhmlaa
open Go Go.RowKit Go.VC
set_option linter.unusedSimpArgs false
set_option linter.unusedVariables false

/-- Which stand, as bits. -/
def msk (l : List Nat) : Nat := l.foldl (fun m i => m ||| 2 ^ i) 0
theorem msk_app (l : List Nat) (i : Nat) : msk (l ++ [i]) = msk l ||| 2 ^ i := by unfold msk; rw [List.foldl_append]; rfl
theorem msk_bit (l : List Nat) (j : Nat) : (msk l).testBit j = decide (j ∈ l) := by
  have key : ∀ (l : List Nat) (m : Nat), (l.foldl (fun m i => m ||| 2 ^ i) m).testBit j = (m.testBit j || decide (j ∈ l)) := by
    intro l
    induction l with
    | nil => intro m; simp
    | cons a l ih =>
      intro m
      rw [List.foldl_cons, ih, Nat.testBit_or, Nat.testBit_two_pow, Bool.or_assoc]
      congr 1
      by_cases h : a = j
      · subst h; simp
      · simp [h, show ¬ j = a from fun e => h e.symm]
  unfold msk
  rw [key]; simp
theorem msk_lt {l : List Nat} (h : ∀ i ∈ l, i < 32) : msk l < 4294967296 := by
  have key : ∀ (l : List Nat) (m : Nat), m < 4294967296 → (∀ i ∈ l, i < 32) → l.foldl (fun m i => m ||| 2 ^ i) m < 4294967296 := by
    intro l
    induction l with
    | nil => intro m hm _; exact hm
    | cons a l ih =>
      intro m hm hl
      refine ih _ ?_ fun i hi => hl i (by simp [hi])
      have : (2 : Nat) ^ a < 2 ^ 32 := Nat.pow_lt_pow_right (by decide) (hl a (by simp))
      exact Nat.or_lt_two_pow (n := 32) hm this
  exact key l 0 (by decide) h
theorem shl_one {i : Nat} (hi : i < 32) : IntKind.wrap .u32 (1 * 2 ^ shN .u32 (i : Int)) = ((2 ^ i : Nat) : Int) := by
  have h2 : 2 ^ i < 4294967296 := Nat.lt_of_lt_of_le (Nat.pow_lt_pow_right (by omega) hi) (by decide)
  rw [shN_lt hi, Int.one_mul, IntKind.wrap_u32']
  have : ((2 : Int) ^ i) = ((2 ^ i : Nat) : Int) := by simp
  rw [this]; clear this; revert h2; generalize 2 ^ i = p; intro h2; omega

theorem or_put {l : List Nat} {i : Nat} (hl : ∀ j ∈ l, j < 32) (hi : i < 32) : bits .or .u32 (msk l : Int) (IntKind.wrap .u32 (1 * 2 ^ shN .u32 (i : Int))) = (msk (l ++ [i]) : Int) := by
  have h2 : 2 ^ i < 4294967296 := Nat.lt_of_lt_of_le (Nat.pow_lt_pow_right (by omega) hi) (by decide)
  rw [shl_one hi, u32_or_nat _ _ (msk_lt hl) h2, msk_app]
theorem andNot_off {l : List Nat} {i : Nat} (hl : ∀ j ∈ l, j < 32) (hi : i < 32) (hn : i ∉ l) : bits .andNot .u32 (msk (l ++ [i]) : Int) (IntKind.wrap .u32 (1 * 2 ^ shN .u32 (i : Int))) = (msk l : Int) := by
  have h2 : 2 ^ i < 4294967296 := Nat.lt_of_lt_of_le (Nat.pow_lt_pow_right (by omega) hi) (by decide)
  have hl' : ∀ j ∈ l ++ [i], j < 32 := fun j hj => by
    rcases List.mem_append.1 hj with h | h
    · exact hl j h
    · rw [List.mem_singleton.1 h]; exact hi
  rw [shl_one hi, u32_andNot_nat _ _ (msk_lt hl') h2]
  congr 1
  refine Nat.eq_of_testBit_eq fun j => ?_
  have e : 4294967295 - 2 ^ i = 2 ^ 32 - (2 ^ i + 1) := by omega
  rw [Nat.testBit_and, e, Nat.testBit_two_pow_sub_succ h2, Nat.testBit_two_pow, msk_bit, msk_bit]
  by_cases hj : j = i
  · subst hj; simp [hn]
  · by_cases hjl : j ∈ l
    · have := hl j hjl
      simp [hjl, this, show ¬ i = j from fun e => hj e.symm]
    · simp [hjl, hj]

section
variable (len : Nat) (reg : Nat → Int) (wr : Nat → Bool) (val fr to : Nat → Int)
/-- What registers have, behind ops. -/
def rgs (l : List Nat) : Int → Int := l.foldl (fun f i => if wr i = true then (fun r => if r = reg i then val i else f r) else f) (fun _ => 0)
def mayB (l : List Nat) (i : Nat) : Bool := !decide (i ∈ l) && (wr i || (decide (0 ≤ to i) && decide (rgs reg wr val l (reg i) = val i))) && (List.range len).all fun j => decide (j ∈ l) || !ahead fr to j i
def fullB (l : List Nat) : Bool := (List.range len).all fun i => !decide (0 ≤ to i) || decide (i ∈ l)
def dfs : Nat → List Nat → Option (List Nat)
  | 0, l => if fullB len to l = true then some l else none
  | f + 1, l => if fullB len to l = true then some l else (List.range len).findSome? fun i => if mayB len reg wr val fr to l i = true then dfs f (l ++ [i]) else none
end
theorem rgs_app (reg : Nat → Int) (wr : Nat → Bool) (val : Nat → Int) (l : List Nat) (i : Nat) : rgs reg wr val (l ++ [i]) = if wr i = true then (fun r => if r = reg i then val i else rgs reg wr val l r) else rgs reg wr val l := by
  unfold rgs; rw [List.foldl_append]; rfl
end Go.Proofs.Ytdcjacloejhmlaa
