/- Sums over tables. No program in sight. -/
import Derived.Test.YtelfmhiaafkimaaRecs
namespace Go.Proofs.Ytelfmhiaafkimaa
open Go Go.RowKit Go.VC
set_option linter.unusedSimpArgs false
set_option linter.unusedVariables false
def sumN (f : Nat → Int) : Nat → Int
  | 0 => 0
  | k + 1 => sumN f k + f k
theorem sumN_congr {f g : Nat → Int} : ∀ {n : Nat}, (∀ j, j < n → f j = g j) → sumN f n = sumN g n
  | 0, _ => rfl
  | n + 1, h => by unfold sumN; rw [sumN_congr fun j hj => h j (by omega), h n (by omega)]
theorem sumN_add {f g : Nat → Int} {j d : Int} {i : Nat} (hi : ∀ x, g x = f x + if x = i then d else 0) : ∀ {n : Nat}, sumN g n = sumN f n + if i < n then d else 0
  | 0 => by simp [sumN]
  | n + 1 => by
    unfold sumN
    rw [sumN_add (j := j) hi, hi n]
    by_cases h1 : i < n
    · rw [if_pos h1, if_pos (show i < n + 1 by omega), if_neg (by omega)]; omega
    · by_cases h2 : n = i
      · rw [if_neg h1, if_pos h2, if_pos (by omega)]; omega
      · rw [if_neg h1, if_neg h2, if_neg (by omega)]; omega
theorem sumN_nonneg {f : Nat → Int} (h : ∀ j, 0 ≤ f j) : ∀ n, 0 ≤ sumN f n
  | 0 => Int.le_refl _
  | n + 1 => by unfold sumN; have := sumN_nonneg h n; have := h n; omega
/-- All that a table holds. -/
def sum2 (n : Nat) (f : Nat → Nat → Int) : Int := sumN (fun i => sumN (f i) n) n
theorem sum2_turn {n a b : Nat} {f g : Nat → Nat → Int} {d : Int} (ha : a < n) (hb : b < n) (h : ∀ i j, g i j = f i j + if i = a ∧ j = b then d else 0) : sum2 n g = sum2 n f + d := by
  unfold sum2
  rw [sumN_add (f := fun i => sumN (f i) n) (j := 0) (d := d) (i := a) (fun x => ?_) (n := n), if_pos ha]
  by_cases e : x = a
  · rw [if_pos e, sumN_add (f := f x) (j := 0) (d := d) (i := b) (fun y => ?_) (n := n), if_pos hb]
    rw [h x y]
    by_cases e2 : y = b
    · rw [if_pos ⟨e, e2⟩, if_pos e2]
    · rw [if_neg (fun hh => e2 hh.2), if_neg e2]
  · rw [if_neg e, Int.add_zero]
    exact sumN_congr fun y hy => by rw [h x y, if_neg (fun hh => e hh.1), Int.add_zero]
theorem sum2_congr {n : Nat} {f g : Nat → Nat → Int} (h : ∀ i j, i < n → j < n → f i j = g i j) : sum2 n f = sum2 n g :=
  sumN_congr fun i hi => sumN_congr fun j hj => h i j hi hj
theorem sumN_le {f : Nat → Int} {T : Int} (h : ∀ j, f j ≤ T) : ∀ n : Nat, sumN f n ≤ n * T
  | 0 => by simp [sumN]
  | n + 1 => by
    unfold sumN
    have h1 := sumN_le h n
    have h2 := h n
    have : ((n + 1 : Nat) : Int) * T = n * T + T := by rw [Int.natCast_add, Int.add_mul]; simp
    omega
theorem sum2_bound {n : Nat} {T : Nat} {f : Nat → Nat → Int} (hn : n ≤ 6) (h : ∀ i j, 0 ≤ f i j ∧ f i j ≤ T) : 0 ≤ sum2 n f ∧ sum2 n f ≤ 36 * T := by
  unfold sum2
  have h1 : ∀ i, 0 ≤ sumN (f i) n ∧ sumN (f i) n ≤ 6 * T := fun i => ⟨sumN_nonneg (fun j => (h i j).1) n, by
    refine Int.le_trans (sumN_le (fun j => (h i j).2) n) ?_
    exact Int.mul_le_mul_of_nonneg_right (by omega) (by omega)⟩
  refine ⟨sumN_nonneg (fun i => (h1 i).1) n, Int.le_trans (sumN_le (fun i => (h1 i).2) n) ?_⟩
  have : (n : Int) * (6 * T) ≤ 6 * (6 * T) := Int.mul_le_mul_of_nonneg_right (by omega) (by omega)
  omega
open Classical in
/-- What is left of a table. -/
noncomputable def leftS (n : Nat) (f : Nat → Nat → Nat) (left : Int × Int → Prop) : Int := sum2 n fun i j => if left ((i : Int), (j : Int)) then (f i j : Int) else 0
theorem leftS_take {n a b : Nat} {f : Nat → Nat → Nat} {left : Int × Int → Prop} (ha : a < n) (hb : b < n) (h : left ((a : Int), (b : Int))) :
    leftS n f left = leftS n f (fun y => left y ∧ y ≠ ((a : Int), (b : Int))) + f a b := by
  unfold leftS
  refine sum2_turn ha hb fun i j => ?_
  by_cases e : i = a ∧ j = b
  · obtain ⟨rfl, rfl⟩ := e
    rw [if_pos h, if_neg (fun hh => hh.2 rfl), if_pos ⟨rfl, rfl⟩, Int.zero_add]
  · rw [if_neg e, Int.add_zero]
    have hne : ((i : Int), (j : Int)) ≠ ((a : Int), (b : Int)) := fun hh => e ⟨by have := congrArg Prod.fst hh; simp at this; omega, by have := congrArg Prod.snd hh; simp at this; omega⟩
    by_cases h2 : left ((i : Int), (j : Int))
    · rw [if_pos h2, if_pos ⟨h2, hne⟩]
    · rw [if_neg h2, if_neg (fun hh => h2 hh.1)]
theorem leftS_none {n : Nat} {f : Nat → Nat → Nat} {left : Int × Int → Prop} (h : ∀ i j : Nat, i < n → j < n → ¬ left ((i : Int), (j : Int))) : leftS n f left = 0 := by
  unfold leftS
  rw [sum2_congr (g := fun _ _ => 0) fun i j hi hj => if_neg (h i j hi hj)]
  unfold sum2
  have h0 : ∀ m, sumN (fun _ => 0) m = 0 := fun m => by induction m with
    | zero => rfl
    | succ m ih => unfold sumN; rw [ih]; rfl
  rw [sumN_congr (g := fun _ => 0) fun j _ => h0 n, h0]
theorem leftS_bound {n T : Nat} {f : Nat → Nat → Nat} {left : Int × Int → Prop} (hn : n ≤ 6) (h : ∀ i j, f i j ≤ T) : 0 ≤ leftS n f left ∧ leftS n f left ≤ 36 * T := by
  unfold leftS
  refine sum2_bound hn fun i j => ?_
  have := h i j
  split
  · omega
  · omega
end Go.Proofs.Ytelfmhiaafkimaa
