/- What is decided by certified blocks. -/
import Derived.Test.YtnggjekppdlaoaaChainR
import Derived.Test.YtnggjekppdlaoaaChainUp
import Derived.Test.YtnggjekppdlaoaaRefSameB
namespace Go.Proofs.Ytnggjekppdlaoaa
open Go Go.RowKit Go.VC
set_option linter.unusedSimpArgs false
set_option linter.unusedVariables false

/-! ### plain -/
def goodB (cl : List Bool) (p r : Nat → Int) (c : Nat) : Bool := decide (0 < c) && cl.getD c false && cl.getD (p c).toNat false && decide (r c = r (p c).toNat + 1)
def decF (cl : List Bool) (p r : Nat → Int) (k x : Nat) : Bool := (List.range k).any fun c => goodB cl p r c && decide ((x : Int) ∈ path p (p c).toNat)
def onL (n : Nat) (f : Nat → Bool) : List Bool := (List.range n).map f
theorem onL_length (n : Nat) (f : Nat → Bool) : (onL n f).length = n := by simp [onL]
theorem onL_congr {n : Nat} {f g : Nat → Bool} (h : ∀ x, x < n → f x = g x) : onL n f = onL n g := List.map_congr_left fun x hx => h x (List.mem_range.1 hx)
theorem onL_false (n : Nat) : onL n (fun _ => false) = List.replicate n false := by simp [onL, List.map_const']
theorem onL_set (n : Nat) (f : Nat → Bool) (j : Nat) : (onL n f).set j true = onL n fun x => f x || decide (x = j) := by
  apply List.ext_getElem
  · simp [onL]
  · intro k h1 h2
    rw [List.getElem_set]
    simp only [onL, List.getElem_map, List.getElem_range]
    by_cases h : j = k
    · simp [h]
    · have h' : ¬ k = j := fun e => h e.symm
      simp [h, h']
theorem onL_get {n : Nat} {f : Nat → Bool} {j : Nat} (h : j < n) : (onL n f)[j]? = some (f j) := by simp [onL, h]

theorem decF_zero (cl : List Bool) (p r : Nat → Int) (x : Nat) : decF cl p r 0 x = false := rfl
theorem decF_succ (cl : List Bool) (p r : Nat → Int) (k x : Nat) : decF cl p r (k + 1) x = (decF cl p r k x || goodB cl p r k && decide ((x : Int) ∈ path p (p k).toNat)) := by
  unfold decF; rw [List.range_succ, List.any_append]; simp
/-- While a path is being marked. -/
def midF (cl : List Bool) (p r : Nat → Int) (k : Nat) (q : List Int) (x : Nat) : Bool := decF cl p r k x || decide ((x : Int) ∈ q)
theorem midF_nil (cl : List Bool) (p r : Nat → Int) (k : Nat) : midF cl p r k [] = decF cl p r k := by funext x; simp [midF]
theorem midF_snoc {cl : List Bool} {p r : Nat → Int} {k : Nat} {q : List Int} {y : Int} (hy : 0 ≤ y) (n : Nat) : (onL n (midF cl p r k q)).set y.toNat true = onL n (midF cl p r k (q ++ [y])) := by
  rw [onL_set]
  refine onL_congr fun x hx => ?_
  unfold midF
  have e : decide (x = y.toNat) = decide ((x : Int) = y) := by congr 1; apply propext; omega
  simp only [List.mem_append, List.mem_singleton, Bool.decide_or, e, Bool.or_assoc]
theorem midF_end {cl : List Bool} {p r : Nat → Int} {k : Nat} {q : List Int} (hg : goodB cl p r k = true) (hq : ∀ x : Int, x ∈ q ↔ x ∈ path p (p k).toNat) : midF cl p r k q = decF cl p r (k + 1) := by
  funext x
  rw [decF_succ, hg]
  unfold midF
  simp [hq]
theorem decF_skip {cl : List Bool} {p r : Nat → Int} {k : Nat} (hg : goodB cl p r k = false) : decF cl p r (k + 1) = decF cl p r k := by
  funext x
  rw [decF_succ, hg]; simp
theorem mem_ups (p : Nat → Int) (b : Nat) (x : Int) : x ∈ ups p b ↔ x ∈ path p b := by unfold ups; exact List.mem_reverse
end Go.Proofs.Ytnggjekppdlaoaa
