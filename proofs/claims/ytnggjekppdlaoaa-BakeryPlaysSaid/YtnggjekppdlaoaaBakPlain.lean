/- Tickets: what the program and the document both compute. No program in sight. -/
import Derived.Test.YtnggjekppdlaoaaRecs
import Derived.Test.YtnggjekppdlaoaaCmp
namespace Go.Proofs.Ytnggjekppdlaoaa
open Go Go.RowKit Go.VC
set_option linter.unusedSimpArgs false
set_option linter.unusedVariables false

/-- A process: where it stands, what it looks at, the greatest ticket seen, its own, whether it chooses. -/
structure BP where
  at' : Nat
  k : Nat
  m : Nat
  tk : Nat
  ch : Bool
/-- What one does that looks at the k-th. -/
def yields (P : Nat → BP) (i : Nat) : Bool := if (P (P i).k).tk = 0 then false else kLess ((P (P i).k).tk, (P i).k) ((P i).tk, i)
def bnew (n i : Nat) (P : Nat → BP) : BP :=
  if (P i).at' = 0 then ⟨1, 0, 0, (P i).tk, true⟩
  else if (P i).at' = 1 then (if (P i).k = n then ⟨2, (P i).k, (P i).m, (P i).m + 1, (P i).ch⟩ else ⟨1, (P i).k + 1, if (P i).m < (P (P i).k).tk then (P (P i).k).tk else (P i).m, (P i).tk, (P i).ch⟩)
  else if (P i).at' = 2 then ⟨3, 0, (P i).m, (P i).tk, false⟩
  else if (P i).at' = 3 then (if (P i).k = n then ⟨5, (P i).k, (P i).m, (P i).tk, (P i).ch⟩ else if (P (P i).k).ch = false then ⟨4, (P i).k, (P i).m, (P i).tk, (P i).ch⟩ else P i)
  else if (P i).at' = 4 then (if yields P i = true then P i else ⟨3, (P i).k + 1, (P i).m, (P i).tk, (P i).ch⟩)
  else ⟨0, (P i).k, (P i).m, 0, (P i).ch⟩
def enters (n i : Nat) (P : Nat → BP) : Bool := if (P i).at' = 3 then decide ((P i).k = n) else false
def bin' (n i : Nat) (P : Nat → BP) : List Int := if enters n i P = true then [(i : Int)] else []
structure BS where
  p : Nat → BP
  inn : List Int
  codes : List Int
def bstep (n : Nat) (x : Int) (s : BS) : BS := if 0 ≤ x ∧ x < n then ⟨upd s.p x.toNat (bnew n x.toNat s.p), s.inn ++ bin' n x.toNat s.p, s.codes ++ [0]⟩ else ⟨s.p, s.inn, s.codes ++ [2]⟩
def bst (n : Nat) (f : Nat → Int) : Nat → BS
  | 0 => ⟨fun _ => ⟨0, 0, 0, 0, false⟩, [], []⟩
  | k + 1 => bstep n (f k) (bst n f k)

/-- What holds of each process behind t steps. -/
def BOK (n t : Nat) (p : BP) : Prop := p.at' ≤ 5 ∧ p.k ≤ n ∧ (p.at' = 4 → p.k < n) ∧ p.m ≤ t ∧ p.tk ≤ t
theorem BOK.up {n t : Nat} {p : BP} (h : BOK n t p) : BOK n (t + 1) p := by
  obtain ⟨a, b, c, d, e⟩ := h; exact ⟨a, b, c, by omega, by omega⟩
theorem bnew_ok {n t i : Nat} {P : Nat → BP} (h : ∀ a, BOK n t (P a)) : BOK n (t + 1) (bnew n i P) := by
  obtain ⟨a1, a2, a3, a4, a5⟩ := h i
  obtain ⟨c1, c2, c3, c4, c5⟩ := h (P i).k
  unfold bnew
  split
  · exact ⟨by show 1 ≤ 5; omega, by show 0 ≤ n; omega, fun h => (by cases h), by show 0 ≤ t + 1; omega, by show (P i).tk ≤ t + 1; omega⟩
  split
  · split
    · exact ⟨by show 2 ≤ 5; omega, a2, fun h => (by cases h), by show (P i).m ≤ t + 1; omega, by show (P i).m + 1 ≤ t + 1; omega⟩
    · refine ⟨by show 1 ≤ 5; omega, by show (P i).k + 1 ≤ n; omega, fun h => (by cases h), ?_, by show (P i).tk ≤ t + 1; omega⟩
      show (if _ then _ else _) ≤ t + 1
      split <;> omega
  split
  · exact ⟨by show 3 ≤ 5; omega, by show 0 ≤ n; omega, fun h => (by cases h), by show (P i).m ≤ t + 1; omega, by show (P i).tk ≤ t + 1; omega⟩
  split
  · split
    · exact ⟨by show 5 ≤ 5; omega, a2, fun h => (by cases h), by show (P i).m ≤ t + 1; omega, by show (P i).tk ≤ t + 1; omega⟩
    · split
      · exact ⟨by show 4 ≤ 5; omega, a2, fun _ => by show (P i).k < n; omega, by show (P i).m ≤ t + 1; omega, by show (P i).tk ≤ t + 1; omega⟩
      · exact (h i).up
  split
  · split
    · exact (h i).up
    · rename_i h4 _
      have := a3 h4
      exact ⟨by show 3 ≤ 5; omega, by show (P i).k + 1 ≤ n; omega, fun h => (by cases h), by show (P i).m ≤ t + 1; omega, by show (P i).tk ≤ t + 1; omega⟩
  · exact ⟨by show 0 ≤ 5; omega, a2, fun h => (by cases h), by show (P i).m ≤ t + 1; omega, by show 0 ≤ t + 1; omega⟩
theorem bst_ok (n : Nat) (f : Nat → Int) : ∀ (t : Nat), (∀ a, BOK n t ((bst n f t).p a)) ∧ (bst n f t).inn.length ≤ t ∧ (bst n f t).codes.length = t := by
  intro t
  induction t with
  | zero => exact ⟨fun a => ⟨by show 0 ≤ 5; omega, by show 0 ≤ n; omega, fun h => (by cases h), Nat.le_refl 0, Nat.le_refl 0⟩, Nat.le_refl 0, rfl⟩
  | succ t ih =>
    obtain ⟨h1, h2, h3⟩ := ih
    show (∀ a, BOK n (t + 1) ((bstep n (f t) (bst n f t)).p a)) ∧ (bstep n (f t) (bst n f t)).inn.length ≤ t + 1 ∧ (bstep n (f t) (bst n f t)).codes.length = t + 1
    generalize bst n f t = s at *
    unfold bstep
    split
    · refine ⟨fun a => ?_, ?_, by simp [h3]⟩
      · show BOK n (t + 1) (upd s.p _ _ a)
        unfold upd
        split
        · exact bnew_ok h1
        · exact (h1 a).up
      · show (s.inn ++ bin' _ _ _).length ≤ t + 1
        unfold bin'
        rw [List.length_append]
        split <;> simp <;> omega
    · exact ⟨fun a => (h1 a).up, by show s.inn.length ≤ t + 1; omega, by simp [h3]⟩
end Go.Proofs.Ytnggjekppdlaoaa
