/- One in at a time, the document's one list of letters. No program in sight. -/
import Derived.Test.YtelfmhiaafkimaaMutexPlain
import Derived.Test.YtelfmhiaafkimaaSums
namespace Go.Proofs.Ytelfmhiaafkimaa
open Go Go.RowKit Go.VC
set_option linter.unusedSimpArgs false
set_option linter.unusedVariables false
/-- The list tells each way's queue. -/
structure XR (n : Nat) (way : Nat → Nat → List Int) (P : List Letter) : Prop where
  way : ∀ i j, i < n → j < n → wayL P i j = way i j
  ok : ∀ x ∈ P, ∃ a b : Nat, a < n ∧ b < n ∧ x.fr = a ∧ x.to = b
theorem XR.nil (n : Nat) : XR n (fun _ _ => []) [] := ⟨fun i j _ _ => rfl, fun x hx => by cases hx⟩
theorem XR.send {n : Nat} {s : MxS} {P : List Letter} (h : XR n s.way P) {i j : Nat} (hi : i < n) (hj : j < n) (x : Int) : XR n (msend i j x s).way (P ++ [⟨i, j, x, false⟩]) := by
  refine ⟨fun a b ha hb => ?_, fun y hy => ?_⟩
  · rw [wayL_snoc]
    show _ = if a = i ∧ b = j then s.way a b ++ [x] else s.way a b
    rw [h.way a b ha hb]
  · rcases List.mem_append.1 hy with hy | hy
    · exact h.ok y hy
    · rw [List.mem_singleton.1 hy]; exact ⟨i, j, hi, hj, rfl, rfl⟩
theorem XR.none {n : Nat} {way : Nat → Nat → List Int} {P : List Letter} (h : XR n way P) {i j : Nat} (hi : i < n) (hj : j < n) (hf : firstL i j P = .none) : way i j = [] := by
  rw [← h.way i j hi hj]; exact firstL_none hf
theorem XR.take {n : Nat} {way : Nat → Nat → List Int} {P : List Letter} (h : XR n way P) {i j k : Nat} (hi : i < n) (hj : j < n) (hf : firstL i j P = some k) :
    ∃ (hk : k < P.length) (q : List Int), way i j = P[k].what :: q ∧ XR n (fun a b => if a = i ∧ b = j then q else way a b) (P.set k (comeL P[k])) := by
  obtain ⟨x, h1, h2, h3, h4⟩ := firstL_some hf
  obtain ⟨hk, rfl⟩ := List.getElem?_eq_some_iff.1 h1
  refine ⟨hk, wayL (P.set k (comeL P[k])) i j, by rw [← h.way i j hi hj]; exact h3, fun a b ha hb => ?_, fun y hy => ?_⟩
  · show _ = if a = i ∧ b = j then _ else way a b
    by_cases e : a = i ∧ b = j
    · rw [if_pos e, e.1, e.2]
    · rw [if_neg e, h4 a b e, h.way a b ha hb]
  · rcases List.mem_or_eq_of_mem_set hy with hy | rfl
    · exact h.ok y hy
    · exact h.ok P[k] (List.getElem_mem hk)
/-- The first one from place k on, as a whole number. -/
def atF (i j : Nat) (P : List Letter) (k : Nat) : Int :=
  match firstL i j (P.drop k) with
  | .none => -1
  | some t => (k + t : Nat)
theorem atF_end (i j : Nat) (P : List Letter) : atF i j P P.length = -1 := by
  unfold atF; rw [List.drop_length]; rfl
theorem firstL_cons (i j : Nat) (x : Letter) (l : List Letter) : firstL i j (x :: l) = if isL i j x = true then some 0 else (firstL i j l).map (· + 1) := rfl
theorem atF_step {i j : Nat} {P : List Letter} {k : Nat} (hk : k < P.length) : atF i j P k = if isL i j P[k] = true then (k : Int) else atF i j P (k + 1) := by
  unfold atF
  rw [List.drop_eq_getElem_cons hk, firstL_cons]
  by_cases e : isL i j P[k] = true
  · rw [if_pos e, if_pos e]; rfl
  · rw [if_neg e, if_neg e]
    generalize firstL i j (P.drop (k + 1)) = o
    cases o with
    | none => rfl
    | some t =>
      show ((k + (t + 1) : Nat) : Int) = ((k + 1 + t : Nat) : Int)
      omega
theorem atF_zero (i j : Nat) (P : List Letter) : atF i j P 0 = match firstL i j P with | .none => -1 | some t => (t : Int) := by
  unfold atF
  rw [List.drop_zero]
  cases firstL i j P with
  | none => rfl
  | some t => show ((0 + t : Nat) : Int) = t; omega
theorem atF_lo (i j : Nat) (P : List Letter) (k : Nat) : -1 ≤ atF i j P k := by
  unfold atF; split <;> omega
/-- How many have not come. -/
def waitN (P : List Letter) : Nat := (P.filter fun x => !x.come).length
theorem waitN_snoc (P : List Letter) (x : Letter) : waitN (P ++ [x]) = waitN P + if x.come = true then 0 else 1 := by
  unfold waitN
  rw [List.filter_append, List.length_append]
  cases h : x.come <;> simp [h]
theorem waitN_take {P : List Letter} {k : Nat} (hk : k < P.length) : waitN (P.take (k + 1)) = waitN (P.take k) + if P[k].come = true then 0 else 1 := by
  rw [List.take_succ_eq_append_getElem hk, waitN_snoc]
theorem waitN_le (P : List Letter) : waitN P ≤ P.length := List.length_filter_le ..
theorem sum2_zero (n : Nat) : sum2 n (fun _ _ => 0) = 0 := by
  unfold sum2
  have h0 : ∀ m, sumN (fun _ => 0) m = 0 := fun m => by induction m with
    | zero => rfl
    | succ m ih => unfold sumN; rw [ih]; rfl
  rw [sumN_congr (g := fun _ => 0) fun j _ => h0 n, h0]
theorem waitN_sum {n : Nat} : ∀ {P : List Letter}, (∀ x ∈ P, ∃ a b : Nat, a < n ∧ b < n ∧ x.fr = a ∧ x.to = b) → (waitN P : Int) = sum2 n fun i j => ((wayL P i j).length : Int)
  | [], _ => (sum2_zero n).symm
  | x :: P, h => by
    have ih := waitN_sum (P := P) fun y hy => h y (by simp [hy])
    obtain ⟨a, b, ha, hb, h1, h2⟩ := h x (by simp)
    cases hc : x.come with
    | true =>
      have e1 : waitN (x :: P) = waitN P := by unfold waitN; rw [List.filter_cons, hc]; rfl
      rw [e1, ih]
      refine sum2_congr fun i j _ _ => ?_
      rw [wayL_cons, if_neg]
      unfold isL
      rw [hc]
      simp
    | false =>
      have e1 : waitN (x :: P) = waitN P + 1 := by unfold waitN; rw [List.filter_cons, hc]; rfl
      rw [e1, Int.natCast_add, ih, show ((1 : Nat) : Int) = 1 from rfl]
      refine (sum2_turn ha hb fun i j => ?_).symm
      rw [wayL_cons]
      by_cases e : i = a ∧ j = b
      · rw [if_pos e, if_pos]
        · simp
        · obtain ⟨rfl, rfl⟩ := e
          unfold isL; rw [hc, h1, h2]; simp
      · rw [if_neg e, if_neg]
        · simp
        · intro hh
          unfold isL at hh
          simp only [Bool.and_eq_true, decide_eq_true_eq] at hh
          exact e ⟨by omega, by omega⟩
end Go.Proofs.Ytelfmhiaafkimaa
