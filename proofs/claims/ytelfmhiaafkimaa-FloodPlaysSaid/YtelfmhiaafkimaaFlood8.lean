/- What some who crash have said: the document's run. -/
import Derived.Test.YtelfmhiaafkimaaFlood2
import Derived.Test.YtelfmhiaafkimaaFlood3
import Derived.Test.YtelfmhiaafkimaaRecs
namespace Go.Proofs.Ytelfmhiaafkimaa
open Go Go.RowKit Go.VC
set_option linter.unusedSimpArgs false
set_option linter.unusedVariables false
abbrev rowBo (n : Nat) (r : Nat → Bool) : List Value := (List.range n).map fun j => Value.bool (r j)
theorem rowBo_at {n j : Nat} {r : Nat → Bool} (hj : j < n) : (rowBo n r)[j]? = some (.bool (r j)) := by simp [hj]
theorem rowBo_set {n b : Nat} {r : Nat → Bool} (hb : b < n) : rowBo n (fun j => if j = b then true else r j) = (rowBo n r).set b (.bool true) := by
  apply List.ext_getElem?
  intro j
  rw [List.getElem?_set]
  by_cases hj : j < n
  · by_cases e : b = j
    · subst e; rw [rowBo_at hj, if_pos rfl, if_pos rfl, if_pos (by simpa using hb)]
    · rw [rowBo_at hj, if_neg e, if_neg (fun h => e h.symm), rowBo_at hj]
  · by_cases e : b = j
    · omega
    · rw [if_neg e, List.getElem?_eq_none (by simp; omega), List.getElem?_eq_none (by simp; omega)]
def setBo (m : Nat → Nat → Bool) (a b : Nat) : Nat → Nat → Bool := fun i j => if i = a ∧ j = b then true else m i j
theorem upd_setBo (m : Nat → Nat → Bool) (a b : Nat) : upd m a (fun j => if j = b then true else m a j) = setBo m a b := by
  funext i j
  unfold upd setBo
  by_cases e : i = a
  · subst e; simp
  · simp [e]
theorem bo_set {B : Nat} {L : List Ob} {w : World} {m : Nat → Nat → Bool} (h : Hp B L w) (i : Nat) {g n : Nat} (hi : L[i]? = some (oRecs g n n fun x => rowBo n (m x))) {a b : Nat} (ha : a < n) (hb : b < n) :
    St B L w (L.set i (oRecs g n n fun x => rowBo n (setBo m a b x))) (w.setCell ⟨g, a * n + b, none⟩ (.bool true)) := by
  have := h.setRec (en := rowBo n) (P := m) i hi ha hb (by simp) (v := .bool true) (p := fun j => if j = b then true else m a j) (rowBo_set hb)
  rwa [upd_setBo] at this
theorem idx_ltB {n a b : Nat} (ha : a < n) (hb : b < n) : a * n + b < n * n := by
  have : (a + 1) * n ≤ n * n := Nat.mul_le_mul_right n ha
  rw [Nat.succ_mul] at this; omega
theorem bo_made {w w' : World} {B n g : Nat} (hB : Below w.heap.size w w') (hBw : B ≤ w.heap.size) (hg : g = w.heap.size) (ho : OwnK w' 0 4 1 (n * n) (.slice (some ⟨g, 0, none⟩) (n * n) (n * n)) (madeCells [Value.bool false].toArray (n * n * 1)).toList) (hl : g < w'.heap.size) :
    Hp B [oRecs g n n fun x => rowBo n ((fun _ _ => false : Nat → Nat → Bool) x)] w' := by
  have hR : Recs w' g n n (fun x => rowBo n ((fun _ _ => false : Nat → Nat → Bool) x)) := by
    refine ⟨hl, fun i hi j hj => ?_⟩
    have hlt : i * n + j < n * n * 1 := by have := idx_ltB hi hj; omega
    obtain ⟨h1, h2⟩ := ho.at hlt
    refine ⟨h1.trans ?_, h2⟩
    rw [rowBo_at hj]
    have h := made_at [Value.bool false].toArray (n := n * n) (K := 1) (i := i * n + j) (j := 0) rfl (idx_ltB hi hj) Nat.zero_lt_one
    rw [Nat.mul_one (i * n + j), Nat.add_zero] at h
    exact h
  exact ((Hp.nil (B := B) hBw).st_add (o := oRecs g n n fun x => rowBo n ((fun _ _ => false : Nat → Nat → Bool) x)) hB hR (fun q hq => by cases hq; omega)).hp
theorem crs_succ (g : Nat → CrashC) (q : Nat) : crs g (q + 1) = crs g q ++ [g q] := by unfold crs; rw [List.range_succ, List.map_append]; rfl
theorem sendsB_succ {g : Nat → CrashC} {q k j r : Nat} : sendsB (crs g (q + 1)) k j r = (sendsB (crs g q) k j r && !(decide ((g q).who = (k : Int)) && (decide ((g q).round < (r : Int)) || (decide ((g q).round = (r : Int)) && !(g q).to.testBit j)))) := by
  rw [crs_succ]; unfold sendsB; rw [List.all_append]; simp
theorem sp6_succ (b : Bool) (F : Nat → Bool) {j' j x i : Nat} : (b || ((decide (j' = j) && decide (x < i + 1)) && F x)) = ((b || ((decide (j' = j) && decide (x < i)) && F x)) || (decide (j' = j ∧ x = i) && F i)) := by
  by_cases e : j' = j
  · by_cases e2 : x = i
    · subst e2; simp [e]
    · have h1 : decide (x < i + 1) = decide (x < i) := decide_eq_decide.2 ⟨fun h => by omega, fun h => by omega⟩
      rw [h1, decide_eq_false (fun h => e2 h.2 : ¬ (j' = j ∧ x = i)), Bool.false_and, Bool.or_false]
  · rw [decide_eq_false (fun h => e h.1 : ¬ (j' = j ∧ x = i)), decide_eq_false e]; simp
end Go.Proofs.Ytelfmhiaafkimaa
