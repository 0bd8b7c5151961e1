/- Many copies as one: what the document keeps, beside what the program keeps. No program in sight. -/
import Derived.Test.YtnggjekppdlaoaaRegPlain
namespace Go.Proofs.Ytnggjekppdlaoaa
open Go Go.RowKit Go.VC
set_option linter.unusedSimpArgs false
set_option linter.unusedVariables false

/-- The greatest of a list. -/
def topL (l : List Sto) : Sto := l.foldl (fun b x => if later x b = true then x else b) sto0
theorem topL_snoc (l : List Sto) (x : Sto) : topL (l ++ [x]) = if later x (topL l) = true then x else topL l := by
  unfold topL; rw [List.foldl_append]; rfl
def addL (st : Nat → List Sto) (a : Nat) (x : Sto) : Nat → List Sto := upd st a (st a ++ [x])
theorem top_add {st : Nat → List Sto} {cp : Nat → Sto} (h : ∀ a, topL (st a) = cp a) (a : Nat) (x : Sto) (b : Nat) : topL (addL st a x b) = rstore cp a x b := by
  unfold addL rstore
  by_cases e : b = a
  · subst e
    rw [upd_same, topL_snoc, h b]
    split
    · rw [upd_same]
    · rfl
  · rw [upd_other e, h b]
    split
    · rw [upd_other e]
    · rfl
theorem len_add {st : Nat → List Sto} {t : Nat} (h : ∀ a, (st a).length ≤ t) (a : Nat) (x : Sto) (b : Nat) : (addL st a x b).length ≤ t + 1 := by
  unfold addL
  by_cases e : b = a
  · subst e; rw [upd_same, List.length_append]; have := h b; show (st b).length + 1 ≤ t + 1; omega
  · rw [upd_other e]; have := h b; omega
structure DRel (t : Nat) (s : RS) (st : Nat → List Sto) (sn : Nat → List Nat) : Prop where
  top : ∀ a, topL (st a) = s.cp a
  len : ∀ a, (st a).length ≤ t
  seen : ∀ i, i < s.k → ∀ a, (s.op i).seen.testBit a = true ↔ a ∈ sn i
  many : ∀ i, i < s.k → (sn i).length = (s.op i).many
theorem DRel.up {t : Nat} {s : RS} {st : Nat → List Sto} {sn : Nat → List Nat} (h : DRel t s st sn) : DRel (t + 1) s st sn := ⟨h.top, fun a => by have := h.len a; omega, h.seen, h.many⟩
theorem drel0 : DRel 0 rs0 (fun _ => []) (fun _ => []) := ⟨fun _ => rfl, fun _ => Nat.le_refl _, fun i hi => absurd hi (Nat.not_lt_zero i), fun i hi => absurd hi (Nat.not_lt_zero i)⟩
theorem drel_begin {t : Nat} {s : RS} {st : Nat → List Sto} {sn : Nat → List Nat} (h : DRel t s st sn) (c : Call) (m : Int) (x : Nat → Option Nat) :
    DRel (t + 1) { s with k := s.k + 1, op := upd s.op s.k (newOp c m), now := x } st (upd sn s.k []) := by
  refine ⟨h.top, h.up.len, fun i hi a => ?_, fun i hi => ?_⟩
  · have hi : i < s.k + 1 := hi
    show (upd s.op s.k (newOp c m) i).seen.testBit a = true ↔ _
    by_cases e : i = s.k
    · subst e; rw [upd_same, upd_same]; show Nat.testBit 0 a = true ↔ _; simp
    · rw [upd_other e, upd_other e]; exact h.seen i (by omega) a
  · have hi : i < s.k + 1 := hi
    show _ = (upd s.op s.k (newOp c m) i).many
    by_cases e : i = s.k
    · subst e; rw [upd_same, upd_same]; rfl
    · rw [upd_other e, upd_other e]; exact h.many i (by omega)
theorem drel_late {t : Nat} {s : RS} {st : Nat → List Sto} {sn : Nat → List Nat} (h : DRel t s st sn) (a : Nat) (x : Sto) : DRel (t + 1) { s with cp := rstore s.cp a x } (addL st a x) sn :=
  ⟨top_add h.top a x, len_add h.len a x, h.seen, h.many⟩
/-- The copies that an op has reached, behind one more. -/
def snR (n : Nat) (o : OpS) (l : List Nat) (a : Nat) : List Nat := if 2 * (o.many + 1) ≤ n ∨ o.second = true then l ++ [a] else []
theorem drel_reach {n t i a : Nat} {s : RS} {st : Nat → List Sto} {sn : Nat → List Nat} (h : DRel t s st sn) (hi : i < s.k) (hs : ¬ (s.op i).seen.testBit a = true) :
    DRel (t + 1) (rreach n i a t s).2 (if (s.op i).second = true then addL st a (s.op i).b else st) (upd sn i (snR n (s.op i) (sn i) a)) := by
  unfold rreach
  rw [if_neg hs]
  have hb : ∀ b, (reach1 a s.cp (s.op i)).seen.testBit b = true ↔ b ∈ sn i ++ [a] := fun b => by
    show ((s.op i).seen ||| 2 ^ a).testBit b = true ↔ _
    rw [Nat.testBit_or, Bool.or_eq_true, h.seen i hi b, Nat.testBit_two_pow, List.mem_append, List.mem_singleton, decide_eq_true_iff]
    exact or_congr Iff.rfl eq_comm
  have hm : (sn i ++ [a]).length = (reach1 a s.cp (s.op i)).many := by
    rw [List.length_append, h.many i hi]; rfl
  have h2 : (∀ b, (reach2 n t (reach1 a s.cp (s.op i))).seen.testBit b = true ↔ b ∈ snR n (s.op i) (sn i) a) ∧ (snR n (s.op i) (sn i) a).length = (reach2 n t (reach1 a s.cp (s.op i))).many := by
    unfold reach2 snR
    have e1 : (reach1 a s.cp (s.op i)).many = (s.op i).many + 1 := rfl
    have e2 : (reach1 a s.cp (s.op i)).second = (s.op i).second := rfl
    by_cases q1 : 2 * ((s.op i).many + 1) ≤ n
    · rw [if_pos (by rw [e1]; exact q1), if_pos (Or.inl q1)]; exact ⟨hb, hm⟩
    · rw [if_neg (by rw [e1]; exact q1)]
      by_cases q2 : (s.op i).second = true
      · rw [if_pos (by rw [e2]; exact q2), if_pos (Or.inr q2)]; exact ⟨hb, hm⟩
      · rw [if_neg (by rw [e2]; exact q2), if_neg (c := 2 * ((s.op i).many + 1) ≤ n ∨ (s.op i).second = true) (fun hh => hh.elim q1 q2)]
        exact ⟨fun b => by show Nat.testBit 0 b = true ↔ _; simp, rfl⟩
  refine ⟨fun b => ?_, fun b => ?_, fun j hj b => ?_, fun j hj => ?_⟩
  · show _ = (if (s.op i).second = true then rstore s.cp a (s.op i).b else s.cp) b
    split
    · exact top_add h.top a _ b
    · exact h.top b
  · split
    · exact len_add h.len a _ b
    · exact h.up.len b
  · show (upd s.op i (reach2 n t (reach1 a s.cp (s.op i))) j).seen.testBit b = true ↔ _
    by_cases e : j = i
    · subst e; rw [upd_same, upd_same]; exact h2.1 b
    · rw [upd_other e, upd_other e]; exact h.seen j hj b
  · show _ = (upd s.op i (reach2 n t (reach1 a s.cp (s.op i))) j).many
    by_cases e : j = i
    · subst e; rw [upd_same, upd_same]; exact h2.2
    · rw [upd_other e, upd_other e]; exact h.many j hj
/-- The search for a client's op. -/
def findO (s : RS) (j : Nat) : Nat → Option Nat
  | 0 => none
  | k + 1 => if (s.op k).who = j ∧ (s.op k).to < 0 then some k else findO s j k
theorem findO_now {n t : Nat} {s : RS} (h : ROK n t s) (j : Nat) : findO s j s.k = s.now j := by
  have key : ∀ m, m ≤ s.k → findO s j m = (match s.now j with | none => none | some i => if i < m then some i else none) := by
    intro m
    induction m with
    | zero => intro _; cases s.now j <;> rfl
    | succ m ih =>
      intro hm
      unfold findO
      have hop := h.op m (by omega)
      split
      · rename_i hc
        have hto : (s.op m).to = -1 := by rcases hop.to with h1 | h1 <;> omega
        have h2 := h.at_ m (by omega) hto
        rw [hc.1, Int.toNat_natCast] at h2
        rw [h2]
        exact (if_pos (Nat.lt_succ_self m)).symm
      · rename_i hc
        rw [ih (by omega)]
        cases hn : s.now j with
        | none => rfl
        | some i =>
          show (if i < m then some i else none) = if i < m + 1 then some i else none
          obtain ⟨h1, h2, h3⟩ := h.now j i hn
          have : i ≠ m := fun e => hc (by subst e; exact ⟨h2, by omega⟩)
          by_cases q : i < m
          · rw [if_pos q, if_pos (by omega)]
          · rw [if_neg q, if_neg (by omega)]
  rw [key s.k (Nat.le_refl _)]
  cases hn : s.now j with
  | none => rfl
  | some i => exact if_pos (h.now j i hn).1
end Go.Proofs.Ytnggjekppdlaoaa
