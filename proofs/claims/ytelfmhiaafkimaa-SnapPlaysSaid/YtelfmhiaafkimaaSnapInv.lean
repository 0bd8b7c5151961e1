/- A picture of what moves: the money stays what it was. No program in sight. -/
import Derived.Test.YtelfmhiaafkimaaSnapPlain
import Derived.Test.YtelfmhiaafkimaaSums
set_option linter.unusedSimpArgs false
set_option linter.unusedVariables false
namespace Go.Proofs.Ytelfmhiaafkimaa
open Go Go.RowKit Go.VC
set_option linter.unusedSimpArgs false
set_option linter.unusedVariables false
def posS : List Int → Int
  | [] => 0
  | x :: l => (if 0 ≤ x then x else 0) + posS l
theorem posS_app : ∀ (l m : List Int), posS (l ++ m) = posS l + posS m
  | [], m => by simp [posS]
  | x :: l, m => by
    show (if 0 ≤ x then x else 0) + posS (l ++ m) = (if 0 ≤ x then x else 0) + posS l + posS m
    rw [posS_app l m]; omega
theorem posS_nonneg : ∀ l : List Int, 0 ≤ posS l
  | [] => Int.le_refl _
  | x :: l => by
    show 0 ≤ (if 0 ≤ x then x else 0) + posS l
    have := posS_nonneg l
    split <;> omega
def totS (n : Nat) (s : SnS) : Int := sumN s.money n + sum2 n fun a b => posS (queL (s.ln a b))
structure SNV (n k : Nat) (s : SnS) : Prop where
  m0 : ∀ i, 0 ≤ s.money i
  o0 : ∀ i, s.own i = -1 ∨ 0 ≤ s.own i
  ob : ∀ i, s.own i ≤ 6000
  lok : ∀ a b, LOK (s.ln a b)
  sn : ∀ a b, ∀ x ∈ (s.ln a b).sent, x = -1 ∨ (1 ≤ x ∧ x ≤ 6000)
  self : ∀ a, (s.ln a a).sent = []
  tot : totS n s ≤ 6000
  len : ∀ a b, (s.ln a b).sent.length ≤ k
theorem sumN_ge {f : Nat → Int} (h : ∀ j, 0 ≤ f j) : ∀ {n i : Nat}, i < n → f i ≤ sumN f n
  | 0, i, hi => absurd hi (Nat.not_lt_zero i)
  | n + 1, i, hi => by
    unfold sumN
    have h0 := sumN_nonneg h n
    have h1 := h n
    by_cases e : i = n
    · subst e; omega
    · have := sumN_ge h (show i < n by omega); omega
theorem SNV.mb {n k : Nat} {s : SnS} (h : SNV n k s) {i : Nat} (hi : i < n) : s.money i ≤ 6000 := by
  have h1 := sumN_ge h.m0 hi
  have h2 : 0 ≤ sum2 n fun a b => posS (queL (s.ln a b)) := sumN_nonneg (fun a => sumN_nonneg (fun b => posS_nonneg _) n) n
  have h3 := h.tot
  unfold totS at h3
  omega
theorem SNV.mono {n k k' : Nat} {s : SnS} (h : SNV n k s) (hk : k ≤ k') : SNV n k' s := ⟨h.m0, h.o0, h.ob, h.lok, h.sn, h.self, h.tot, fun a b => Nat.le_trans (h.len a b) hk⟩
theorem nnote_inv {n k i : Nat} {s : SnS} (h : SNV n k s) (hi : i < n) : SNV n (k + 1) (nnote i s) := by
  unfold nnote
  split
  · exact h.mono (by omega)
  · have hl : ∀ a b, (if b = i then (if a = i then stopS (s.ln a b) else stopS (s.ln a b)) else if a = i then markS (s.ln a b) else s.ln a b) = if b = i then stopS (s.ln a b) else if a = i then markS (s.ln a b) else s.ln a b := fun a b => by
      split
      · split <;> rfl
      · rfl
    refine ⟨h.m0, fun j => ?_, fun j => ?_, fun a b => ?_, fun a b x hx => ?_, fun a => ?_, ?_, fun a b => ?_⟩
    · show upd s.own i (s.money i) j = -1 ∨ 0 ≤ upd s.own i (s.money i) j
      by_cases e : j = i
      · subst e; rw [upd_same]; exact Or.inr (h.m0 j)
      · rw [upd_other e]; exact h.o0 j
    · show upd s.own i (s.money i) j ≤ 6000
      by_cases e : j = i
      · subst e; rw [upd_same]; exact h.mb hi
      · rw [upd_other e]; exact h.ob j
    · show LOK (if b = i then (if a = i then stopS (s.ln a b) else stopS (s.ln a b)) else if a = i then markS (s.ln a b) else s.ln a b)
      rw [hl]
      have h1 := h.lok a b
      split
      · exact ⟨Nat.le_refl _, h1.b⟩
      · split
        · exact ⟨h1.a, by show (s.ln a b).come ≤ ((s.ln a b).sent ++ [-1]).length; rw [List.length_append]; exact Nat.le_trans h1.b (Nat.le_add_right _ _)⟩
        · exact h1
    · have hx : x ∈ (if b = i then (if a = i then stopS (s.ln a b) else stopS (s.ln a b)) else if a = i then markS (s.ln a b) else s.ln a b).sent := hx
      rw [hl] at hx
      split at hx
      · exact h.sn a b x hx
      · split at hx
        · have hx : x ∈ (s.ln a b).sent ++ [-1] := hx
          rcases List.mem_append.1 hx with hx | hx
          · exact h.sn a b x hx
          · exact Or.inl (List.mem_singleton.1 hx)
        · exact h.sn a b x hx
    · show (if a = i then (if a = i then stopS (s.ln a a) else stopS (s.ln a a)) else if a = i then markS (s.ln a a) else s.ln a a).sent = []
      rw [hl]
      split
      · exact h.self a
      · exact h.self a
    · have h3 := h.tot
      unfold totS at h3 ⊢
      rw [sum2_congr (g := fun a b => posS (queL (s.ln a b)))]
      · exact h3
      · intro a b ha hb
        show posS (queL (if b = i then (if a = i then stopS (s.ln a b) else stopS (s.ln a b)) else if a = i then markS (s.ln a b) else s.ln a b)) = _
        rw [hl]
        split
        · rfl
        · split
          · rw [show queL (markS (s.ln a b)) = queL (s.ln a b) ++ [-1] from que_sent (h.lok a b) (-1), posS_app]
            simp [posS]
          · rfl
    · show (if b = i then (if a = i then stopS (s.ln a b) else stopS (s.ln a b)) else if a = i then markS (s.ln a b) else s.ln a b).sent.length ≤ k + 1
      rw [hl]
      have h1 := h.len a b
      split
      · exact Nat.le_succ_of_le h1
      · split
        · show ((s.ln a b).sent ++ [-1]).length ≤ k + 1
          rw [List.length_append]; simpa using h1
        · exact Nat.le_succ_of_le h1
/-- One way's come, and the one's money. -/
def comeS (i j : Nat) (s : SnS) : SnS := { s with ln := fun a b => if a = j ∧ b = i then { s.ln a b with come := (s.ln a b).come + 1 } else s.ln a b }
theorem come_lok {l : Lin} (h : LOK l) (hc : l.come < l.sent.length) : LOK { l with come := l.come + 1 } := ⟨Nat.le_succ_of_le h.a, hc⟩
theorem comeS_inv {n k i j : Nat} {s : SnS} (h : SNV n k s) (hi : i < n) (hj : j < n) (hc : (s.ln j i).come < (s.ln j i).sent.length) :
    SNV n k { comeS i j s with money := upd s.money i (s.money i + (if 0 ≤ (s.ln j i).sent.getD (s.ln j i).come 0 then (s.ln j i).sent.getD (s.ln j i).come 0 else 0)) } := by
  obtain ⟨x, hx⟩ : ∃ x, x = (s.ln j i).sent.getD (s.ln j i).come 0 := ⟨_, rfl⟩
  rw [← hx]
  refine ⟨fun a => ?_, h.o0, h.ob, fun a b => ?_, fun a b y hy => ?_, fun a => ?_, ?_, fun a b => ?_⟩
  · show 0 ≤ upd s.money i _ a
    have h1 := h.m0 a
    by_cases e : a = i
    · subst e; rw [upd_same]; split <;> omega
    · rw [upd_other e]; exact h1
  · show LOK (if a = j ∧ b = i then { s.ln a b with come := (s.ln a b).come + 1 } else s.ln a b)
    split
    · rename_i hh; obtain ⟨rfl, rfl⟩ := hh; exact come_lok (h.lok _ _) hc
    · exact h.lok a b
  · have hy : y ∈ (if a = j ∧ b = i then { s.ln a b with come := (s.ln a b).come + 1 } else s.ln a b).sent := hy
    split at hy <;> exact h.sn a b y hy
  · show (if a = j ∧ a = i then { s.ln a a with come := (s.ln a a).come + 1 } else s.ln a a).sent = []
    split <;> exact h.self a
  · have h3 := h.tot
    unfold totS at h3 ⊢
    have e1 : sumN (upd s.money i (s.money i + (if 0 ≤ x then x else 0))) n = sumN s.money n + if i < n then (if 0 ≤ x then x else 0) else 0 := sumN_add (j := 0) (fun y => by
      by_cases e : y = i
      · subst e; rw [upd_same, if_pos rfl]
      · rw [upd_other e, if_neg e, Int.add_zero])
    have e2 : (sum2 n fun a b => posS (queL (if a = j ∧ b = i then { s.ln a b with come := (s.ln a b).come + 1 } else s.ln a b))) = (sum2 n fun a b => posS (queL (s.ln a b))) + -(if 0 ≤ x then x else 0) := sum2_turn hj hi (fun a b => by
      by_cases e : a = j ∧ b = i
      · obtain ⟨rfl, rfl⟩ := e
        rw [if_pos ⟨rfl, rfl⟩, if_pos ⟨rfl, rfl⟩, que_come hc, ← hx]
        show posS (queL { s.ln a b with come := (s.ln a b).come + 1 }) = ((if 0 ≤ x then x else 0) + posS (queL { s.ln a b with come := (s.ln a b).come + 1 })) + _
        generalize posS (queL { s.ln a b with come := (s.ln a b).come + 1 }) = z
        omega
      · rw [if_neg e, if_neg e, Int.add_zero])
    rw [if_pos hi] at e1
    show sumN (upd s.money i (s.money i + (if 0 ≤ x then x else 0))) n + (sum2 n fun a b => posS (queL (if a = j ∧ b = i then { s.ln a b with come := (s.ln a b).come + 1 } else s.ln a b))) ≤ 6000
    rw [e1, e2]; omega
  · show (if a = j ∧ b = i then { s.ln a b with come := (s.ln a b).come + 1 } else s.ln a b).sent.length ≤ k
    split <;> exact h.len a b
theorem ntake_inv {n k i j : Nat} {s : SnS} (h : SNV n k s) (hi : i < n) (hj : j < n) : SNV n (k + 1) (ntake i j s).2 := by
  unfold ntake
  split
  · exact h.mono (by omega)
  · rename_i hne
    have hc : (s.ln j i).come < (s.ln j i).sent.length := by have := (h.lok j i).b; omega
    have h1 := comeS_inv h hi hj hc
    split
    · rename_i hx
      rw [if_neg (by omega), Int.add_zero, upd_self] at h1
      exact nnote_inv (s := comeS i j s) h1 hi
    · rename_i hx
      rw [if_pos (by omega)] at h1
      exact h1.mono (by omega)
theorem nstep_inv {n k : Nat} {c : PassC} {s : SnS} (h : SNV n k s) : SNV n (k + 1) (nstep n c s).2 := by
  unfold nstep
  split
  · exact h.mono (by omega)
  split
  · exact h.mono (by omega)
  split
  · split
    · exact h.mono (by omega)
    · exact nnote_inv h (by omega)
  split
  · exact h.mono (by omega)
  split
  · exact ntake_inv h (by omega) (by omega)
  split
  · exact h.mono (by omega)
  · rename_i q1 q2 q3 q4 q5 q6
    have hw : c.who.toNat < n := by omega
    have ho : c.other.toNat < n := by omega
    have hne : c.who.toNat ≠ c.other.toNat := by omega
    have hmb := h.mb hw
    refine ⟨fun a => ?_, h.o0, h.ob, fun a b => ?_, fun a b y hy => ?_, fun a => ?_, ?_, fun a b => ?_⟩
    · show 0 ≤ upd s.money c.who.toNat _ a
      have h1 := h.m0 a
      by_cases e : a = c.who.toNat
      · rw [e, upd_same]; omega
      · rw [upd_other e]; exact h1
    · show LOK (if a = c.who.toNat ∧ b = c.other.toNat then { s.ln a b with sent := (s.ln a b).sent ++ [c.n] } else s.ln a b)
      have h1 := h.lok a b
      split
      · exact ⟨h1.a, by show (s.ln a b).come ≤ ((s.ln a b).sent ++ [c.n]).length; rw [List.length_append]; exact Nat.le_trans h1.b (Nat.le_add_right _ _)⟩
      · exact h1
    · have hy : y ∈ (if a = c.who.toNat ∧ b = c.other.toNat then { s.ln a b with sent := (s.ln a b).sent ++ [c.n] } else s.ln a b).sent := hy
      split at hy
      · have hy : y ∈ (s.ln a b).sent ++ [c.n] := hy
        rcases List.mem_append.1 hy with hy | hy
        · exact h.sn a b y hy
        · rw [List.mem_singleton.1 hy]; exact Or.inr ⟨by omega, by omega⟩
      · exact h.sn a b y hy
    · show (if a = c.who.toNat ∧ a = c.other.toNat then { s.ln a a with sent := (s.ln a a).sent ++ [c.n] } else s.ln a a).sent = []
      rw [if_neg (fun hh => hne (hh.1.symm.trans hh.2))]
      exact h.self a
    · have h3 := h.tot
      unfold totS at h3 ⊢
      have e1 : sumN (upd s.money c.who.toNat (s.money c.who.toNat - c.n)) n = sumN s.money n + if c.who.toNat < n then -c.n else 0 := sumN_add (j := 0) (fun y => by
        by_cases e : y = c.who.toNat
        · rw [e, upd_same, if_pos rfl]; omega
        · rw [upd_other e, if_neg e, Int.add_zero])
      have e2 : (sum2 n fun a b => posS (queL (if a = c.who.toNat ∧ b = c.other.toNat then { s.ln a b with sent := (s.ln a b).sent ++ [c.n] } else s.ln a b))) = (sum2 n fun a b => posS (queL (s.ln a b))) + c.n := sum2_turn hw ho (fun a b => by
        by_cases e : a = c.who.toNat ∧ b = c.other.toNat
        · rw [if_pos e, if_pos e, que_sent (h.lok a b), posS_app]
          simp only [posS, Int.add_zero]
          rw [if_pos (show 0 ≤ c.n by omega)]
        · rw [if_neg e, if_neg e, Int.add_zero])
      rw [if_pos hw] at e1
      show sumN (upd s.money c.who.toNat (s.money c.who.toNat - c.n)) n + (sum2 n fun a b => posS (queL (if a = c.who.toNat ∧ b = c.other.toNat then { s.ln a b with sent := (s.ln a b).sent ++ [c.n] } else s.ln a b))) ≤ 6000
      rw [e1, e2]; omega
    · show (if a = c.who.toNat ∧ b = c.other.toNat then { s.ln a b with sent := (s.ln a b).sent ++ [c.n] } else s.ln a b).sent.length ≤ k + 1
      have h1 := h.len a b
      split
      · show ((s.ln a b).sent ++ [c.n]).length ≤ k + 1
        rw [List.length_append]; simpa using h1
      · exact Nat.le_succ_of_le h1
/-- The state behind the first k steps. -/
def nst (n : Nat) (m : Nat → Int) (g : Nat → PassC) : Nat → SnS
  | 0 => sn0 m
  | k + 1 => (nstep n (g k) (nst n m g k)).2
def ncode (n : Nat) (m : Nat → Int) (g : Nat → PassC) (k : Nat) : Int := (nstep n (g k) (nst n m g k)).1
theorem sumN_zero : ∀ n : Nat, sumN (fun _ => 0) n = 0
  | 0 => rfl
  | n + 1 => by unfold sumN; rw [sumN_zero n]; rfl
theorem sn0_inv {n : Nat} {m : Nat → Int} (hn : n ≤ 6) (h : ∀ i, 0 ≤ m i ∧ m i ≤ 1000) : SNV n 0 (sn0 m) := by
  refine ⟨fun i => (h i).1, fun i => Or.inl rfl, fun i => (by show (-1 : Int) ≤ 6000; omega), fun a b => ⟨Nat.le_refl _, Nat.le_refl _⟩, fun a b x hx => (by cases hx), fun a => rfl, ?_, fun a b => Nat.le_refl _⟩
  unfold totS
  have h1 : sumN m n ≤ n * 1000 := sumN_le (fun j => (h j).2) n
  have h2 : (sum2 n fun a b => posS (queL ((sn0 m).ln a b))) = 0 := by
    have : (fun a b => posS (queL ((sn0 m).ln a b))) = fun _ _ => 0 := by funext a b; rfl
    rw [this]
    show sumN (fun i => sumN (fun _ => 0) n) n = 0
    rw [sumN_zero n, sumN_zero n]
  rw [h2]
  show sumN m n + 0 ≤ 6000
  omega
theorem nst_inv {n : Nat} {m : Nat → Int} {g : Nat → PassC} (hn : n ≤ 6) (h : ∀ i, 0 ≤ m i ∧ m i ≤ 1000) : ∀ k, SNV n k (nst n m g k)
  | 0 => sn0_inv hn h
  | k + 1 => nstep_inv (nst_inv hn h k)
end Go.Proofs.Ytelfmhiaafkimaa
