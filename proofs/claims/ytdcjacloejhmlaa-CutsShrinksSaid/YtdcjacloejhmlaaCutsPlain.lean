/- Events by process; ranks; cuts. Plain. -/
import Derived.Test.YtdcjacloejhmlaaClocks1
namespace Go.Proofs.Ytdcjacloejhmlaa
open Go Go.RowKit Go.VC
set_option linter.unusedSimpArgs false
set_option linter.unusedVariables false

section
variable (K W O : Nat → Int)
/-- The places of a process's events, ahead of i. -/
def evL (i p : Nat) : List Nat := (List.range i).filter fun x => decide (W x = p)
/-- How many events of its process stand up to one. -/
def rk (i : Nat) : Nat := (evL W (i + 1) (W i).toNat).length
/-- Takes what was not sent in the cut. -/
def badC (c : Nat → Int) (i : Nat) : Prop := K i = 3 ∧ (rk W i : Int) ≤ c (W i).toNat ∧ c (W (O i).toNat).toNat < rk W (O i).toNat
end
variable {K W O : Nat → Int}
theorem evL_zero {p : Nat} : evL W 0 p = [] := rfl
theorem evL_hit {i p : Nat} (h : W i = p) : evL W (i + 1) p = evL W i p ++ [i] := by
  unfold evL; rw [List.range_succ, List.filter_append, List.filter_cons_of_pos (by simpa using h)]; rfl
theorem evL_miss {i p : Nat} (h : W i ≠ p) : evL W (i + 1) p = evL W i p := by
  unfold evL; rw [List.range_succ, List.filter_append, List.filter_cons_of_neg (by simpa using h), List.filter_nil, List.append_nil]
theorem evL_le {i p : Nat} : (evL W i p).length ≤ i := by
  have := List.length_filter_le (fun x => decide (W x = p)) (List.range i)
  rwa [List.length_range] at this
theorem evL_pre {i : Nat} {p : Nat} : ∀ n, i ≤ n → ∃ t, evL W n p = evL W i p ++ t
  | 0, h => by obtain rfl : i = 0 := by omega
               exact ⟨[], by simp⟩
  | n + 1, h => by
    by_cases hi : i = n + 1
    · subst hi; exact ⟨[], by simp⟩
    · obtain ⟨t, ht⟩ := evL_pre n (show i ≤ n by omega)
      by_cases hw : W n = p
      · exact ⟨t ++ [n], by rw [evL_hit hw, ht, List.append_assoc]⟩
      · exact ⟨t, by rw [evL_miss hw, ht]⟩
/-- Where an event stands among those of its process. -/
theorem evL_get {i n p : Nat} (hi : i < n) (hp : W i = p) : (evL W n p)[(evL W i p).length]? = some i := by
  obtain ⟨t, ht⟩ := evL_pre (W := W) (p := p) n (show i + 1 ≤ n by omega)
  rw [ht, evL_hit hp, List.append_assoc, List.getElem?_append_right (Nat.le_refl _), Nat.sub_self]; rfl
theorem rk_eq {i p : Nat} (hp : W i = p) : rk W i = (evL W i p).length + 1 := by
  unfold rk; rw [hp, Int.toNat_natCast, evL_hit hp, List.length_append]; rfl
theorem evL_mem {n p x : Nat} : x ∈ evL W n p ↔ x < n ∧ W x = p := by
  unfold evL; rw [List.mem_filter, List.mem_range, decide_eq_true_eq]
theorem evL_sorted (n p : Nat) : (evL W n p).Pairwise (· < ·) := by
  unfold evL
  exact List.Pairwise.filter _ (List.pairwise_lt_range)
/-- The k-th event of a process has rank k + 1. -/
theorem evL_rank {n p k : Nat} (hk : k < (evL W n p).length) : ∃ x, (evL W n p)[k]? = some x ∧ x < n ∧ W x = p ∧ rk W x = k + 1 := by
  obtain ⟨x, hx⟩ : ∃ x, (evL W n p)[k]? = some x := ⟨_, List.getElem?_eq_getElem hk⟩
  have hm := evL_mem.1 (List.mem_of_getElem? hx)
  refine ⟨x, hx, hm.1, hm.2, ?_⟩
  rw [rk_eq hm.2]
  have h2 := evL_get hm.1 hm.2
  congr 1
  have hn : (evL W n p).Nodup := (evL_sorted n p).imp fun h => Nat.ne_of_lt h
  have hl : (evL W x p).length < (evL W n p).length := by
    rcases Nat.lt_or_ge (evL W x p).length (evL W n p).length with h | h
    · exact h
    · rw [List.getElem?_eq_none h] at h2; cases h2
  rw [List.getElem?_eq_getElem hl] at h2
  rw [List.getElem?_eq_getElem hk] at hx
  have := (Option.some.inj h2).trans (Option.some.inj hx).symm
  exact (List.getElem_inj hn).1 this
end Go.Proofs.Ytdcjacloejhmlaa
