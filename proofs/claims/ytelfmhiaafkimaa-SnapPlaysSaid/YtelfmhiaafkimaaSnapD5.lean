/- A picture of what moves, the document's: the plain law of its step; all as at first. -/
import Derived.Test.YtelfmhiaafkimaaSnapD4
namespace Go.Proofs.Ytelfmhiaafkimaa
open Go Go.RowKit Go.VC
set_option linter.unusedSimpArgs false
set_option linter.unusedVariables false
theorem DEq.trans {n : Nat} {p q r : DP} (h : DEq n p q) (k : DEq n q r) : DEq n p r := ⟨h.money.trans k.money, h.own.trans k.own, fun t ht => (h.lt t ht).trans (k.lt t ht)⟩
theorem DEq.refl (n : Nat) (p : DP) : DEq n p p := ⟨rfl, rfl, fun _ _ => rfl⟩
theorem DEq.note {n i : Nat} {p p' : DP} (h : DEq n p p') : DEq n (dnote n i p) (dnote n i p') := by
  unfold dnote
  rw [h.own]
  split
  · exact h
  · refine ⟨h.money, by show upd p'.own i (p.money i) = upd p'.own i (p'.money i); rw [h.money], fun t ht => ?_⟩
    show (if t % n = i then stopS (p.lt t) else if t / n = i then markS (p.lt t) else p.lt t) = if t % n = i then stopS (p'.lt t) else if t / n = i then markS (p'.lt t) else p'.lt t
    rw [h.lt t ht]
theorem dnote_rel {n i : Nat} {s : SnS} : DEq n (dnote n i (dOf n s)) (dOf n (nnote i s)) := by
  unfold dnote nnote
  show DEq n (if 0 ≤ s.own i then _ else _) _
  by_cases ho : 0 ≤ s.own i
  · rw [if_pos ho, if_pos ho]; exact DEq.refl _ _
  · rw [if_neg ho, if_neg ho]
    refine ⟨rfl, rfl, fun t ht => ?_⟩
    show (if t % n = i then stopS (s.ln (t / n) (t % n)) else if t / n = i then markS (s.ln (t / n) (t % n)) else s.ln (t / n) (t % n)) = if t % n = i then (if t / n = i then stopS (s.ln (t / n) (t % n)) else stopS (s.ln (t / n) (t % n))) else if t / n = i then markS (s.ln (t / n) (t % n)) else s.ln (t / n) (t % n)
    by_cases h1 : t % n = i
    · rw [if_pos h1, if_pos h1]; split <;> rfl
    · rw [if_neg h1, if_neg h1]
theorem dpass_rel {n : Nat} {s : SnS} {c : PassC} : (dpass n c (dOf n s)).1 = (nstep n c s).1 ∧ DEq n (dpass n c (dOf n s)).2 (dOf n (nstep n c s).2) := by
  unfold dpass nstep
  by_cases q0 : c.kind < 1 ∨ 3 < c.kind
  · rw [if_pos q0, if_pos q0]; exact ⟨rfl, DEq.refl _ _⟩
  rw [if_neg q0, if_neg q0]
  by_cases q1 : c.who < 0 ∨ n ≤ c.who
  · rw [if_pos q1, if_pos q1]; exact ⟨rfl, DEq.refl _ _⟩
  rw [if_neg q1, if_neg q1]
  have hw : c.who.toNat < n := by omega
  by_cases q2 : c.kind = 3
  · rw [if_pos q2, if_pos q2]
    by_cases ho : 0 ≤ s.own c.who.toNat
    · rw [if_pos ho, if_pos (show 0 ≤ (dOf n s).own c.who.toNat from ho)]; exact ⟨rfl, DEq.refl _ _⟩
    · rw [if_neg ho, if_neg (show ¬ 0 ≤ (dOf n s).own c.who.toNat from ho)]; exact ⟨rfl, dnote_rel⟩
  rw [if_neg q2, if_neg q2]
  by_cases q3 : (c.other < 0 ∨ n ≤ c.other) ∨ c.other = c.who
  · rw [if_pos q3, if_pos q3]; exact ⟨rfl, DEq.refl _ _⟩
  rw [if_neg q3, if_neg q3]
  have ho : c.other.toNat < n := by omega
  obtain ⟨i, hi⟩ : ∃ i, i = c.who.toNat := ⟨_, rfl⟩
  obtain ⟨j, hj⟩ : ∃ j, j = c.other.toNat := ⟨_, rfl⟩
  rw [← hi] at hw ⊢
  rw [← hj] at ho ⊢
  by_cases q4 : c.kind = 2
  · rw [if_pos q4, if_pos q4]
    have hlt : (dOf n s).lt (j * n + i) = s.ln j i := by show s.ln ((j * n + i) / n) ((j * n + i) % n) = _; rw [(idx_div hw).1, (idx_div hw).2]
    unfold ntake
    rw [hlt]
    have hlu : ∀ t, t < n * n → upd (dOf n s).lt (j * n + i) { s.ln j i with come := (s.ln j i).come + 1 } t = if t / n = j ∧ t % n = i then { s.ln (t / n) (t % n) with come := (s.ln (t / n) (t % n)).come + 1 } else s.ln (t / n) (t % n) := fun t ht => by
      by_cases e : t = j * n + i
      · rw [e, upd_same, (idx_div hw).1, (idx_div hw).2, if_pos ⟨rfl, rfl⟩]
      · rw [upd_other e, if_neg (fun hh => e ((tdiv ho hw t).2 hh))]; rfl
    by_cases hc : (s.ln j i).come = (s.ln j i).sent.length
    · rw [if_pos hc, if_pos hc]; exact ⟨rfl, DEq.refl _ _⟩
    rw [if_neg hc, if_neg hc]
    by_cases hx : (s.ln j i).sent.getD (s.ln j i).come 0 < 0
    · rw [if_pos hx, if_pos hx]
      have h1 : DEq n { (dOf n s) with lt := upd (dOf n s).lt (j * n + i) { s.ln j i with come := (s.ln j i).come + 1 } } (dOf n (comeS i j s)) := ⟨rfl, rfl, hlu⟩
      exact ⟨rfl, (h1.note (i := i)).trans dnote_rel⟩
    · rw [if_neg hx, if_neg hx]
      exact ⟨rfl, rfl, rfl, hlu⟩
  rw [if_neg q4, if_neg q4]
  by_cases q5 : c.n < 1 ∨ s.money i < c.n
  · rw [if_pos q5, if_pos (show c.n < 1 ∨ (dOf n s).money i < c.n from q5)]; exact ⟨rfl, DEq.refl _ _⟩
  rw [if_neg q5, if_neg (show ¬ (c.n < 1 ∨ (dOf n s).money i < c.n) from q5)]
  refine ⟨rfl, rfl, rfl, fun t ht => ?_⟩
  have hlt : (dOf n s).lt (i * n + j) = s.ln i j := by show s.ln ((i * n + j) / n) ((i * n + j) % n) = _; rw [(idx_div ho).1, (idx_div ho).2]
  show upd (dOf n s).lt (i * n + j) _ t = if t / n = i ∧ t % n = j then { s.ln (t / n) (t % n) with sent := (s.ln (t / n) (t % n)).sent ++ [c.n] } else s.ln (t / n) (t % n)
  rw [hlt]
  by_cases e : t = i * n + j
  · rw [e, upd_same, (idx_div ho).1, (idx_div ho).2, if_pos ⟨rfl, rfl⟩]
  · rw [upd_other e, if_neg (fun hh => e ((tdiv hw ho t).2 hh))]; rfl
theorem SNV.db {n k : Nat} {s : SnS} (h : SNV n k s) (hk : k ≤ 120) : DB n (dOf n s) := by
  refine ⟨fun t => ?_, fun t => (h.lok (t / n) (t % n)).b, fun i hi => ⟨h.m0 i, h.mb hi⟩, fun t x hx => ?_⟩
  · have := h.len (t / n) (t % n)
    show (s.ln (t / n) (t % n)).sent.length ≤ 5000
    omega
  · have := h.sn (t / n) (t % n) x hx
    omega
theorem lin_made {w w' : World} {B n g : Nat} (hB : Below w.heap.size w w') (hg : g = w.heap.size) (ho : OwnK w' 0 162 3 (n * n) (.slice (some ⟨g, 0, none⟩) (n * n) (n * n)) (madeCells [nilS, iV 0, iV 0].toArray (n * n * 3)).toList) (hl : g < w'.heap.size) :
    Recs w' g (n * n) 3 (linL (fun _ => lin0) fun _ => nilS) := by
  refine ⟨hl, fun i hi j hj => ?_⟩
  obtain ⟨h1, h2⟩ := ho.at (j := i * 3 + j) (by omega)
  refine ⟨h1.trans ?_, h2⟩
  have h := made_at [nilS, iV 0, iV 0].toArray (n := n * n) (K := 3) (i := i) (j := j) rfl hi hj
  rw [h]
  rfl
end Go.Proofs.Ytelfmhiaafkimaa
