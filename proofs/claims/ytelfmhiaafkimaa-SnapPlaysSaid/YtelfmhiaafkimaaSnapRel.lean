/- A picture of what moves: what the program keeps is what the document's state tells. -/
import Derived.Test.YtelfmhiaafkimaaSnap4
namespace Go.Proofs.Ytelfmhiaafkimaa
open Go Go.RowKit Go.VC
set_option linter.unusedSimpArgs false
set_option linter.unusedVariables false
def pOf (n : Nat) (s : SnS) : NP := ⟨s.money, s.own, fun t => queL (s.ln (t / n) (t % n)), fun t => notedL (s.own (t % n)) (s.ln (t / n) (t % n)), fun t => closB (s.ln (t / n) (t % n))⟩
structure NEq (n : Nat) (p p' : NP) : Prop where
  money : p.money = p'.money
  own : p.own = p'.own
  que : ∀ t, t < n * n → p.que t = p'.que t
  nts : ∀ t, t < n * n → p.nts t = p'.nts t
  clo : ∀ t, t < n * n → p.clo t = p'.clo t
theorem NEq.trans {n : Nat} {p q r : NP} (h : NEq n p q) (k : NEq n q r) : NEq n p r := ⟨h.money.trans k.money, h.own.trans k.own, fun t ht => (h.que t ht).trans (k.que t ht), fun t ht => (h.nts t ht).trans (k.nts t ht), fun t ht => (h.clo t ht).trans (k.clo t ht)⟩
theorem NEq.refl (n : Nat) (p : NP) : NEq n p p := ⟨rfl, rfl, fun _ _ => rfl, fun _ _ => rfl, fun _ _ => rfl⟩
theorem NEq.obs {n : Nat} {p p' : NP} (h : NEq n p p') (a : NA) (v : NV) : NObs n a p v = NObs n a p' v := by
  unfold NObs
  rw [fam_congr (F := queF p v) (G := queF p' v) fun t ht => by unfold queF; rw [h.que t ht], fam_congr (F := notF p v) (G := notF p' v) fun t ht => by unfold notF; rw [h.nts t ht], fam_congr (F := wayF n a p v) (G := wayF n a p' v) fun t ht => wayF_congr rfl rfl (h.clo t ht)]
  obtain ⟨m, o, q, nt, c⟩ := p
  obtain ⟨m', o', q', nt', c'⟩ := p'
  have h1 := h.money
  have h2 := h.own
  simp only at h1 h2
  subst h1; subst h2
  rfl
theorem NEq.note {n i : Nat} {p p' : NP} (h : NEq n p p') : NEq n (pnote n i p) (pnote n i p') := by
  unfold pnote
  rw [h.own]
  split
  · refine ⟨h.money, by show upd p'.own i (p.money i) = upd p'.own i (p'.money i); rw [h.money], fun t ht => ?_, h.nts, h.clo⟩
    show (if t / n = i ∧ t % n ≠ i then p.que t ++ [-1] else p.que t) = if t / n = i ∧ t % n ≠ i then p'.que t ++ [-1] else p'.que t
    rw [h.que t ht]
  · exact h
theorem note_rel {n k i : Nat} {s : SnS} (h : SNV n k s) : NEq n (pnote n i (pOf n s)) (pOf n (nnote i s)) := by
  have h0 := h.o0 i
  unfold pnote nnote
  show NEq n (if s.own i = -1 then _ else _) _
  by_cases ho : 0 ≤ s.own i
  · rw [if_neg (by omega), if_pos ho]; exact NEq.refl _ _
  · have ho1 : s.own i = -1 := by omega
    rw [if_pos ho1, if_neg ho]
    refine ⟨rfl, rfl, fun t ht => ?_, fun t ht => ?_, fun t ht => ?_⟩
    · show (if t / n = i ∧ t % n ≠ i then queL (s.ln (t / n) (t % n)) ++ [-1] else queL (s.ln (t / n) (t % n))) = queL (if t % n = i then (if t / n = i then stopS (s.ln (t / n) (t % n)) else stopS (s.ln (t / n) (t % n))) else if t / n = i then markS (s.ln (t / n) (t % n)) else s.ln (t / n) (t % n))
      by_cases h1 : t % n = i
      · rw [if_neg (fun hh => hh.2 h1), if_pos h1]; split <;> rfl
      · rw [if_neg h1]
        by_cases h2 : t / n = i
        · rw [if_pos ⟨h2, h1⟩, if_pos h2]; exact (que_sent (h.lok _ _) (-1)).symm
        · rw [if_neg (fun hh => h2 hh.1), if_neg h2]
    · show notedL (s.own (t % n)) (s.ln (t / n) (t % n)) = notedL (upd s.own i (s.money i) (t % n)) (if t % n = i then (if t / n = i then stopS (s.ln (t / n) (t % n)) else stopS (s.ln (t / n) (t % n))) else if t / n = i then markS (s.ln (t / n) (t % n)) else s.ln (t / n) (t % n))
      by_cases h1 : t % n = i
      · rw [if_pos h1, h1, upd_same]
        have e1 : notedL (s.own i) (s.ln (t / n) i) = [] := by unfold notedL; rw [if_neg ho]
        have e2 : (if t / n = i then stopS (s.ln (t / n) i) else stopS (s.ln (t / n) i)) = stopS (s.ln (t / n) i) := by split <;> rfl
        rw [e1, e2]
        unfold notedL
        rw [if_pos (h.m0 i), betw_stop (h.lok _ _)]
      · rw [if_neg h1, upd_other h1]
        by_cases h2 : t / n = i
        · rw [if_pos h2]
          unfold notedL
          rw [show betwL (markS (s.ln (t / n) (t % n))) = betwL (s.ln (t / n) (t % n)) from betw_sent (h.lok _ _) (-1)]
        · rw [if_neg h2]
    · show closB (s.ln (t / n) (t % n)) = closB (if t % n = i then (if t / n = i then stopS (s.ln (t / n) (t % n)) else stopS (s.ln (t / n) (t % n))) else if t / n = i then markS (s.ln (t / n) (t % n)) else s.ln (t / n) (t % n))
      by_cases h1 : t % n = i
      · rw [if_pos h1]; split <;> rfl
      · rw [if_neg h1]
        by_cases h2 : t / n = i
        · rw [if_pos h2]; exact (clos_sent (h.lok _ _) (-1)).symm
        · rw [if_neg h2]
theorem pnote_put {n i : Nat} {p : NP} {c : Nat → Bool} : pnote n i { p with clo := c } = { pnote n i p with clo := c } := by
  unfold pnote
  show (if p.own i = -1 then _ else _) = _
  split <;> rfl
theorem take_rel {n k i j : Nat} {s : SnS} (h : SNV n k s) (hi : i < n) (hj : j < n) : (ptake n i j (pOf n s)).1 = (ntake i j s).1 ∧ NEq n (ptake n i j (pOf n s)).2 (pOf n (ntake i j s).2) := by
  have hl := h.lok j i
  have hque : (pOf n s).que (j * n + i) = queL (s.ln j i) := by show queL (s.ln ((j * n + i) / n) ((j * n + i) % n)) = _; rw [(idx_div hi).1, (idx_div hi).2]
  have hclo : (pOf n s).clo (j * n + i) = closB (s.ln j i) := by show closB (s.ln ((j * n + i) / n) ((j * n + i) % n)) = _; rw [(idx_div hi).1, (idx_div hi).2]
  have hnts : (pOf n s).nts (j * n + i) = notedL (s.own i) (s.ln j i) := by show notedL (s.own ((j * n + i) % n)) (s.ln ((j * n + i) / n) ((j * n + i) % n)) = _; rw [(idx_div hi).1, (idx_div hi).2]
  unfold ptake ntake
  rw [hque]
  by_cases hc : (s.ln j i).come = (s.ln j i).sent.length
  · have : queL (s.ln j i) = [] := by unfold queL; rw [hc]; exact List.drop_length
    rw [this, if_pos hc]
    exact ⟨rfl, NEq.refl _ _⟩
  have hc' : (s.ln j i).come < (s.ln j i).sent.length := by have := hl.b; omega
  obtain ⟨x, hx⟩ : ∃ x, x = (s.ln j i).sent.getD (s.ln j i).come 0 := ⟨_, rfl⟩
  have hxm : x ∈ (s.ln j i).sent := by rw [hx, List.getD_eq_getElem?_getD, List.getElem?_eq_getElem hc']; exact List.getElem_mem hc'
  have hxs := h.sn j i x hxm
  rw [que_come hc', if_neg hc, ← hx]
  have hq1 : ∀ t, t < n * n → upd (pOf n s).que (j * n + i) (queL { s.ln j i with come := (s.ln j i).come + 1 }) t = queL (if t / n = j ∧ t % n = i then { s.ln (t / n) (t % n) with come := (s.ln (t / n) (t % n)).come + 1 } else s.ln (t / n) (t % n)) := fun t ht => by
    by_cases e : t = j * n + i
    · rw [e, upd_same, (idx_div hi).1, (idx_div hi).2, if_pos ⟨rfl, rfl⟩]
    · rw [upd_other e, if_neg (fun hh => e ((tdiv hj hi t).2 hh))]; rfl
  by_cases hx0 : x < 0
  · have hx1 : x = -1 := by omega
    simp only
    rw [if_pos hx1, if_pos hx0]
    refine ⟨rfl, ?_⟩
    have hinv := comeS_inv h hi hj hc'
    rw [← hx, if_neg (by omega), Int.add_zero, upd_self] at hinv
    have hn := note_rel (i := i) hinv
    have h1 : NEq n { (pOf n s) with que := upd (pOf n s).que (j * n + i) (queL { s.ln j i with come := (s.ln j i).come + 1 }), clo := upd (pOf n s).clo (j * n + i) true } (pOf n (comeS i j s)) := by
      refine ⟨rfl, rfl, hq1, fun t ht => ?_, fun t ht => ?_⟩
      · show notedL (s.own (t % n)) (s.ln (t / n) (t % n)) = notedL (s.own (t % n)) (if t / n = j ∧ t % n = i then { s.ln (t / n) (t % n) with come := (s.ln (t / n) (t % n)).come + 1 } else s.ln (t / n) (t % n))
        by_cases e : t / n = j ∧ t % n = i
        · rw [if_pos e, e.1, e.2]
          unfold notedL
          rw [betw_mark hc' (by rw [← hx]; exact hx0)]
        · rw [if_neg e]
      · show upd (pOf n s).clo (j * n + i) true t = closB (if t / n = j ∧ t % n = i then { s.ln (t / n) (t % n) with come := (s.ln (t / n) (t % n)).come + 1 } else s.ln (t / n) (t % n))
        by_cases e : t = j * n + i
        · rw [e, upd_same, (idx_div hi).1, (idx_div hi).2, if_pos ⟨rfl, rfl⟩, clos_come hc', ← hx, decide_eq_true hx0, Bool.or_true]
        · rw [upd_other e, if_neg (fun hh => e ((tdiv hj hi t).2 hh))]; rfl
    have h2 := (h1.note (i := i)).trans hn
    have e3 := pnote_put (n := n) (i := i) (p := { (pOf n s) with que := upd (pOf n s).que (j * n + i) (queL { s.ln j i with come := (s.ln j i).come + 1 }) }) (c := upd (pOf n s).clo (j * n + i) true)
    rw [← e3]
    exact h2
  · have hx1 : ¬ x = -1 := by omega
    simp only
    rw [if_neg hx1, if_neg hx0]
    refine ⟨rfl, rfl, rfl, hq1, fun t ht => ?_, fun t ht => ?_⟩
    · show (if s.own i = -1 ∨ (pOf n s).clo (j * n + i) = true then (pOf n s).nts else upd (pOf n s).nts (j * n + i) ((pOf n s).nts (j * n + i) ++ [x])) t = notedL (s.own (t % n)) (if t / n = j ∧ t % n = i then { s.ln (t / n) (t % n) with come := (s.ln (t / n) (t % n)).come + 1 } else s.ln (t / n) (t % n))
      rw [hclo, hnts]
      have hbc := betw_come hl hc' (by rw [← hx]; omega)
      rw [← hx] at hbc
      have h0 := h.o0 i
      by_cases e : t = j * n + i
      · rw [e, (idx_div hi).1, (idx_div hi).2, if_pos (⟨rfl, rfl⟩ : j = j ∧ i = i)]
        by_cases ho : s.own i = -1
        · rw [if_pos (Or.inl ho), hnts]
          unfold notedL
          rw [if_neg (by omega), if_neg (by omega)]
        · cases hcl : closB (s.ln j i) with
          | true =>
            rw [if_pos (Or.inr rfl), hnts]
            unfold notedL
            rw [if_pos (show 0 ≤ s.own i by omega), if_pos (show 0 ≤ s.own i by omega), hbc, if_neg (fun h2 => by rw [hcl] at h2; cases h2)]
          | false =>
            rw [if_neg (fun hh => hh.elim ho (fun h2 => by cases h2)), upd_same]
            unfold notedL
            rw [hbc, if_pos hcl, if_pos (by omega), if_pos (by omega)]
      · rw [if_neg (fun hh => e ((tdiv hj hi t).2 hh))]
        split
        · rfl
        · rw [upd_other e]; rfl
    · show closB (s.ln (t / n) (t % n)) = closB (if t / n = j ∧ t % n = i then { s.ln (t / n) (t % n) with come := (s.ln (t / n) (t % n)).come + 1 } else s.ln (t / n) (t % n))
      by_cases e : t / n = j ∧ t % n = i
      · rw [if_pos e, e.1, e.2, clos_come hc', ← hx, decide_eq_false hx0, Bool.or_false]
      · rw [if_neg e]
theorem step_rel {n k : Nat} {s : SnS} {c : PassC} (h : SNV n k s) : (pstep n c (pOf n s)).1 = (nstep n c s).1 ∧ NEq n (pstep n c (pOf n s)).2 (pOf n (nstep n c s).2) := by
  unfold pstep nstep
  by_cases q0 : c.kind < 1 ∨ 3 < c.kind
  · rw [if_pos q0, if_pos q0]; exact ⟨rfl, NEq.refl _ _⟩
  rw [if_neg q0, if_neg q0]
  by_cases q1 : c.who < 0 ∨ n ≤ c.who
  · rw [if_pos q1, if_pos q1]; exact ⟨rfl, NEq.refl _ _⟩
  rw [if_neg q1, if_neg q1]
  have hw : c.who.toNat < n := by omega
  by_cases q2 : c.kind = 3
  · rw [if_pos q2, if_pos q2]
    have h0 := h.o0 c.who.toNat
    show (if s.own c.who.toNat = -1 then _ else _ : Int × NP).1 = _ ∧ _
    by_cases ho : 0 ≤ s.own c.who.toNat
    · rw [if_neg (show ¬ (pOf n s).own c.who.toNat = -1 by show ¬ s.own c.who.toNat = -1; omega), if_neg (show ¬ s.own c.who.toNat = -1 by omega), if_pos ho]; exact ⟨rfl, NEq.refl _ _⟩
    · rw [if_pos (show (pOf n s).own c.who.toNat = -1 by show s.own c.who.toNat = -1; omega), if_pos (show s.own c.who.toNat = -1 by omega), if_neg ho]; exact ⟨rfl, note_rel h⟩
  rw [if_neg q2, if_neg q2]
  by_cases q3 : (c.other < 0 ∨ n ≤ c.other) ∨ c.other = c.who
  · rw [if_pos q3, if_pos q3]; exact ⟨rfl, NEq.refl _ _⟩
  rw [if_neg q3, if_neg q3]
  have ho : c.other.toNat < n := by omega
  by_cases q4 : c.kind = 2
  · rw [if_pos q4, if_pos q4]; exact take_rel h hw ho
  rw [if_neg q4, if_neg q4]
  by_cases q5 : c.n < 1 ∨ s.money c.who.toNat < c.n
  · rw [if_pos q5, if_pos (show c.n < 1 ∨ (pOf n s).money c.who.toNat < c.n from q5)]; exact ⟨rfl, NEq.refl _ _⟩
  rw [if_neg q5, if_neg (show ¬ (c.n < 1 ∨ (pOf n s).money c.who.toNat < c.n) from q5)]
  obtain ⟨i, hi⟩ : ∃ i, i = c.who.toNat := ⟨_, rfl⟩
  obtain ⟨j, hj⟩ : ∃ j, j = c.other.toNat := ⟨_, rfl⟩
  rw [← hi] at hw ⊢
  rw [← hj] at ho ⊢
  have hque : (pOf n s).que (i * n + j) = queL (s.ln i j) := by show queL (s.ln ((i * n + j) / n) ((i * n + j) % n)) = _; rw [(idx_div ho).1, (idx_div ho).2]
  refine ⟨rfl, rfl, rfl, fun t ht => ?_, fun t ht => ?_, fun t ht => ?_⟩
  · show upd (pOf n s).que (i * n + j) ((pOf n s).que (i * n + j) ++ [c.n]) t = queL (if t / n = i ∧ t % n = j then { s.ln (t / n) (t % n) with sent := (s.ln (t / n) (t % n)).sent ++ [c.n] } else s.ln (t / n) (t % n))
    by_cases e : t = i * n + j
    · rw [e, upd_same, (idx_div ho).1, (idx_div ho).2, if_pos ⟨rfl, rfl⟩, hque]; exact (que_sent (h.lok _ _) _).symm
    · rw [upd_other e, if_neg (fun hh => e ((tdiv hw ho t).2 hh))]; rfl
  · show notedL (s.own (t % n)) (s.ln (t / n) (t % n)) = notedL (s.own (t % n)) (if t / n = i ∧ t % n = j then { s.ln (t / n) (t % n) with sent := (s.ln (t / n) (t % n)).sent ++ [c.n] } else s.ln (t / n) (t % n))
    by_cases e : t / n = i ∧ t % n = j
    · rw [if_pos e]
      unfold notedL
      rw [betw_sent (h.lok _ _)]
    · rw [if_neg e]
  · show closB (s.ln (t / n) (t % n)) = closB (if t / n = i ∧ t % n = j then { s.ln (t / n) (t % n) with sent := (s.ln (t / n) (t % n)).sent ++ [c.n] } else s.ln (t / n) (t % n))
    by_cases e : t / n = i ∧ t % n = j
    · rw [if_pos e, clos_sent (h.lok _ _)]
    · rw [if_neg e]
/-- What the plain state keeps to, for the walk. -/
theorem SNV.pb {n k : Nat} {s : SnS} (h : SNV n k s) (hk : k ≤ 120) : PB n (pOf n s) := by
  have hlen : ∀ l : Lin, LOK l → (queL l).length ≤ l.sent.length ∧ (betwL l).length ≤ l.sent.length := fun l hl => by
    refine ⟨by unfold queL; rw [List.length_drop]; omega, ?_⟩
    have h1 := open_len hl
    have h2 := hl.b
    unfold betwL
    rw [List.length_drop]
    omega
  refine ⟨fun t => ?_, fun t => ?_, fun i hi => ⟨h.m0 i, h.mb hi⟩, fun i => ⟨by have := h.o0 i; show -1 ≤ s.own i; omega, h.ob i⟩, fun t x hx => ?_⟩
  · have h1 := (hlen _ (h.lok (t / n) (t % n))).1
    have h2 := h.len (t / n) (t % n)
    show (queL (s.ln (t / n) (t % n))).length ≤ 5000
    omega
  · have h1 := (hlen _ (h.lok (t / n) (t % n))).2
    have h2 := h.len (t / n) (t % n)
    show (notedL (s.own (t % n)) (s.ln (t / n) (t % n))).length ≤ 5000
    unfold notedL
    split
    · omega
    · simp
  · have hx : x ∈ queL (s.ln (t / n) (t % n)) := hx
    have := h.sn _ _ x (List.mem_of_mem_drop hx)
    omega
end Go.Proofs.Ytelfmhiaafkimaa
