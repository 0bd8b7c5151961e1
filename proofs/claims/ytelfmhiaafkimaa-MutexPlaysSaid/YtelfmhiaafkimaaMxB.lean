/- One in at a time: how much there is after so many steps. No program in sight. -/
import Derived.Test.YtelfmhiaafkimaaMutexPlain
namespace Go.Proofs.Ytelfmhiaafkimaa
open Go Go.RowKit Go.VC
set_option linter.unusedSimpArgs false
set_option linter.unusedVariables false
/-- How much there is. -/
structure MB (L t n : Nat) (s : MxS) : Prop where
  inn : s.inn.length ≤ t
  way : ∀ a b, (s.way a b).length ≤ L
  waits : ∀ i, (s.pr i).waits.length ≤ t
  wlt : ∀ i, ∀ k ∈ (s.pr i).waits, k < n
  n : ∀ i, 0 ≤ (s.pr i).n ∧ (s.pr i).n ≤ t
  yes : ∀ i, 0 ≤ (s.pr i).yes ∧ (s.pr i).yes ≤ t
  what : ∀ a b, ∀ x ∈ s.way a b, 0 ≤ x ∧ x ≤ t
theorem MB.mono {L L' t t' n : Nat} {s : MxS} (h : MB L t n s) (h1 : L ≤ L') (h2 : t ≤ t') : MB L' t' n s :=
  ⟨Nat.le_trans h.inn h2, fun a b => Nat.le_trans (h.way a b) h1, fun i => Nat.le_trans (h.waits i) h2, h.wlt, fun i => by have := h.n i; omega, fun i => by have := h.yes i; omega, fun a b x hx => by have := h.what a b x hx; omega⟩
theorem updM {f : Nat → MP} {a : Nat} {p : MP} {R : MP → Prop} (h : ∀ i, R (f i)) (hp : R p) (i : Nat) : R (upd f a p i) := by
  by_cases e : i = a
  · subst e; rw [upd_same]; exact hp
  · rw [upd_other e]; exact h i
theorem MB.proc {L t n : Nat} {s : MxS} (h : MB L t n s) (i : Nat) {p : MP} (h1 : p.waits.length ≤ t) (h2 : ∀ k ∈ p.waits, k < n) (h3 : 0 ≤ p.n ∧ p.n ≤ t) (h4 : 0 ≤ p.yes ∧ p.yes ≤ t) : MB L t n { s with pr := upd s.pr i p } :=
  ⟨h.inn, h.way, updM (R := fun p => p.waits.length ≤ t) h.waits h1, updM (R := fun p => ∀ k ∈ p.waits, k < n) h.wlt h2, updM (R := fun p => 0 ≤ p.n ∧ p.n ≤ t) h.n h3, updM (R := fun p => 0 ≤ p.yes ∧ p.yes ≤ t) h.yes h4, h.what⟩
theorem MB.send {L t n : Nat} {s : MxS} (h : MB L t n s) (i j : Nat) {x : Int} (hx : 0 ≤ x ∧ x ≤ t) : MB (L + 1) t n (msend i j x s) := by
  refine ⟨h.inn, fun a b => ?_, h.waits, h.wlt, h.n, h.yes, fun a b y hy => ?_⟩
  · show (if a = i ∧ b = j then s.way a b ++ [x] else s.way a b).length ≤ _
    have := h.way a b
    split
    · rw [List.length_append]; simp; omega
    · omega
  · have hy : y ∈ (if a = i ∧ b = j then s.way a b ++ [x] else s.way a b) := hy
    split at hy
    · rcases List.mem_append.1 hy with hy | hy
      · exact h.what a b y hy
      · rw [List.mem_singleton.1 hy]; exact hx
    · exact h.what a b y hy
theorem MB.sendAll {L t n : Nat} {s : MxS} (h : MB L t n s) (i : Nat) {x : Int} (hx : 0 ≤ x ∧ x ≤ t) : ∀ m, MB (L + m) t n (msendAll i x m s)
  | 0 => h
  | m + 1 => by
    have ih := MB.sendAll h i hx m
    unfold msendAll
    split
    · exact ih.mono (by omega) (Nat.le_refl _)
    · exact ih.send i m hx
theorem MB.sendL {t n : Nat} (i : Nat) {x : Int} (hx : 0 ≤ x ∧ x ≤ t) : ∀ (l : List Nat) {L : Nat} {s : MxS}, MB L t n s → MB (L + l.length) t n (msendL i x l s)
  | [], L, s, h => h
  | j :: l, L, s, h => by
    have := MB.sendL i hx l (h.send i j hx)
    rw [List.length_cons, show L + (l.length + 1) = L + 1 + l.length by omega]
    exact this
theorem MB.enter {L t n : Nat} {s : MxS} (h : MB L (t + 1) n s) (hi : s.inn.length ≤ t) (i : Nat) : MB L (t + 1) n (menter n i s) := by
  unfold menter
  split
  · have := h.proc i (p := { s.pr i with how := 2 }) (h.waits i) (h.wlt i) (h.n i) (h.yes i)
    exact ⟨by show (s.inn ++ [i]).length ≤ _; rw [List.length_append]; simp; omega, this.way, this.waits, this.wlt, this.n, this.yes, this.what⟩
  · exact h
theorem msendAll_inn0 {i : Nat} {x : Int} {s : MxS} : ∀ {m : Nat}, (msendAll i x m s).inn = s.inn
  | 0 => rfl
  | m + 1 => by
    unfold msendAll
    split
    · exact msendAll_inn0
    · exact (msendAll_inn0 : (msendAll i x m s).inn = s.inn)
theorem mb0 (n : Nat) : MB 0 0 n mx0 := ⟨Nat.le_refl _, fun _ _ => Nat.le_refl _, fun _ => Nat.le_refl _, fun _ _ h => (by cases h), fun _ => ⟨Int.le_refl _, Int.le_refl _⟩, fun _ => ⟨Int.le_refl _, Int.le_refl _⟩, fun _ _ _ h => (by cases h)⟩
theorem mb_step {t n : Nat} {c : MoveC} {s : MxS} (h : MB (125 * t) t n s) (ht : t ≤ 120) (hn : n ≤ 6) : MB (125 * (t + 1)) (t + 1) n (mxstep n c s).2 := by
  have h1 := h.mono (show 125 * t ≤ 125 * (t + 1) by omega) (Nat.le_succ t)
  have h0 := h.mono (Nat.le_refl (125 * t)) (Nat.le_succ t)
  unfold mxstep
  split
  · exact h1
  split
  · exact h1
  rename_i hk hc
  rw [not_or] at hc
  split
  · unfold mask
    split
    · exact h1
    · generalize c.who.toNat = i
      have hni := h.n i
      have hp := h0.proc i (p := { s.pr i with n := (s.pr i).n + 1, how := 1, key := (s.pr i).n + 1, yes := 0 }) (h0.waits i) (h0.wlt i) (by show 0 ≤ (s.pr i).n + 1 ∧ (s.pr i).n + 1 ≤ ((t + 1 : Nat) : Int); omega) (by show (0 : Int) ≤ 0 ∧ (0 : Int) ≤ ((t + 1 : Nat) : Int); omega)
      have hs := hp.sendAll i (x := (s.pr i).n + 1) (by omega) n
      exact ((hs.enter (by rw [msendAll_inn0]; exact h.inn) i)).mono (by omega) (Nat.le_refl _)
  split
  · rename_i hk2
    have hfr : c.frm.toNat < n := by
      have := fun hh => hc.2 ⟨hk2, hh⟩
      have h3 : ¬ (c.frm < 0 ∨ (n : Int) ≤ c.frm) := fun hh => this (Or.inl hh)
      omega
    generalize c.who.toNat = i
    generalize c.frm.toNat = j at *
    unfold mtake
    cases hw : s.way j i with
    | nil => exact h1
    | cons x q =>
      have hx := h.what j i x (by rw [hw]; exact List.mem_cons_self ..)
      have hcut : MB (125 * t) (t + 1) n { s with way := fun a b => if a = j ∧ b = i then q else s.way a b } := by
        refine ⟨h0.inn, fun a b => ?_, h0.waits, h0.wlt, h0.n, h0.yes, fun a b y hy => ?_⟩
        · show (if a = j ∧ b = i then q else s.way a b).length ≤ _
          split
          · have := h.way j i; rw [hw, List.length_cons] at this; omega
          · exact h.way a b
        · have hy : y ∈ (if a = j ∧ b = i then q else s.way a b) := hy
          split at hy
          · exact h0.what j i y (by rw [hw]; exact List.mem_cons_of_mem _ hy)
          · exact h0.what a b y hy
      have hni := h.n i
      have hyi := h.yes i
      have hwi := h.waits i
      show MB _ _ _ (if x = 0 then _ else _ : Int × MxS).2
      split
      · exact ((hcut.proc i (p := { s.pr i with yes := (s.pr i).yes + 1 }) (h0.waits i) (h0.wlt i) (h0.n i) (by show 0 ≤ (s.pr i).yes + 1 ∧ (s.pr i).yes + 1 ≤ ((t + 1 : Nat) : Int); omega)).enter h.inn i).mono (by omega) (Nat.le_refl _)
      split
      · exact (hcut.proc i (p := { s.pr i with n := max (s.pr i).n x, waits := (s.pr i).waits ++ [j] }) (by show ((s.pr i).waits ++ [j]).length ≤ _; rw [List.length_append]; simp; omega) (by
          intro k hk
          rcases List.mem_append.1 hk with hk | hk
          · exact h.wlt i k hk
          · rw [List.mem_singleton.1 hk]; exact hfr) (by show 0 ≤ max (s.pr i).n x ∧ max (s.pr i).n x ≤ ((t + 1 : Nat) : Int); omega) (h0.yes i)).mono (by omega) (Nat.le_refl _)
      · exact ((hcut.proc i (p := { s.pr i with n := max (s.pr i).n x }) (h0.waits i) (h0.wlt i) (by show 0 ≤ max (s.pr i).n x ∧ max (s.pr i).n x ≤ ((t + 1 : Nat) : Int); omega) (h0.yes i)).send i j (x := 0) (by omega)).mono (by omega) (Nat.le_refl _)
  · generalize c.who.toNat = i
    unfold mleave
    split
    · exact h1
    · have hwi := h.waits i
      have hp := h0.proc i (p := { s.pr i with how := 0, waits := [] }) (Nat.zero_le _) (fun k hk => by cases hk) (h0.n i) (h0.yes i)
      exact (hp.sendL i (x := 0) (by omega) (s.pr i).waits).mono (by omega) (Nat.le_refl _)
end Go.Proofs.Ytelfmhiaafkimaa
