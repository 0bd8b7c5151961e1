/- When all rests: what the program does, and why the document says the same. No program in sight. -/
import Derived.Test.YtelfmhiaafkimaaHp2
set_option linter.unusedSimpArgs false
set_option linter.unusedVariables false
namespace Go.Proofs.Ytelfmhiaafkimaa
open Go Go.RowKit Go.VC
set_option linter.unusedSimpArgs false
set_option linter.unusedVariables false

structure QP where
  works : Bool
  bound : Bool
  to : Int
  owes : Int
/-- Processes; calls and answers on their way, from one to another one. -/
structure QS where
  pr : Nat → QP
  ca : Nat → Nat → Nat
  an : Nat → Nat → Nat
  done : Bool
structure CalmC where
  kind : Int
  who : Int
  other : Int
def set2 (m : Nat → Nat → Nat) (a b v : Nat) : Nat → Nat → Nat := fun i j => if i = a ∧ j = b then v else m i j
def qs0 : QS := ⟨fun i => if i = 0 then ⟨true, true, -1, 0⟩ else ⟨false, false, 0, 0⟩, fun _ _ => 0, fun _ _ => 0, false⟩
def qsettle (a : Nat) (s : QS) : QS :=
  if (s.pr a).bound = false ∨ (s.pr a).works = true ∨ 0 < (s.pr a).owes then s
  else if (s.pr a).to < 0 then { s with pr := upd s.pr a { s.pr a with bound := false }, done := true }
  else { s with pr := upd s.pr a { s.pr a with bound := false }, an := set2 s.an a (s.pr a).to.toNat (s.an a (s.pr a).to.toNat + 1) }
def qdoes (a b : Nat) (kind : Int) (s : QS) : Int × QS :=
  if kind = 1 then
    (if (s.pr a).works = false then (6, s) else (0, { s with pr := upd s.pr a { s.pr a with owes := (s.pr a).owes + 1 }, ca := set2 s.ca a b (s.ca a b + 1) }))
  else if kind = 3 then
    (if (s.pr a).works = false then (6, s) else (0, { s with pr := upd s.pr a { s.pr a with works := false } }))
  else if kind = 2 then
    (if s.ca b a = 0 then (5, s)
     else if (s.pr a).bound = true then (0, { s with pr := upd s.pr a { s.pr a with works := true }, ca := set2 s.ca b a (s.ca b a - 1), an := set2 s.an a b (s.an a b + 1) })
     else (0, { s with pr := upd s.pr a { s.pr a with works := true, bound := true, to := b }, ca := set2 s.ca b a (s.ca b a - 1) }))
  else (if s.an b a = 0 then (5, s) else (0, { s with pr := upd s.pr a { s.pr a with owes := (s.pr a).owes - 1 }, an := set2 s.an b a (s.an b a - 1) }))
def qstep (n : Nat) (c : CalmC) (s : QS) : Int × QS :=
  if c.kind < 1 ∨ 4 < c.kind then (4, s)
  else if (c.who < 0 ∨ n ≤ c.who) ∨ (c.kind ≠ 3 ∧ ((c.other < 0 ∨ n ≤ c.other) ∨ c.other = c.who)) then (2, s)
  else if (qdoes c.who.toNat c.other.toNat c.kind s).1 = 0 then (0, qsettle c.who.toNat (qdoes c.who.toNat c.other.toNat c.kind s).2)
  else ((qdoes c.who.toNat c.other.toNat c.kind s).1, s)
def qst (n : Nat) (f : Nat → CalmC) : Nat → QS
  | 0 => qs0
  | t + 1 => (qstep n (f t) (qst n f t)).2
def qcode (n : Nat) (f : Nat → CalmC) (t : Nat) : Int := (qstep n (f t) (qst n f t)).1

def sumN (f : Nat → Int) : Nat → Int
  | 0 => 0
  | k + 1 => sumN f k + f k
theorem sumN_congr {f g : Nat → Int} : ∀ {n : Nat}, (∀ j, j < n → f j = g j) → sumN f n = sumN g n
  | 0, _ => rfl
  | n + 1, h => by unfold sumN; rw [sumN_congr fun j hj => h j (by omega), h n (by omega)]
theorem sumN_add {f g : Nat → Int} {j d : Int} {i : Nat} (hi : ∀ x, g x = f x + if x = i then d else 0) : ∀ {n : Nat}, sumN g n = sumN f n + if i < n then d else 0
  | 0 => by simp [sumN]
  | n + 1 => by
    unfold sumN
    rw [sumN_add (j := j) hi, hi n]
    by_cases h1 : i < n
    · rw [if_pos h1, if_pos (show i < n + 1 by omega), if_neg (by omega)]; omega
    · by_cases h2 : n = i
      · rw [if_neg h1, if_pos h2, if_pos (by omega)]; omega
      · rw [if_neg h1, if_neg h2, if_neg (by omega)]; omega
theorem sumN_nonneg {f : Nat → Int} (h : ∀ j, 0 ≤ f j) : ∀ n, 0 ≤ sumN f n
  | 0 => Int.le_refl _
  | n + 1 => by unfold sumN; have := sumN_nonneg h n; have := h n; omega
/-- What process i is owed by process j: calls under way, answers under way, or that j is bound to it. -/
def ter (s : QS) (i j : Nat) : Int := s.ca i j + s.an j i + (if (s.pr j).bound = true ∧ (s.pr j).to = i then 1 else 0)
theorem ter_nonneg (s : QS) (i j : Nat) : 0 ≤ ter s i j := by unfold ter; split <;> omega
/-- All is settled; what one owes is what is under way, and who is bound to it. -/
structure QOK (n : Nat) (s : QS) : Prop where
  owes : ∀ i, i < n → (s.pr i).owes = sumN (ter s i) n
  still : ∀ i, i < n → (s.pr i).bound = true → (s.pr i).works = true ∨ 0 < (s.pr i).owes
  to : ∀ i, i < n → (s.pr i).to < n
structure QMid (n : Nat) (s : QS) : Prop where
  owes : ∀ i, i < n → (s.pr i).owes = sumN (ter s i) n
  to : ∀ i, i < n → (s.pr i).to < n
theorem QMid.pos {n : Nat} {s : QS} (h : QMid n s) {i : Nat} (hi : i < n) : 0 ≤ (s.pr i).owes := by rw [h.owes i hi]; exact sumN_nonneg (ter_nonneg s i) n
/-- What one place of the tables turns. -/
theorem owes_turn {n i0 j0 : Nat} {s s' : QS} {d : Int} (h : ∀ i, i < n → (s.pr i).owes = sumN (ter s i) n) (hj0 : j0 < n) (ht : ∀ i j, i < n → ter s' i j = ter s i j + if i = i0 ∧ j = j0 then d else 0) (ho : ∀ i, (s'.pr i).owes = (s.pr i).owes + if i = i0 then d else 0) :
    ∀ i, i < n → (s'.pr i).owes = sumN (ter s' i) n := fun i hi => by
  rw [ho i, h i hi]
  by_cases e : i = i0
  · have := sumN_add (f := ter s i) (g := ter s' i) (j := 0) (d := d) (i := j0) (fun x => by
      rw [ht i x hi]
      by_cases e2 : x = j0
      · rw [if_pos ⟨e, e2⟩, if_pos e2]
      · rw [if_neg (fun hh => e2 hh.2), if_neg e2]) (n := n)
    rw [this, if_pos e, if_pos hj0]
  · rw [if_neg e, Int.add_zero]
    exact sumN_congr fun j hj => by rw [ht i j hi, if_neg (fun hh => e hh.1), Int.add_zero]
theorem set2_at {m : Nat → Nat → Nat} {a b v i j : Nat} : set2 m a b v i j = if i = a ∧ j = b then v else m i j := rfl
theorem upd_bt {f : Nat → QP} {a : Nat} {p : QP} (h1 : p.bound = (f a).bound) (h2 : p.to = (f a).to) (j : Nat) : (upd f a p j).bound = (f j).bound ∧ (upd f a p j).to = (f j).to := by
  by_cases e : j = a
  · subst e; rw [upd_same]; exact ⟨h1, h2⟩
  · rw [upd_other e]; exact ⟨rfl, rfl⟩
theorem upd_owes {f : Nat → QP} {a : Nat} {p : QP} {d : Int} (h : p.owes = (f a).owes + d) (i : Nat) : (upd f a p i).owes = (f i).owes + if i = a then d else 0 := by
  by_cases e : i = a
  · subst e; rw [upd_same, if_pos rfl]; exact h
  · rw [upd_other e, if_neg e, Int.add_zero]
theorem upd_to {n : Nat} {f : Nat → QP} {a : Nat} {p : QP} (h : ∀ i, i < n → (f i).to < n) (hp : p.to < n) (i : Nat) (hi : i < n) : (upd f a p i).to < n := by
  by_cases e : i = a
  · rw [e, upd_same]; exact hp
  · rw [upd_other e]; exact h i hi
theorem qmid_does {n a b : Nat} {kind : Int} {s : QS} (h : QOK n s) (ha : a < n) (hb : kind ≠ 3 → b < n ∧ b ≠ a) : QMid n (qdoes a b kind s).2 := by
  have h0 : QMid n s := ⟨h.owes, h.to⟩
  have hta := h.to a ha
  unfold qdoes
  split
  · rename_i hk
    obtain ⟨hbn, hba⟩ := hb (by omega)
    split
    · exact h0
    · refine ⟨owes_turn (i0 := a) (j0 := b) (d := 1) h.owes hbn (fun i j hi => ?_) (upd_owes rfl), upd_to h.to hta⟩
      obtain ⟨e1, e2⟩ := upd_bt (f := s.pr) (a := a) (p := { s.pr a with owes := (s.pr a).owes + 1 }) rfl rfl j
      unfold ter
      show ((set2 s.ca a b (s.ca a b + 1) i j : Nat) : Int) + s.an j i + (if (upd s.pr a _ j).bound = true ∧ (upd s.pr a _ j).to = i then 1 else 0) = _
      rw [e1, e2, set2_at]
      by_cases e : i = a ∧ j = b
      · rw [if_pos e, if_pos e]; obtain ⟨rfl, rfl⟩ := e; split <;> omega
      · rw [if_neg e, if_neg e]; split <;> omega
  split
  · rename_i hk
    split
    · exact h0
    · refine ⟨owes_turn (i0 := a) (j0 := a) (d := 0) h.owes ha (fun i j hi => ?_) (upd_owes (by show (s.pr a).owes = (s.pr a).owes + 0; omega)), upd_to h.to hta⟩
      obtain ⟨e1, e2⟩ := upd_bt (f := s.pr) (a := a) (p := { s.pr a with works := false }) rfl rfl j
      unfold ter
      show (s.ca i j : Int) + s.an j i + (if (upd s.pr a _ j).bound = true ∧ (upd s.pr a _ j).to = i then 1 else 0) = _
      rw [e1, e2]
      split <;> omega
  rename_i hk1 hk3
  obtain ⟨hbn, hba⟩ := hb hk3
  split
  · split
    · exact h0
    rename_i hc
    split
    · refine ⟨owes_turn (i0 := a) (j0 := a) (d := 0) h.owes ha (fun i j hi => ?_) (upd_owes (by show (s.pr a).owes = (s.pr a).owes + 0; omega)), upd_to h.to hta⟩
      obtain ⟨e1, e2⟩ := upd_bt (f := s.pr) (a := a) (p := { s.pr a with works := true }) rfl rfl j
      unfold ter
      show ((set2 s.ca b a (s.ca b a - 1) i j : Nat) : Int) + (set2 s.an a b (s.an a b + 1) j i : Nat) + (if (upd s.pr a _ j).bound = true ∧ (upd s.pr a _ j).to = i then 1 else 0) = _
      rw [e1, e2, set2_at, set2_at]
      by_cases e : i = b ∧ j = a
      · obtain ⟨rfl, rfl⟩ := e
        rw [if_pos ⟨rfl, rfl⟩, if_pos ⟨rfl, rfl⟩]; split <;> omega
      · rw [if_neg e, if_neg (fun hh => e ⟨hh.2, hh.1⟩)]; split <;> omega
    · rename_i hbd
      refine ⟨owes_turn (i0 := a) (j0 := a) (d := 0) h.owes ha (fun i j hi => ?_) (upd_owes (by show (s.pr a).owes = (s.pr a).owes + 0; omega)), upd_to h.to (by show (b : Int) < n; omega)⟩
      unfold ter
      show ((set2 s.ca b a (s.ca b a - 1) i j : Nat) : Int) + s.an j i + (if (upd s.pr a { s.pr a with works := true, bound := true, to := (b : Int) } j).bound = true ∧ (upd s.pr a { s.pr a with works := true, bound := true, to := (b : Int) } j).to = i then 1 else 0) = _
      rw [set2_at]
      by_cases e : j = a
      · subst e
        rw [upd_same, if_neg (show ¬ ((s.pr j).bound = true ∧ (s.pr j).to = i) from fun hh => hbd hh.1)]
        by_cases e2 : i = b
        · subst e2
          rw [if_pos ⟨rfl, rfl⟩, if_pos ⟨rfl, rfl⟩]; split <;> omega
        · rw [if_neg (fun hh => e2 hh.1), if_neg (show ¬ (true = true ∧ (b : Int) = i) from fun hh => e2 (by have := hh.2; omega))]; split <;> omega
      · rw [upd_other e, if_neg (fun hh => e hh.2)]; split <;> split <;> omega
  · split
    · exact h0
    · refine ⟨owes_turn (i0 := a) (j0 := b) (d := -1) h.owes hbn (fun i j hi => ?_) (upd_owes (by show (s.pr a).owes - 1 = (s.pr a).owes + -1; omega)), upd_to h.to hta⟩
      obtain ⟨e1, e2⟩ := upd_bt (f := s.pr) (a := a) (p := { s.pr a with owes := (s.pr a).owes - 1 }) rfl rfl j
      unfold ter
      show (s.ca i j : Int) + (set2 s.an b a (s.an b a - 1) j i : Nat) + (if (upd s.pr a _ j).bound = true ∧ (upd s.pr a _ j).to = i then 1 else 0) = _
      rw [e1, e2, set2_at]
      by_cases e : i = a ∧ j = b
      · rw [if_pos (show j = b ∧ i = a from ⟨e.2, e.1⟩), if_pos e]; obtain ⟨rfl, rfl⟩ := e; split <;> omega
      · rw [if_neg (fun hh => e ⟨hh.2, hh.1⟩), if_neg e]; split <;> omega
theorem qdoes_pr {a b : Nat} {kind : Int} {s : QS} {i : Nat} (hi : i ≠ a) : (qdoes a b kind s).2.pr i = s.pr i := by
  unfold qdoes
  repeat' split
  all_goals first | rfl | exact upd_other hi
theorem qdoes_err {a b : Nat} {kind : Int} {s : QS} (h : (qdoes a b kind s).1 ≠ 0) : (qdoes a b kind s).2 = s := by
  revert h
  unfold qdoes
  repeat' split
  all_goals intro h; first | rfl | exact absurd rfl h
theorem qok_settle {n a : Nat} {s : QS} (h : QMid n s) (ha : a < n) (hst : ∀ i, i < n → i ≠ a → (s.pr i).bound = true → (s.pr i).works = true ∨ 0 < (s.pr i).owes) : QOK n (qsettle a s) := by
  unfold qsettle
  split
  · rename_i hc
    refine ⟨h.owes, fun i hi hb => ?_, h.to⟩
    by_cases e : i = a
    · subst e
      rcases hc with hc | hc | hc
      · rw [hc] at hb; cases hb
      · exact Or.inl hc
      · exact Or.inr hc
    · exact hst i hi e hb
  rename_i hc
  rw [not_or, not_or] at hc
  have hbd : (s.pr a).bound = true := by simpa using hc.1
  have still : ∀ i, i < n → (upd s.pr a { s.pr a with bound := false } i).bound = true → (upd s.pr a { s.pr a with bound := false } i).works = true ∨ 0 < (upd s.pr a { s.pr a with bound := false } i).owes := fun i hi hb => by
    by_cases e : i = a
    · rw [e, upd_same] at hb; cases hb
    · rw [upd_other e] at hb ⊢; exact hst i hi e hb
  have hta := h.to a ha
  split
  · rename_i hneg
    refine ⟨owes_turn (i0 := a) (j0 := a) (d := 0) h.owes ha (fun i j hi => ?_) (upd_owes (by show (s.pr a).owes = (s.pr a).owes + 0; omega)), still, upd_to h.to hta⟩
    unfold ter
    show (s.ca i j : Int) + s.an j i + (if (upd s.pr a { s.pr a with bound := false } j).bound = true ∧ (upd s.pr a { s.pr a with bound := false } j).to = i then 1 else 0) = _
    by_cases e : j = a
    · subst e
      rw [upd_same, if_neg (show ¬ (false = true ∧ (s.pr j).to = i) from fun hh => by cases hh.1), if_neg (show ¬ ((s.pr j).bound = true ∧ (s.pr j).to = i) from fun hh => by have := hh.2; omega)]
      split <;> omega
    · rw [upd_other e]; split <;> split <;> omega
  · rename_i hneg
    refine ⟨owes_turn (i0 := a) (j0 := a) (d := 0) h.owes ha (fun i j hi => ?_) (upd_owes (by show (s.pr a).owes = (s.pr a).owes + 0; omega)), still, upd_to h.to hta⟩
    unfold ter
    show (s.ca i j : Int) + (set2 s.an a (s.pr a).to.toNat (s.an a (s.pr a).to.toNat + 1) j i : Nat) + (if (upd s.pr a { s.pr a with bound := false } j).bound = true ∧ (upd s.pr a { s.pr a with bound := false } j).to = i then 1 else 0) = _
    rw [set2_at]
    by_cases e : j = a
    · subst e
      rw [upd_same, if_neg (show ¬ (false = true ∧ (s.pr j).to = i) from fun hh => by cases hh.1)]
      by_cases e2 : i = (s.pr j).to.toNat
      · rw [if_pos ⟨rfl, e2⟩, if_pos (show (s.pr j).bound = true ∧ (s.pr j).to = i from ⟨hbd, by omega⟩), ← e2]; split <;> omega
      · rw [if_neg (fun hh => e2 hh.2), if_neg (show ¬ ((s.pr j).bound = true ∧ (s.pr j).to = i) from fun hh => e2 (by have := hh.2; omega))]; split <;> omega
    · rw [upd_other e, if_neg (fun hh => e hh.1)]; split <;> split <;> omega
theorem qok0 {n : Nat} (hn : 0 < n) : QOK n qs0 := by
  refine ⟨fun i hi => ?_, fun i hi hb => ?_, fun i hi => ?_⟩
  · have hz : ∀ j, j < n → ter qs0 i j = 0 := fun j hj => by
      unfold ter qs0
      show ((0 : Nat) : Int) + ((0 : Nat) : Int) + (if (if j = 0 then (⟨true, true, -1, 0⟩ : QP) else ⟨false, false, 0, 0⟩).bound = true ∧ (if j = 0 then (⟨true, true, -1, 0⟩ : QP) else ⟨false, false, 0, 0⟩).to = i then 1 else 0) = 0
      by_cases e : j = 0
      · rw [if_pos e, if_neg (fun hh => by have h2 : (-1 : Int) = i := hh.2; omega)]; rfl
      · rw [if_neg e, if_neg (fun hh => by cases hh.1)]; rfl
    rw [sumN_congr hz]
    have h0 : ∀ m, sumN (fun _ => 0) m = 0 := fun m => by induction m with
      | zero => rfl
      | succ m ih => unfold sumN; rw [ih]; rfl
    rw [h0]
    show (if i = 0 then (⟨true, true, -1, 0⟩ : QP) else ⟨false, false, 0, 0⟩).owes = 0
    split <;> rfl
  · have hb : (if i = 0 then (⟨true, true, -1, 0⟩ : QP) else ⟨false, false, 0, 0⟩).bound = true := hb
    show (if i = 0 then (⟨true, true, -1, 0⟩ : QP) else ⟨false, false, 0, 0⟩).works = true ∨ _
    split at hb
    · rename_i e; rw [if_pos e]; exact Or.inl rfl
    · cases hb
  · show (if i = 0 then (⟨true, true, -1, 0⟩ : QP) else ⟨false, false, 0, 0⟩).to < n
    split
    · show (-1 : Int) < n; omega
    · show (0 : Int) < n; omega
theorem qok_step {n : Nat} {c : CalmC} {s : QS} (h : QOK n s) : QOK n (qstep n c s).2 := by
  unfold qstep
  split
  · exact h
  split
  · exact h
  rename_i h1 h2
  split
  · rw [not_or] at h2
    exact qok_settle (qmid_does h (by omega) (fun hk => ⟨by omega, by omega⟩)) (by omega) fun i hi e hb => by
      rw [qdoes_pr e] at hb ⊢; exact h.still i hi hb
  · exact h
theorem qok {n : Nat} (hn : 0 < n) (f : Nat → CalmC) : ∀ t, QOK n (qst n f t)
  | 0 => qok0 hn
  | t + 1 => qok_step (qok hn f t)
/-- The document settles behind each step, and by another test. -/
def dsettle (a : Nat) (s : QS) : QS :=
  if (s.pr a).bound = true ∧ (s.pr a).works = false ∧ (s.pr a).owes = 0 then
    (if (s.pr a).to < 0 then { s with pr := upd s.pr a { s.pr a with bound := false }, done := true }
     else { s with pr := upd s.pr a { s.pr a with bound := false }, an := set2 s.an a (s.pr a).to.toNat (s.an a (s.pr a).to.toNat + 1) })
  else s
theorem dsettle_eq {n a : Nat} {s : QS} (h : QMid n s) (ha : a < n) : dsettle a s = qsettle a s := by
  have hp := h.pos ha
  unfold dsettle qsettle
  by_cases hc : (s.pr a).bound = true ∧ (s.pr a).works = false ∧ (s.pr a).owes = 0
  · rw [if_pos hc, if_neg (c := (s.pr a).bound = false ∨ (s.pr a).works = true ∨ 0 < (s.pr a).owes) (by rw [hc.1, hc.2.1]; intro hh; rcases hh with hh | hh | hh; cases hh; cases hh; omega)]
  · rw [if_neg hc, if_pos]
    cases hb : (s.pr a).bound with
    | false => exact Or.inl rfl
    | true =>
      cases hw : (s.pr a).works with
      | true => exact Or.inr (Or.inl rfl)
      | false => exact Or.inr (Or.inr (by have : ¬ (s.pr a).owes = 0 := fun e => hc ⟨hb, hw, e⟩; omega))
/-- A step of the document's comes to the same. -/
theorem qsame {n : Nat} {c : CalmC} {s : QS} (h : QOK n s) (h1 : ¬ (c.kind < 1 ∨ 4 < c.kind)) (h2 : ¬ ((c.who < 0 ∨ n ≤ c.who) ∨ (c.kind ≠ 3 ∧ ((c.other < 0 ∨ n ≤ c.other) ∨ c.other = c.who)))) :
    (qstep n c s).2 = dsettle c.who.toNat (qdoes c.who.toNat c.other.toNat c.kind s).2 ∧ (qstep n c s).1 = (qdoes c.who.toNat c.other.toNat c.kind s).1 := by
  have ha : c.who.toNat < n := by omega
  have hm : QMid n (qdoes c.who.toNat c.other.toNat c.kind s).2 := qmid_does h ha (fun hk => ⟨by omega, by omega⟩)
  unfold qstep
  rw [if_neg h1, if_neg h2]
  by_cases e : (qdoes c.who.toNat c.other.toNat c.kind s).1 = 0
  · rw [if_pos e, e]
    exact ⟨(dsettle_eq hm ha).symm, rfl⟩
  · rw [if_neg e, qdoes_err e]
    refine ⟨?_, rfl⟩
    show s = dsettle _ s
    unfold dsettle
    rw [if_neg]
    rintro ⟨q1, q2, q3⟩
    rcases h.still _ ha q1 with q | q
    · rw [q2] at q; cases q
    · omega
end Go.Proofs.Ytelfmhiaafkimaa
