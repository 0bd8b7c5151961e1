/- Many copies as one: what the program does. No program in sight. -/
import Derived.Test.YtnggjekppdlaoaaHp2
set_option linter.unusedSimpArgs false
set_option linter.unusedVariables false
namespace Go.Proofs.Ytnggjekppdlaoaa
open Go Go.RowKit Go.VC
set_option linter.unusedSimpArgs false
set_option linter.unusedVariables false

/-- A stamp and a value. -/
structure Sto where
  n : Int
  who : Int
  val : Int
/-- An op under way: the op itself, and what is known of it. -/
structure OpS where
  who : Int
  wr : Bool
  val : Int
  frm : Int
  to : Int
  b : Sto
  second : Bool
  seen : Nat
  many : Nat
structure RS where
  cp : Nat → Sto
  k : Nat
  op : Nat → OpS
  now : Nat → Option Nat
structure Call where
  kind : Int
  who : Int
  at_ : Int
  of_ : Int
  wr : Bool
  val : Int
def later (a b : Sto) : Bool := decide (b.n < a.n) || (decide (a.n = b.n) && decide (b.who < a.who))
def sto0 : Sto := ⟨0, 0, 0⟩
def rs0 : RS := ⟨fun _ => sto0, 0, fun _ => ⟨0, false, 0, 0, 0, sto0, false, 0, 0⟩, fun _ => none⟩
def rstore (cp : Nat → Sto) (a : Nat) (x : Sto) : Nat → Sto := if later x (cp a) = true then upd cp a x else cp
def newOp (c : Call) (t : Int) : OpS := ⟨c.who, c.wr, if c.wr = true then c.val else 0, t, -1, sto0, false, 0, 0⟩
def rbegin (c : Call) (t : Int) (s : RS) : Int × RS :=
  if (s.now c.who.toNat).isSome = true then (6, s) else (0, { s with k := s.k + 1, op := upd s.op s.k (newOp c t), now := upd s.now c.who.toNat (some s.k) })
/-- A reach's first half: what the op has then. -/
def reach1 (a : Nat) (cp : Nat → Sto) (o : OpS) : OpS :=
  { o with seen := o.seen ||| 2 ^ a, many := o.many + 1, b := if o.second = false ∧ later (cp a) o.b = true then cp a else o.b }
/-- The second half. -/
def reach2 (n : Nat) (t : Int) (o : OpS) : OpS :=
  if 2 * o.many ≤ n then o
  else if o.second = true then { o with to := t, val := if o.wr = true then o.val else o.b.val }
  else { o with second := true, seen := 0, many := 0, b := if o.wr = true then ⟨o.b.n + 1, o.who, o.val⟩ else o.b }
def rreach (n i a : Nat) (t : Int) (s : RS) : Int × RS :=
  if (s.op i).seen.testBit a = true then (6, s)
  else (0, { s with cp := (if (s.op i).second = true then rstore s.cp a (s.op i).b else s.cp), op := upd s.op i (reach2 n t (reach1 a s.cp (s.op i))), now := (if n < 2 * ((s.op i).many + 1) ∧ (s.op i).second = true then upd s.now (s.op i).who.toNat none else s.now) })
def rlate (c : Call) (s : RS) : Int × RS :=
  if (c.of_ < 0 ∨ s.k ≤ c.of_) ∨ (s.op c.of_.toNat).second = false then (2, s)
  else (0, { s with cp := rstore s.cp c.at_.toNat (s.op c.of_.toNat).b })
def rstep (n : Nat) (c : Call) (t : Int) (s : RS) : Int × RS :=
  if c.kind < 1 ∨ 3 < c.kind then (4, s)
  else if (c.kind ≠ 3 ∧ (c.who < 0 ∨ 4 ≤ c.who)) ∨ (c.kind ≠ 1 ∧ (c.at_ < 0 ∨ n ≤ c.at_)) then (2, s)
  else if c.kind = 1 then rbegin c t s
  else if c.kind = 2 then match s.now c.who.toNat with
    | none => (6, s)
    | some i => rreach n i c.at_.toNat t s
  else rlate c s
def rst (n : Nat) (f : Nat → Call) : Nat → RS
  | 0 => rs0
  | t + 1 => (rstep n (f t) t (rst n f t)).2
def rcode (n : Nat) (f : Nat → Call) (t : Nat) : Int := (rstep n (f t) t (rst n f t)).1

def StoOK (t : Nat) (x : Sto) : Prop := 0 ≤ x.n ∧ x.n ≤ t
structure OpOK (n t : Nat) (o : OpS) : Prop where
  who : 0 ≤ o.who ∧ o.who < 4
  to : o.to = -1 ∨ 0 ≤ o.to
  b : StoOK t o.b
  seen : o.seen < 2 ^ n
  many : o.many ≤ t
structure ROK (n t : Nat) (s : RS) : Prop where
  cp : ∀ a, StoOK t (s.cp a)
  op : ∀ i, i < s.k → OpOK n t (s.op i)
  now : ∀ j i, s.now j = some i → i < s.k ∧ (s.op i).who = j ∧ (s.op i).to = -1
  at_ : ∀ i, i < s.k → (s.op i).to = -1 → s.now (s.op i).who.toNat = some i
  k : s.k ≤ t
theorem StoOK.up {t : Nat} {x : Sto} (h : StoOK t x) : StoOK (t + 1) x := ⟨h.1, by have := h.2; omega⟩
theorem OpOK.up {n t : Nat} {o : OpS} (h : OpOK n t o) : OpOK n (t + 1) o := ⟨h.who, h.to, h.b.up, h.seen, by have := h.many; omega⟩
theorem ROK.up {n t : Nat} {s : RS} (h : ROK n t s) : ROK n (t + 1) s := ⟨fun a => (h.cp a).up, fun i hi => (h.op i hi).up, h.now, h.at_, by have := h.k; omega⟩
theorem rok0 (n : Nat) : ROK n 0 rs0 := ⟨fun a => ⟨Int.le_refl _, Int.le_refl _⟩, fun i hi => absurd hi (Nat.not_lt_zero i), fun j i h => (by cases h), fun i hi => absurd hi (Nat.not_lt_zero i), Nat.le_refl _⟩
theorem rstore_ok {t : Nat} {cp : Nat → Sto} {a : Nat} {x : Sto} (h : ∀ a, StoOK t (cp a)) (hx : StoOK t x) (b : Nat) : StoOK t (rstore cp a x b) := by
  unfold rstore
  split
  · unfold upd; split
    · exact hx
    · exact h b
  · exact h b
theorem rok_begin {n t : Nat} {s : RS} {c : Call} (h : ROK n t s) (hw : 0 ≤ c.who ∧ c.who < 4) : ROK n (t + 1) (rbegin c t s).2 := by
  unfold rbegin
  split
  · exact h.up
  rename_i h0
  have h0 : s.now c.who.toNat = none := by simpa using h0
  have hk := h.k
  have hn : OpOK n (t + 1) (newOp c t) := ⟨hw, Or.inl rfl, ⟨Int.le_refl _, by show (0 : Int) ≤ ((t + 1 : Nat) : Int); omega⟩, Nat.pow_pos (by omega), Nat.zero_le _⟩
  refine ⟨h.up.cp, fun i hi => ?_, fun j i hj => ?_, fun i hi ht => ?_, by show s.k + 1 ≤ t + 1; omega⟩
  · show OpOK n (t + 1) (upd s.op s.k (newOp c t) i)
    have hi : i < s.k + 1 := hi
    by_cases e : i = s.k
    · subst e; rw [upd_same]; exact hn
    · rw [upd_other e]; exact h.up.op i (by omega)
  · have hj : upd s.now c.who.toNat (some s.k) j = some i := hj
    show i < s.k + 1 ∧ (upd s.op s.k (newOp c t) i).who = j ∧ (upd s.op s.k (newOp c t) i).to = -1
    by_cases e : j = c.who.toNat
    · subst e
      rw [upd_same] at hj
      cases hj
      rw [upd_same]
      exact ⟨by omega, by show c.who = ((c.who.toNat : Nat) : Int); omega, rfl⟩
    · rw [upd_other e] at hj
      obtain ⟨h1, h2, h3⟩ := h.now j i hj
      rw [upd_other (show i ≠ s.k by omega)]
      exact ⟨by omega, h2, h3⟩
  · have hi : i < s.k + 1 := hi
    have ht : (upd s.op s.k (newOp c t) i).to = -1 := ht
    show upd s.now c.who.toNat (some s.k) (upd s.op s.k (newOp c t) i).who.toNat = some i
    by_cases e : i = s.k
    · subst e; rw [upd_same]; exact upd_same _ _ _
    · rw [upd_other e] at ht ⊢
      have := h.at_ i (by omega) ht
      rw [upd_other]
      · exact this
      · intro e2; rw [e2, h0] at this; cases this
theorem reach1_ok {n t a : Nat} {cp : Nat → Sto} {o : OpS} (h : OpOK n t o) (hc : ∀ a, StoOK t (cp a)) (ha : a < n) : OpOK n (t + 1) (reach1 a cp o) := by
  refine ⟨h.who, h.to, ?_, Nat.or_lt_two_pow h.seen (Nat.pow_lt_pow_right (by omega) ha), by show o.many + 1 ≤ t + 1; have := h.many; omega⟩
  show StoOK (t + 1) (if o.second = false ∧ later (cp a) o.b = true then cp a else o.b)
  split
  · exact (hc a).up
  · exact h.b.up
theorem reach1_b {n t a : Nat} {cp : Nat → Sto} {o : OpS} (h : OpOK n t o) (hc : ∀ a, StoOK t (cp a)) : StoOK t (reach1 a cp o).b := by
  show StoOK t (if o.second = false ∧ later (cp a) o.b = true then cp a else o.b)
  split
  · exact hc a
  · exact h.b
theorem reach2_ok {n t : Nat} {o : OpS} (h : OpOK n (t + 1) o) (hb : StoOK t o.b) (ht : o.to = -1) : OpOK n (t + 1) (reach2 n t o) := by
  unfold reach2
  split
  · exact h
  split
  · exact ⟨h.who, Or.inr (by show (0 : Int) ≤ (t : Int); omega), h.b, h.seen, h.many⟩
  · refine ⟨h.who, h.to, ?_, Nat.pow_pos (by omega), Nat.zero_le _⟩
    show StoOK (t + 1) (if o.wr = true then ⟨o.b.n + 1, o.who, o.val⟩ else o.b)
    split
    · have h1 := hb.1; have h2 := hb.2
      exact ⟨by show 0 ≤ o.b.n + 1; omega, by show o.b.n + 1 ≤ ((t + 1 : Nat) : Int); omega⟩
    · exact h.b
theorem reach2_who {n : Nat} {t : Int} {o : OpS} : (reach2 n t o).who = o.who := by
  unfold reach2
  repeat' split
  all_goals rfl
theorem reach2_to {n t : Nat} {o : OpS} (h : o.to = -1) : (reach2 n t o).to = -1 ↔ ¬ (n < 2 * o.many ∧ o.second = true) := by
  unfold reach2
  split
  · rename_i h1; exact ⟨fun _ h2 => by omega, fun _ => h⟩
  · rename_i h1
    split
    · rename_i h2; exact ⟨fun h3 => absurd h3 (by show ¬ ((t : Int) = -1); omega), fun h3 => absurd ⟨by omega, h2⟩ h3⟩
    · rename_i h2; exact ⟨fun _ h3 => h2 h3.2, fun _ => h⟩
theorem rok_reach {n t i a : Nat} {s : RS} (h : ROK n t s) (hi : i < s.k) (hto : (s.op i).to = -1) (ha : a < n) : ROK n (t + 1) (rreach n i a t s).2 := by
  have ho := h.op i hi
  have hk := h.k
  unfold rreach
  split
  · exact h.up
  have h2 := reach2_ok (reach1_ok (a := a) ho h.cp ha) (reach1_b (a := a) ho h.cp) hto
  have hcp : ∀ b, StoOK t ((if (s.op i).second = true then rstore s.cp a (s.op i).b else s.cp) b) := fun b => by
    split
    · exact rstore_ok h.cp ho.b b
    · exact h.cp b
  have hto2 : (reach2 n t (reach1 a s.cp (s.op i))).to = -1 ↔ ¬ (n < 2 * ((s.op i).many + 1) ∧ (s.op i).second = true) := reach2_to (n := n) (t := t) (o := reach1 a s.cp (s.op i)) hto
  have hnow : s.now (s.op i).who.toNat = some i := h.at_ i hi hto
  refine ⟨fun b => (hcp b).up, fun j hj => ?_, fun j l hj0 => ?_, fun j hj ht => ?_, by show s.k ≤ t + 1; omega⟩
  · show OpOK n (t + 1) (upd s.op i (reach2 n t (reach1 a s.cp (s.op i))) j)
    have hj : j < s.k := hj
    by_cases e : j = i
    · subst e; rw [upd_same]; exact h2
    · rw [upd_other e]; exact h.up.op j hj
  · have hj : (if n < 2 * ((s.op i).many + 1) ∧ (s.op i).second = true then upd s.now (s.op i).who.toNat none else s.now) j = some l := hj0
    clear hj0
    show l < s.k ∧ (upd s.op i (reach2 n t (reach1 a s.cp (s.op i))) l).who = j ∧ (upd s.op i (reach2 n t (reach1 a s.cp (s.op i))) l).to = -1
    have hj2 : s.now j = some l ∧ (l = i → ¬ (n < 2 * ((s.op i).many + 1) ∧ (s.op i).second = true)) := by
      split at hj
      · by_cases e : j = (s.op i).who.toNat
        · subst e; rw [upd_same] at hj; cases hj
        · rw [upd_other e] at hj
          refine ⟨hj, fun e2 => ?_⟩
          subst e2
          have := (h.now j l hj).2.1
          omega
      · rename_i hc; exact ⟨hj, fun _ => hc⟩
    obtain ⟨h3, h4, h5⟩ := h.now j l hj2.1
    refine ⟨h3, ?_⟩
    by_cases e : l = i
    · subst e; rw [upd_same]
      exact ⟨reach2_who.trans h4, hto2.2 (hj2.2 rfl)⟩
    · rw [upd_other e]; exact ⟨h4, h5⟩
  · have hj : j < s.k := hj
    have ht : (upd s.op i (reach2 n t (reach1 a s.cp (s.op i))) j).to = -1 := ht
    show (if n < 2 * ((s.op i).many + 1) ∧ (s.op i).second = true then upd s.now (s.op i).who.toNat none else s.now) (upd s.op i (reach2 n t (reach1 a s.cp (s.op i))) j).who.toNat = some j
    by_cases e : j = i
    · subst e
      rw [upd_same] at ht ⊢
      rw [if_neg (hto2.1 ht), reach2_who]
      exact hnow
    · rw [upd_other e] at ht ⊢
      have h6 := h.at_ j hj ht
      split
      · rw [upd_other]
        · exact h6
        · intro e2; rw [e2, hnow] at h6; cases h6; exact e rfl
      · exact h6
theorem rok_late {n t : Nat} {s : RS} {c : Call} (h : ROK n t s) : ROK n (t + 1) (rlate c s).2 := by
  unfold rlate
  split
  · exact h.up
  rename_i h1
  rw [not_or] at h1
  have ho := h.op c.of_.toNat (by omega)
  exact { h.up with cp := fun b => (rstore_ok h.cp ho.b b).up }
theorem rok_step {n t : Nat} {s : RS} {c : Call} (h : ROK n t s) : ROK n (t + 1) (rstep n c t s).2 := by
  unfold rstep
  split
  · exact h.up
  split
  · exact h.up
  rename_i h1 h2
  rw [not_or] at h2
  split
  · exact rok_begin h (by omega)
  split
  · split
    · exact h.up
    · rename_i i hi
      obtain ⟨h3, h4, h5⟩ := h.now _ _ hi
      exact rok_reach h h3 h5 (by omega)
  · exact rok_late h
theorem rok (n : Nat) (f : Nat → Call) : ∀ t, ROK n t (rst n f t)
  | 0 => rok0 n
  | t + 1 => rok_step (rok n f t)
end Go.Proofs.Ytnggjekppdlaoaa
