/- A choice: what the program does, and what the document keeps beside it. No program in sight. -/
import Derived.Test.YtelfmhiaafkimaaHp2
set_option linter.unusedSimpArgs false
set_option linter.unusedVariables false
namespace Go.Proofs.Ytelfmhiaafkimaa
open Go Go.RowKit Go.VC
set_option linter.unusedSimpArgs false
set_option linter.unusedVariables false

/-- A ballot: a number and a value. -/
structure Bal where
  n : Int
  v : Int
/-- A ballot under way. -/
structure BalS where
  own : Int
  best : Bal
  prom : Nat
  fixed : Bool
  took : Nat → Bool
  tooks : Nat
structure Vtr where
  p : Int
  tk : Bal
structure PS where
  vt : Nat → Vtr
  k : Nat
  num : Nat → Int
  bal : Nat → BalS
  fixd : List Bal
  chosen : List Bal
structure TryC where
  kind : Int
  ballot : Int
  who : Int
  val : Int
def bal0 : Bal := ⟨0, 0⟩
def ps0 : PS := ⟨fun _ => ⟨0, bal0⟩, 0, fun _ => 0, fun _ => ⟨0, bal0, 0, false, fun _ => false, 0⟩, [], []⟩
/-- The place of a ballot. -/
def pidx (num : Nat → Int) (b : Int) : Nat → Option Nat
  | 0 => none
  | k + 1 => if num k = b then some k else pidx num b k
/-- What was told last is the greatest, if it is greater. -/
def told1 (x tk : Bal) : Bal := if x.n < tk.n then tk else x
def fixB (own b : Int) (x : Bal) : Bal := ⟨b, if x.n = 0 then own else x.v⟩
def pask (n i a : Nat) (s : PS) : Int × PS :=
  if s.num i ≤ (s.vt a).p then (6, s)
  else if (s.bal i).fixed = true then (0, { s with vt := upd s.vt a ⟨s.num i, (s.vt a).tk⟩ })
  else if n < 2 * ((s.bal i).prom + 1) then
    (0, { s with vt := upd s.vt a ⟨s.num i, (s.vt a).tk⟩, bal := upd s.bal i { s.bal i with best := fixB (s.bal i).own (s.num i) (told1 (s.bal i).best (s.vt a).tk), prom := (s.bal i).prom + 1, fixed := true }, fixd := s.fixd ++ [fixB (s.bal i).own (s.num i) (told1 (s.bal i).best (s.vt a).tk)] })
  else (0, { s with vt := upd s.vt a ⟨s.num i, (s.vt a).tk⟩, bal := upd s.bal i { s.bal i with best := told1 (s.bal i).best (s.vt a).tk, prom := (s.bal i).prom + 1 } })
/-- How many have taken a ballot, behind one more. -/
def tooks1 (o : BalS) (a : Nat) : Nat := if o.took a = true then o.tooks else o.tooks + 1
def ptake (n i a : Nat) (s : PS) : Int × PS :=
  if (s.bal i).fixed = false ∨ s.num i < (s.vt a).p then (6, s)
  else (0, { s with vt := upd s.vt a ⟨s.num i, (s.bal i).best⟩, bal := upd s.bal i { s.bal i with took := upd (s.bal i).took a true, tooks := tooks1 (s.bal i) a }, chosen := (if n < 2 * tooks1 (s.bal i) a ∧ ¬ n < 2 * (s.bal i).tooks then s.chosen ++ [(s.bal i).best] else s.chosen) })
def pbegin (t : TryC) (s : PS) : PS := { s with k := s.k + 1, num := upd s.num s.k t.ballot, bal := upd s.bal s.k ⟨t.val, bal0, 0, false, fun _ => false, 0⟩ }
def pstep (n : Nat) (t : TryC) (s : PS) : Int × PS :=
  if t.kind < 1 ∨ 3 < t.kind then (4, s)
  else if t.ballot < 1 ∨ 1000 < t.ballot then (2, s)
  else match pidx s.num t.ballot s.k with
    | none => if t.kind = 1 then (0, pbegin t s) else (2, s)
    | some i => if t.kind = 1 then (6, s) else if t.who < 0 ∨ n ≤ t.who then (2, s) else if t.kind = 2 then pask n i t.who.toNat s else ptake n i t.who.toNat s
def pst (n : Nat) (f : Nat → TryC) : Nat → PS
  | 0 => ps0
  | t + 1 => (pstep n (f t) (pst n f t)).2
def pcode (n : Nat) (f : Nat → TryC) (t : Nat) : Int := (pstep n (f t) (pst n f t)).1

theorem pidx_some {num : Nat → Int} {b : Int} {i : Nat} : ∀ {k : Nat}, pidx num b k = some i → i < k ∧ num i = b
  | 0, h => by cases h
  | k + 1, h => by
    unfold pidx at h
    split at h
    · rename_i h1; cases h; exact ⟨by omega, h1⟩
    · have := pidx_some h; exact ⟨by omega, this.2⟩
theorem pidx_none {num : Nat → Int} {b : Int} : ∀ {k : Nat}, pidx num b k = none → ∀ i, i < k → num i ≠ b
  | 0, _, i, hi => absurd hi (Nat.not_lt_zero i)
  | k + 1, h, i, hi => by
    unfold pidx at h
    split at h
    · cases h
    · rename_i h1
      by_cases e : i = k
      · subst e; exact h1
      · exact pidx_none h i (by omega)
theorem pidx_of {num : Nat → Int} {b : Int} {k i : Nat} (hinj : ∀ i j, i < k → j < k → num i = num j → i = j) (hi : i < k) (hb : num i = b) : pidx num b k = some i := by
  cases h : pidx num b k with
  | none => exact absurd hb (pidx_none h i hi)
  | some j =>
    obtain ⟨h1, h2⟩ := pidx_some h
    rw [hinj j i h1 hi (h2.trans hb.symm)]
theorem pidx_upd {num : Nat → Int} {b x : Int} : ∀ {k m : Nat}, k ≤ m → pidx (upd num m x) b k = pidx num b k
  | 0, _, _ => rfl
  | k + 1, m, h => by
    show (if upd num m x k = b then some k else pidx (upd num m x) b k) = if num k = b then some k else pidx num b k
    rw [upd_other (by omega), pidx_upd (by omega)]
structure BOK (x : Bal) : Prop where
  lo : 0 ≤ x.n
  hi : x.n ≤ 1000
structure POK (n t : Nat) (s : PS) : Prop where
  inj : ∀ i j, i < s.k → j < s.k → s.num i = s.num j → i = j
  num : ∀ i, i < s.k → 1 ≤ s.num i ∧ s.num i ≤ 1000
  vt : ∀ a, (0 ≤ (s.vt a).p ∧ (s.vt a).p ≤ 1000) ∧ BOK (s.vt a).tk
  bal : ∀ i, i < s.k → BOK (s.bal i).best ∧ (s.bal i).prom ≤ t ∧ (s.bal i).tooks ≤ t
  k : s.k ≤ t
  fixd : s.fixd.length ≤ t
  chosen : s.chosen.length ≤ t
theorem POK.up {n t : Nat} {s : PS} (h : POK n t s) : POK n (t + 1) s :=
  ⟨h.inj, h.num, h.vt, fun i hi => ⟨(h.bal i hi).1, by have := (h.bal i hi).2; omega⟩, by have := h.k; omega, by have := h.fixd; omega, by have := h.chosen; omega⟩
theorem pok0 (n : Nat) : POK n 0 ps0 := ⟨fun i j hi => absurd hi (Nat.not_lt_zero i), fun i hi => absurd hi (Nat.not_lt_zero i), fun a => ⟨⟨Int.le_refl _, by show (0 : Int) ≤ 1000; omega⟩, ⟨Int.le_refl _, by show (0 : Int) ≤ 1000; omega⟩⟩, fun i hi => absurd hi (Nat.not_lt_zero i), Nat.le_refl _, Nat.le_refl _, Nat.le_refl _⟩
theorem told1_ok {x y : Bal} (hx : BOK x) (hy : BOK y) : BOK (told1 x y) := by unfold told1; split; exact hy; exact hx
theorem upd_at {α : Type} {f : Nat → α} {i j : Nat} {x : α} {Q : α → Prop} (h1 : Q x) (h2 : j ≠ i → Q (f j)) : Q (upd f i x j) := by
  by_cases e : j = i
  · subst e; rw [upd_same]; exact h1
  · rw [upd_other e]; exact h2 e
theorem pok_step {n t : Nat} {s : PS} {c : TryC} (h : POK n t s) : POK n (t + 1) (pstep n c s).2 := by
  unfold pstep
  split
  · exact h.up
  split
  · exact h.up
  rename_i h1 h2
  cases hp : pidx s.num c.ballot s.k with
  | none =>
    show POK n (t + 1) (if c.kind = 1 then (0, pbegin c s) else (2, s)).2
    split
    · have hnone := pidx_none hp
      have hk := h.k
      refine ⟨fun i j hi hj e => ?_, fun i hi => ?_, h.vt, fun i hi => ?_, by show s.k + 1 ≤ t + 1; omega, h.up.fixd, h.up.chosen⟩
      · have hi : i < s.k + 1 := hi
        have hj : j < s.k + 1 := hj
        have e : upd s.num s.k c.ballot i = upd s.num s.k c.ballot j := e
        by_cases e1 : i = s.k
        · by_cases e2 : j = s.k
          · omega
          · rw [e1, upd_same, upd_other e2] at e
            exact absurd e.symm (hnone j (by omega))
        · by_cases e2 : j = s.k
          · rw [e2, upd_same, upd_other e1] at e
            exact absurd e (hnone i (by omega))
          · rw [upd_other e1, upd_other e2] at e
            exact h.inj i j (by omega) (by omega) e
      · have hi : i < s.k + 1 := hi
        exact upd_at (f := s.num) (Q := fun x => 1 ≤ x ∧ x ≤ 1000) (by omega) fun e => h.num i (by omega)
      · have hi : i < s.k + 1 := hi
        refine upd_at (f := s.bal) (Q := fun x => BOK x.best ∧ x.prom ≤ t + 1 ∧ x.tooks ≤ t + 1) ⟨⟨Int.le_refl _, by show (0 : Int) ≤ 1000; omega⟩, Nat.zero_le _, Nat.zero_le _⟩ fun e => h.up.bal i (by omega)
    · exact h.up
  | some i =>
    obtain ⟨hi, hnum⟩ := pidx_some hp
    have hb := h.bal i hi
    have hn := h.num i hi
    show POK n (t + 1) (if c.kind = 1 then (6, s) else if c.who < 0 ∨ n ≤ c.who then (2, s) else if c.kind = 2 then pask n i c.who.toNat s else ptake n i c.who.toNat s).2
    split
    · exact h.up
    split
    · exact h.up
    generalize c.who.toNat = a
    have ha := h.vt a
    split
    · unfold pask
      have ht1 := told1_ok hb.1 ha.2
      split
      · exact h.up
      have hvt : ∀ x, (0 ≤ (upd s.vt a ⟨s.num i, (s.vt a).tk⟩ x).p ∧ (upd s.vt a ⟨s.num i, (s.vt a).tk⟩ x).p ≤ 1000) ∧ BOK (upd s.vt a ⟨s.num i, (s.vt a).tk⟩ x).tk := fun x =>
        upd_at (f := s.vt) (Q := fun v => (0 ≤ v.p ∧ v.p ≤ 1000) ∧ BOK v.tk) ⟨by show 0 ≤ s.num i ∧ s.num i ≤ 1000; omega, ha.2⟩ fun _ => h.vt x
      split
      · exact { h.up with vt := hvt }
      split
      · have hfx := h.fixd
        refine { h.up with vt := hvt, bal := fun j hj => ?_, fixd := by show (s.fixd ++ [_]).length ≤ t + 1; rw [List.length_append]; show s.fixd.length + 1 ≤ t + 1; omega }
        exact upd_at (f := s.bal) (Q := fun x => BOK x.best ∧ x.prom ≤ t + 1 ∧ x.tooks ≤ t + 1) ⟨⟨by show 0 ≤ s.num i; omega, by show s.num i ≤ 1000; omega⟩, by show (s.bal i).prom + 1 ≤ t + 1; omega, by show (s.bal i).tooks ≤ t + 1; omega⟩ fun _ => h.up.bal j hj
      · refine { h.up with vt := hvt, bal := fun j hj => ?_ }
        exact upd_at (f := s.bal) (Q := fun x => BOK x.best ∧ x.prom ≤ t + 1 ∧ x.tooks ≤ t + 1) ⟨ht1, by show (s.bal i).prom + 1 ≤ t + 1; omega, by show (s.bal i).tooks ≤ t + 1; omega⟩ fun _ => h.up.bal j hj
    · unfold ptake
      split
      · exact h.up
      have hvt : ∀ x, (0 ≤ (upd s.vt a ⟨s.num i, (s.bal i).best⟩ x).p ∧ (upd s.vt a ⟨s.num i, (s.bal i).best⟩ x).p ≤ 1000) ∧ BOK (upd s.vt a ⟨s.num i, (s.bal i).best⟩ x).tk := fun x =>
        upd_at (f := s.vt) (Q := fun v => (0 ≤ v.p ∧ v.p ≤ 1000) ∧ BOK v.tk) ⟨by show 0 ≤ s.num i ∧ s.num i ≤ 1000; omega, hb.1⟩ fun _ => h.vt x
      have hch := h.chosen
      have htk : tooks1 (s.bal i) a ≤ t + 1 := by unfold tooks1; split <;> omega
      refine { h.up with vt := hvt, bal := fun j hj => ?_, chosen := ?_ }
      · exact upd_at (f := s.bal) (Q := fun x => BOK x.best ∧ x.prom ≤ t + 1 ∧ x.tooks ≤ t + 1) ⟨hb.1, by show (s.bal i).prom ≤ t + 1; omega, htk⟩ fun _ => h.up.bal j hj
      · show (if n < 2 * tooks1 (s.bal i) a ∧ ¬ n < 2 * (s.bal i).tooks then s.chosen ++ [(s.bal i).best] else s.chosen).length ≤ t + 1
        split
        · rw [List.length_append]; show s.chosen.length + 1 ≤ t + 1; omega
        · omega
theorem pok (n : Nat) (f : Nat → TryC) : ∀ t, POK n t (pst n f t)
  | 0 => pok0 n
  | t + 1 => pok_step (pok n f t)
end Go.Proofs.Ytelfmhiaafkimaa
