/- A picture of what moves: the document's state, and what the program keeps of it. No program in sight. -/
import Derived.Test.YtelfmhiaafkimaaHp2
set_option linter.unusedSimpArgs false
set_option linter.unusedVariables false
namespace Go.Proofs.Ytelfmhiaafkimaa
open Go Go.RowKit Go.VC
set_option linter.unusedSimpArgs false
set_option linter.unusedVariables false

/-- A way: all that was ever sent (-1: a mark), how much has come, how much had come when the one at its end noted. -/
structure Lin where
  sent : List Int
  come : Nat
  noted : Nat
structure SnS where
  money : Nat → Int
  own : Nat → Int
  ln : Nat → Nat → Lin
structure PassC where
  kind : Int
  who : Int
  other : Int
  n : Int
def lin0 : Lin := ⟨[], 0, 0⟩
def sn0 (m : Nat → Int) : SnS := ⟨m, fun _ => -1, fun _ _ => lin0⟩
/-- What the program keeps of a way. -/
def queL (l : Lin) : List Int := l.sent.drop l.come
def openL (l : Lin) : List Int := (l.sent.take l.come).takeWhile fun x => decide (0 ≤ x)
def closB (l : Lin) : Bool := (l.sent.take l.come).any fun x => decide (x < 0)
def betwL (l : Lin) : List Int := (openL l).drop l.noted
def notedL (own : Int) (l : Lin) : List Int := if 0 ≤ own then betwL l else []
def markS (l : Lin) : Lin := { l with sent := l.sent ++ [-1] }
def stopS (l : Lin) : Lin := { l with noted := l.come }
def nnote (i : Nat) (s : SnS) : SnS :=
  if 0 ≤ s.own i then s
  else { s with own := upd s.own i (s.money i), ln := fun a b => if b = i then (if a = i then stopS (s.ln a b) else stopS (s.ln a b)) else if a = i then markS (s.ln a b) else s.ln a b }
def ntake (i j : Nat) (s : SnS) : Int × SnS :=
  if (s.ln j i).come = (s.ln j i).sent.length then (5, s)
  else
    (if (s.ln j i).sent.getD (s.ln j i).come 0 < 0 then (0, nnote i { s with ln := fun a b => if a = j ∧ b = i then { s.ln a b with come := (s.ln a b).come + 1 } else s.ln a b })
     else (0, { s with money := upd s.money i (s.money i + (s.ln j i).sent.getD (s.ln j i).come 0), ln := fun a b => if a = j ∧ b = i then { s.ln a b with come := (s.ln a b).come + 1 } else s.ln a b }))
def nstep (n : Nat) (c : PassC) (s : SnS) : Int × SnS :=
  if c.kind < 1 ∨ 3 < c.kind then (4, s)
  else if c.who < 0 ∨ n ≤ c.who then (2, s)
  else if c.kind = 3 then (if 0 ≤ s.own c.who.toNat then (6, s) else (0, nnote c.who.toNat s))
  else if (c.other < 0 ∨ n ≤ c.other) ∨ c.other = c.who then (2, s)
  else if c.kind = 2 then ntake c.who.toNat c.other.toNat s
  else if c.n < 1 ∨ s.money c.who.toNat < c.n then (2, s)
  else (0, { s with money := upd s.money c.who.toNat (s.money c.who.toNat - c.n), ln := fun a b => if a = c.who.toNat ∧ b = c.other.toNat then { s.ln a b with sent := (s.ln a b).sent ++ [c.n] } else s.ln a b })

/-- A way's own order. -/
structure LOK (l : Lin) : Prop where
  a : l.noted ≤ l.come
  b : l.come ≤ l.sent.length
theorem take_more {l : List Int} {k : Nat} (h : k < l.length) : l.take (k + 1) = l.take k ++ [l.getD k 0] := by
  rw [List.take_succ_eq_append_getElem h, List.getD_eq_getElem?_getD, List.getElem?_eq_getElem h]; rfl
theorem drop_more {l : List Int} {k : Nat} (h : k < l.length) : l.drop k = l.getD k 0 :: l.drop (k + 1) := by
  rw [List.drop_eq_getElem_cons h, List.getD_eq_getElem?_getD, List.getElem?_eq_getElem h]; rfl
/-- One more is sent. -/
theorem que_sent {l : Lin} (h : LOK l) (x : Int) : queL { l with sent := l.sent ++ [x] } = queL l ++ [x] := by
  unfold queL
  exact List.drop_append_of_le_length h.b
theorem take_sent {l : Lin} (h : LOK l) (x : Int) : (l.sent ++ [x]).take l.come = l.sent.take l.come := List.take_append_of_le_length h.b
theorem clos_sent {l : Lin} (h : LOK l) (x : Int) : closB { l with sent := l.sent ++ [x] } = closB l := by
  show ((l.sent ++ [x]).take l.come).any _ = _
  rw [take_sent h]; rfl
theorem betw_sent {l : Lin} (h : LOK l) (x : Int) : betwL { l with sent := l.sent ++ [x] } = betwL l := by
  show (((l.sent ++ [x]).take l.come).takeWhile _).drop l.noted = _
  rw [take_sent h]; rfl
/-- The first one comes. -/
theorem que_come {l : Lin} (h : l.come < l.sent.length) : queL l = l.sent.getD l.come 0 :: queL { l with come := l.come + 1 } := drop_more h
theorem clos_come {l : Lin} (h : l.come < l.sent.length) : closB { l with come := l.come + 1 } = (closB l || decide (l.sent.getD l.come 0 < 0)) := by
  show (l.sent.take (l.come + 1)).any _ = _
  rw [take_more h, List.any_append]
  show _ = ((l.sent.take l.come).any _ || _)
  simp
theorem open_all {l : Lin} (h : closB l = false) : openL l = l.sent.take l.come := by
  unfold closB at h
  unfold openL
  rw [List.any_eq_false] at h
  have key : ∀ xs : List Int, (∀ x ∈ xs, 0 ≤ x) → xs.takeWhile (fun x => decide (0 ≤ x)) = xs := by
    intro xs
    induction xs with
    | nil => intro _; rfl
    | cons x xs ih =>
      intro hx
      rw [List.takeWhile_cons, decide_eq_true (hx x (by simp))]
      exact congrArg (x :: ·) (ih fun y hy => hx y (by simp [hy]))
  exact key _ fun x hx => by have := h x hx; simpa using this
theorem takeWhile_clos {p : Int → Bool} : ∀ {xs ys : List Int}, (∃ x ∈ xs, p x = false) → (xs ++ ys).takeWhile p = xs.takeWhile p
  | [], _, h => by obtain ⟨x, hx, _⟩ := h; cases hx
  | x :: xs, ys, h => by
    rw [List.cons_append, List.takeWhile_cons, List.takeWhile_cons]
    cases hp : p x with
    | false => rfl
    | true =>
      obtain ⟨y, hy, hpy⟩ := h
      rcases List.mem_cons.1 hy with rfl | hy
      · rw [hp] at hpy; cases hpy
      · exact congrArg (x :: ·) (takeWhile_clos ⟨y, hy, hpy⟩)
theorem open_come {l : Lin} (h : l.come < l.sent.length) : openL { l with come := l.come + 1 } = if closB l = false ∧ 0 ≤ l.sent.getD l.come 0 then openL l ++ [l.sent.getD l.come 0] else openL l := by
  show (l.sent.take (l.come + 1)).takeWhile _ = _
  rw [take_more h]
  cases hc : closB l with
  | true =>
    rw [if_neg (fun hh => by cases hh.1)]
    unfold closB at hc
    rw [List.any_eq_true] at hc
    obtain ⟨x, hx, hd⟩ := hc
    rw [decide_eq_true_eq] at hd
    exact takeWhile_clos ⟨x, hx, decide_eq_false (by omega)⟩
  | false =>
    have hall := open_all hc
    unfold closB at hc
    rw [List.any_eq_false] at hc
    have hxs : ∀ x ∈ l.sent.take l.come, decide (0 ≤ x) = true := fun x hx => by have := hc x hx; simpa using this
    rw [List.takeWhile_append_of_pos hxs]
    by_cases h0 : 0 ≤ l.sent.getD l.come 0
    · rw [if_pos ⟨rfl, h0⟩, hall, List.takeWhile_cons, decide_eq_true h0]; rfl
    · rw [if_neg (fun hh => h0 hh.2), hall, List.takeWhile_cons, decide_eq_false h0]
      exact List.append_nil _
theorem open_len {l : Lin} (h : LOK l) : (openL l).length ≤ l.come := by
  refine Nat.le_trans (List.takeWhile_sublist _).length_le ?_
  rw [List.length_take]; exact Nat.min_le_left _ _
/-- What is noted when money comes. -/
theorem betw_come {l : Lin} (h : LOK l) (hc : l.come < l.sent.length) (h0 : 0 ≤ l.sent.getD l.come 0) : betwL { l with come := l.come + 1 } = if closB l = false then betwL l ++ [l.sent.getD l.come 0] else betwL l := by
  unfold betwL
  rw [open_come hc]
  cases hb : closB l with
  | true => rw [if_neg (fun hh => by cases hh.1), if_neg (fun hh => by cases hh)]
  | false =>
    rw [if_pos ⟨rfl, h0⟩, if_pos rfl]
    have hl : (openL l).length = l.come := by rw [open_all hb, List.length_take]; exact Nat.min_eq_left h.b
    exact List.drop_append_of_le_length (by show l.noted ≤ _; rw [hl]; exact h.a)
theorem betw_mark {l : Lin} (hc : l.come < l.sent.length) (h0 : l.sent.getD l.come 0 < 0) : betwL { l with come := l.come + 1 } = betwL l := by
  unfold betwL
  rw [open_come hc, if_neg (fun hh => by have := hh.2; omega)]
theorem betw_stop {l : Lin} (h : LOK l) : betwL (stopS l) = [] := by
  show (openL l).drop l.come = []
  exact List.drop_eq_nil_of_le (open_len h)
end Go.Proofs.Ytelfmhiaafkimaa
