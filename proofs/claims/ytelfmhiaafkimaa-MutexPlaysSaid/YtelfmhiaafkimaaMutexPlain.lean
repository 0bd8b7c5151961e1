/- One at a time: what the program does, and the document's one list of letters. No program in sight. -/
import Derived.Test.YtelfmhiaafkimaaHp2
set_option linter.unusedSimpArgs false
set_option linter.unusedVariables false
namespace Go.Proofs.Ytelfmhiaafkimaa
open Go Go.RowKit Go.VC
set_option linter.unusedSimpArgs false
set_option linter.unusedVariables false

structure MP where
  n : Int
  how : Int
  key : Int
  yes : Int
  waits : List Nat
structure MxS where
  pr : Nat → MP
  way : Nat → Nat → List Int
  inn : List Nat
def mx0 : MxS := ⟨fun _ => ⟨0, 0, 0, 0, []⟩, fun _ _ => [], []⟩
structure MoveC where
  kind : Int
  who : Int
  frm : Int
def msend (i j : Nat) (x : Int) (s : MxS) : MxS := { s with way := fun a b => if a = i ∧ b = j then s.way a b ++ [x] else s.way a b }
def menter (n i : Nat) (s : MxS) : MxS :=
  if (s.pr i).how = 1 ∧ (s.pr i).yes = (n : Int) - 1 then { s with pr := upd s.pr i { s.pr i with how := 2 }, inn := s.inn ++ [i] } else s
/-- To all others. -/
def msendAll (i : Nat) (x : Int) : Nat → MxS → MxS
  | 0, s => s
  | m + 1, s => if m = i then msendAll i x m s else msend i m x (msendAll i x m s)
def msendL (i : Nat) (x : Int) (l : List Nat) (s : MxS) : MxS := l.foldl (fun s j => msend i j x s) s
def mineB (k : Int) (i : Nat) (x : Int) (j : Nat) : Bool := decide (k < x ∨ (k = x ∧ i < j))
def mask (n i : Nat) (s : MxS) : Int × MxS :=
  if (s.pr i).how ≠ 0 then (6, s)
  else (0, menter n i (msendAll i ((s.pr i).n + 1) n { s with pr := upd s.pr i { s.pr i with n := (s.pr i).n + 1, how := 1, key := (s.pr i).n + 1, yes := 0 } }))
def mtake (n i j : Nat) (s : MxS) : Int × MxS :=
  match s.way j i with
  | [] => (5, s)
  | x :: q =>
    if x = 0 then (0, menter n i { s with way := (fun a b => if a = j ∧ b = i then q else s.way a b), pr := upd s.pr i { s.pr i with yes := (s.pr i).yes + 1 } })
    else if (s.pr i).how = 2 ∨ ((s.pr i).how = 1 ∧ mineB (s.pr i).key i x j = true) then
      (0, { s with way := (fun a b => if a = j ∧ b = i then q else s.way a b), pr := upd s.pr i { s.pr i with n := max (s.pr i).n x, waits := (s.pr i).waits ++ [j] } })
    else (0, msend i j 0 { s with way := (fun a b => if a = j ∧ b = i then q else s.way a b), pr := upd s.pr i { s.pr i with n := max (s.pr i).n x } })
def mleave (i : Nat) (s : MxS) : Int × MxS :=
  if (s.pr i).how ≠ 2 then (6, s)
  else (0, msendL i 0 (s.pr i).waits { s with pr := upd s.pr i { s.pr i with how := 0, waits := [] } })
def mxstep (n : Nat) (c : MoveC) (s : MxS) : Int × MxS :=
  if c.kind < 1 ∨ 3 < c.kind then (4, s)
  else if (c.who < 0 ∨ n ≤ c.who) ∨ (c.kind = 2 ∧ ((c.frm < 0 ∨ n ≤ c.frm) ∨ c.frm = c.who)) then (2, s)
  else if c.kind = 1 then mask n c.who.toNat s
  else if c.kind = 2 then mtake n c.who.toNat c.frm.toNat s
  else mleave c.who.toNat s
theorem msend_pr {i j : Nat} {x : Int} {s : MxS} : (msend i j x s).pr = s.pr := rfl
theorem msendAll_pr {i : Nat} {x : Int} : ∀ {m : Nat} {s : MxS}, (msendAll i x m s).pr = s.pr
  | 0, s => rfl
  | m + 1, s => by
    unfold msendAll
    split
    · exact msendAll_pr
    · exact (msend_pr).trans msendAll_pr
theorem msendL_pr {i : Nat} {x : Int} : ∀ {l : List Nat} {s : MxS}, (msendL i x l s).pr = s.pr
  | [], s => rfl
  | j :: l, s => by
    show (msendL i x l (msend i j x s)).pr = s.pr
    rw [msendL_pr]; rfl
/-- Nobody stands at the door: who asks and has all yeses is inside. -/
def NoDoor (n : Nat) (s : MxS) : Prop := ∀ i, ¬ ((s.pr i).how = 1 ∧ (s.pr i).yes = (n : Int) - 1)
theorem menter_same {n i : Nat} {s : MxS} (h : NoDoor n s) : menter n i s = s := if_neg (h i)
theorem noDoor_enter {n i : Nat} {s : MxS} (h : ∀ j, j ≠ i → ¬ ((s.pr j).how = 1 ∧ (s.pr j).yes = (n : Int) - 1)) : NoDoor n (menter n i s) := fun j => by
  unfold menter
  by_cases hc : (s.pr i).how = 1 ∧ (s.pr i).yes = (n : Int) - 1
  · rw [if_pos hc]
    show ¬ ((upd s.pr i { s.pr i with how := 2 } j).how = 1 ∧ (upd s.pr i { s.pr i with how := 2 } j).yes = (n : Int) - 1)
    by_cases e : j = i
    · rw [e, upd_same]; intro hh; have h2 : (2 : Int) = 1 := hh.1; omega
    · rw [upd_other e]; exact h j e
  · rw [if_neg hc]
    by_cases e : j = i
    · rw [e]; exact hc
    · exact h j e
theorem noDoor_upd {n i : Nat} {s s' : MxS} {p : MP} (h : NoDoor n s) (hp : s'.pr = upd s.pr i p) (hi : ¬ (p.how = 1 ∧ p.yes = (n : Int) - 1)) : NoDoor n s' := fun j => by
  rw [hp]
  by_cases e : j = i
  · rw [e, upd_same]; exact hi
  · rw [upd_other e]; exact h j
theorem noDoor_others {n i : Nat} {s s' : MxS} {p : MP} (h : NoDoor n s) (hp : s'.pr = upd s.pr i p) : NoDoor n (menter n i s') := noDoor_enter fun j e => by
  rw [hp, upd_other e]; exact h j
theorem noDoor_step {n : Nat} {c : MoveC} {s : MxS} (h : NoDoor n s) : NoDoor n (mxstep n c s).2 := by
  unfold mxstep
  split
  · exact h
  split
  · exact h
  split
  · unfold mask
    split
    · exact h
    · exact noDoor_others h msendAll_pr
  split
  · unfold mtake
    split
    · exact h
    split
    · exact noDoor_others h rfl
    split
    · exact noDoor_upd h rfl (h _)
    · exact noDoor_upd h rfl (h _)
  · unfold mleave
    split
    · exact h
    · exact noDoor_upd h msendL_pr (fun hh => by have h2 : (0 : Int) = 1 := hh.1; omega)
/-- A letter. -/
structure Letter where
  fr : Int
  to : Int
  what : Int
  come : Bool
def wayL (l : List Letter) (i j : Nat) : List Int := (l.filter fun (x : Letter) => !x.come && decide (x.fr = (i : Int)) && decide (x.to = (j : Int))).map Letter.what
theorem wayL_snoc (l : List Letter) (a b : Nat) (x : Int) (i j : Nat) : wayL (l ++ [⟨a, b, x, false⟩]) i j = if i = a ∧ j = b then wayL l i j ++ [x] else wayL l i j := by
  unfold wayL
  rw [List.filter_append, List.map_append]
  by_cases e : i = a ∧ j = b
  · obtain ⟨rfl, rfl⟩ := e
    rw [if_pos ⟨rfl, rfl⟩]
    simp
  · rw [if_neg e]
    have : ([⟨a, b, x, false⟩] : List Letter).filter (fun (x : Letter) => !x.come && decide (x.fr = (i : Int)) && decide (x.to = (j : Int))) = [] := by
      rw [List.filter_cons, if_neg]
      · rfl
      · show ¬ ((true && decide ((a : Int) = (i : Int)) && decide ((b : Int) = (j : Int))) = true)
        rw [Bool.true_and, Bool.and_eq_true, decide_eq_true_eq, decide_eq_true_eq]
        exact fun hh => e ⟨by omega, by omega⟩
    rw [this, List.map_nil, List.append_nil]
def isL (i j : Nat) (x : Letter) : Bool := !x.come && decide (x.fr = (i : Int)) && decide (x.to = (j : Int))
theorem wayL_cons (x : Letter) (l : List Letter) (i j : Nat) : wayL (x :: l) i j = if isL i j x = true then x.what :: wayL l i j else wayL l i j := by
  unfold wayL isL
  rw [List.filter_cons]
  split <;> rfl
/-- The first letter on a way. -/
def firstL (i j : Nat) : List Letter → Option Nat
  | [] => none
  | x :: l => if isL i j x = true then some 0 else (firstL i j l).map (· + 1)
theorem firstL_none {i j : Nat} : ∀ {l : List Letter}, firstL i j l = none → wayL l i j = []
  | [], _ => rfl
  | x :: l, h => by
    unfold firstL at h
    rw [wayL_cons]
    by_cases e : isL i j x = true
    · rw [if_pos e] at h; cases h
    · rw [if_neg e] at h ⊢
      exact firstL_none (Option.map_eq_none_iff.1 h)
def comeL (x : Letter) : Letter := { x with come := true }
theorem firstL_some {i j : Nat} : ∀ {l : List Letter} {k : Nat}, firstL i j l = some k → ∃ x, l[k]? = some x ∧ isL i j x = true ∧ wayL l i j = x.what :: wayL (l.set k (comeL x)) i j ∧ ∀ a b, ¬ (a = i ∧ b = j) → wayL (l.set k (comeL x)) a b = wayL l a b
  | [], _, h => by cases h
  | x :: l, k, h => by
    unfold firstL at h
    by_cases e : isL i j x = true
    · rw [if_pos e] at h
      cases h
      have hc : ∀ a b, isL a b (comeL x) = false := fun a b => rfl
      refine ⟨x, rfl, e, ?_, fun a b hab => ?_⟩
      · rw [wayL_cons, if_pos e, List.set_cons_zero, wayL_cons, hc]; rfl
      · rw [List.set_cons_zero, wayL_cons, wayL_cons, hc, if_neg (fun h => by cases h), if_neg]
        intro h2
        unfold isL at e h2
        simp only [Bool.and_eq_true, decide_eq_true_eq] at e h2
        exact hab ⟨by omega, by omega⟩
    · rw [if_neg e] at h
      cases hf : firstL i j l with
      | none => rw [hf] at h; cases h
      | some k' =>
        rw [hf] at h
        have hk : k' + 1 = k := by simpa using h
        subst hk
        obtain ⟨y, h1, h2, h3, h4⟩ := firstL_some hf
        refine ⟨y, by simpa using h1, h2, ?_, fun a b hab => ?_⟩
        · rw [wayL_cons, if_neg e, List.set_cons_succ, wayL_cons, if_neg e]; exact h3
        · rw [List.set_cons_succ, wayL_cons, wayL_cons, h4 a b hab]
end Go.Proofs.Ytelfmhiaafkimaa
