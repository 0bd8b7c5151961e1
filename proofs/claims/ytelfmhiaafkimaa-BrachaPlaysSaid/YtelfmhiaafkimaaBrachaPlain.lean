/- One word for all: what the program does, and what the document keeps beside it. No program in sight. -/
import Derived.Test.YtelfmhiaafkimaaHp2
set_option linter.unusedSimpArgs false
set_option linter.unusedVariables false
namespace Go.Proofs.Ytelfmhiaafkimaa
open Go Go.RowKit Go.VC
set_option linter.unusedSimpArgs false
set_option linter.unusedVariables false

structure Note where
  fr : Int
  to : Int
  what : Int
  n : Int
  come : Bool
/-- What one has counted (the first of each, of each kind), and done by it. -/
structure MindS where
  cnt : List Note
  echo : Bool
  ready : Bool
  has : Bool
  word : Int
  value : Int
def mind0 : MindS := ⟨[], false, false, false, 0, 0⟩
/-- How many sent one a kind with a value, this one with them. -/
def sameN (l : List Note) (x : Note) : Nat := l.countP (fun y => decide (y.what = x.what ∧ y.n = x.n)) + 1
def knownB (l : List Note) (x : Note) : Bool := l.any fun y => decide (y.fr = x.fr ∧ y.what = x.what)
abbrev readyP (n f : Nat) (l : List Note) (x : Note) : Prop := (x.what = 2 ∧ n + f < 2 * sameN l x) ∨ (x.what = 3 ∧ f < sameN l x)
abbrev hasP (f : Nat) (l : List Note) (x : Note) : Prop := x.what = 3 ∧ 2 * f < sameN l x
abbrev echoP (sender : Int) (x : Note) : Prop := x.what = 1 ∧ x.fr = sender
/-- One that was not known is counted. -/
def mindF (n f : Nat) (sender : Int) (m : MindS) (x : Note) : MindS :=
  if knownB m.cnt x = true then m
  else
    { cnt := m.cnt ++ [x], echo := m.echo || decide (echoP sender x), ready := m.ready || decide (readyP n f m.cnt x), has := m.has || decide (hasP f m.cnt x)
      word := if (echoP sender x ∧ m.echo = false) ∨ (readyP n f m.cnt x ∧ m.ready = false) then x.n else m.word, value := if hasP f m.cnt x ∧ m.has = false then x.n else m.value }
def mindL (n f : Nat) (sender : Int) (l : List Note) : MindS := l.foldl (mindF n f sender) mind0
theorem mindL_snoc {n f : Nat} {sender : Int} (l : List Note) (x : Note) : mindL n f sender (l ++ [x]) = mindF n f sender (mindL n f sender l) x := by
  unfold mindL; rw [List.foldl_append]; rfl
/-- Messages, which have come in order, and what each one has in mind. -/
structure BS where
  all : List Note
  came : List Nat
  mi : Nat → MindS
  started : Bool
def bs0 : BS := ⟨[], [], fun _ => mind0, false⟩
def note0 : Note := ⟨0, 0, 0, 0, false⟩
def sendL (n : Nat) (i : Int) (what v : Int) : List Note := (List.range n).map fun (j : Nat) => ⟨i, (j : Int), what, v, false⟩
theorem sendL_length (n : Nat) (i what v : Int) : (sendL n i what v).length = n := by unfold sendL; simp
/-- What one sends by what it has in mind now, and had ahead. -/
def saysL (n : Nat) (i : Int) (was is : MindS) : List Note :=
  (if is.echo = true ∧ was.echo = false then sendL n i 2 is.word else []) ++ (if is.ready = true ∧ was.ready = false then sendL n i 3 is.word else [])
def arr (x : Note) : Note := { x with come := true }
def bcome (n f liars : Nat) (sender : Int) (k : Nat) (s : BS) : BS :=
  if liars.testBit (s.all.getD k note0).to.toNat = true then { s with all := s.all.set k (arr (s.all.getD k note0)), came := s.came ++ [k] }
  else { s with all := s.all.set k (arr (s.all.getD k note0)) ++ saysL n (s.all.getD k note0).to (s.mi (s.all.getD k note0).to.toNat) (mindF n f sender (s.mi (s.all.getD k note0).to.toNat) (arr (s.all.getD k note0))),
                came := s.came ++ [k], mi := upd s.mi (s.all.getD k note0).to.toNat (mindF n f sender (s.mi (s.all.getD k note0).to.toNat) (arr (s.all.getD k note0))) }
structure SprC where
  kind : Int
  fr : Int
  to : Int
  what : Int
  msg : Int
  n : Int
def bforge (n liars : Nat) (c : SprC) (s : BS) : Int × BS :=
  if ((c.fr < 0 ∨ n ≤ c.fr) ∨ liars.testBit c.fr.toNat = false) ∨ (c.to < 0 ∨ n ≤ c.to) then (2, s)
  else if c.what < 1 ∨ 3 < c.what then (4, s)
  else (0, { s with all := s.all ++ [⟨c.fr, c.to, c.what, c.n, false⟩] })
/-- All that has not come comes, one after the other. -/
def ball (n f liars : Nat) (sender : Int) : Nat → Nat → BS → BS
  | 0, _, s => s
  | m + 1, k, s => if k < s.all.length then ball n f liars sender m (k + 1) (if (s.all.getD k note0).come = true then s else bcome n f liars sender k s) else s
theorem ball_done {n f liars : Nat} {sender : Int} {m k : Nat} {s : BS} (h : s.all.length ≤ k) : ball n f liars sender m k s = s := by
  cases m with
  | zero => rfl
  | succ m => unfold ball; rw [if_neg (by omega)]
def bstep (n f liars sender : Nat) (c : SprC) (s : BS) : Int × BS :=
  if c.kind = 1 then (if s.started = true ∨ liars.testBit sender = true then (6, s) else (0, { s with all := s.all ++ sendL n sender 1 c.n, started := true }))
  else if c.kind = 2 then bforge n liars c s
  else if c.kind = 3 then (if c.msg < 0 ∨ s.all.length ≤ c.msg then (2, s) else if (s.all.getD c.msg.toNat note0).come = true then (6, s) else (0, bcome n f liars sender c.msg.toNat s))
  else if c.kind = 4 then (0, ball n f liars sender 2000 0 s)
  else (4, s)

/-! What the state keeps to. -/
def pendN (m : MindS) : Nat := (if m.echo = true then 0 else 1) + (if m.ready = true then 0 else 1)
def pendS (g : Nat → MindS) : Nat → Nat
  | 0 => 0
  | k + 1 => pendS g k + pendN (g k)
theorem pendS_upd {g : Nat → MindS} {i : Nat} {m : MindS} : ∀ {k : Nat}, pendS (upd g i m) k + (if i < k then pendN (g i) else 0) = pendS g k + (if i < k then pendN m else 0)
  | 0 => by simp [pendS]
  | k + 1 => by
    have ih := pendS_upd (g := g) (i := i) (m := m) (k := k)
    unfold pendS
    by_cases e : k = i
    · subst e
      rw [upd_same, if_pos (by omega), if_pos (by omega)]
      rw [if_neg (by omega), if_neg (by omega)] at ih
      omega
    · rw [upd_other e]
      by_cases h : i < k
      · rw [if_pos (by omega), if_pos (by omega)]
        rw [if_pos h, if_pos h] at ih
        omega
      · rw [if_neg (by omega), if_neg (by omega)]
        rw [if_neg h, if_neg h] at ih
        omega
theorem pendS_le (g : Nat → MindS) : ∀ k, pendS g k ≤ 2 * k
  | 0 => Nat.le_refl _
  | k + 1 => by
    have ih := pendS_le g k
    have h : pendN (g k) ≤ 2 := by unfold pendN; split <;> split <;> omega
    show pendS g k + pendN (g k) ≤ 2 * (k + 1)
    omega
/-- What came to one. -/
def toL (s : BS) (i : Nat) : List Note := (s.came.map fun k => s.all.getD k note0).filter fun x => decide (x.to = (i : Int))
structure NoteOK (n : Nat) (x : Note) : Prop where
  fr : 0 ≤ x.fr ∧ x.fr < n
  to : 0 ≤ x.to ∧ x.to < n
  what : 1 ≤ x.what ∧ x.what ≤ 3
  n : fits .i64 x.n
/-- What was counted of one: of each sender one of each kind. -/
structure CntOK (n : Nat) (l : List Note) : Prop where
  ok : ∀ x ∈ l, NoteOK n x
  one : l.Pairwise fun a b => ¬ (a.fr = b.fr ∧ a.what = b.what)
structure BOK (n f liars : Nat) (sender : Int) (t : Nat) (s : BS) : Prop where
  note : ∀ x ∈ s.all, NoteOK n x
  cap : s.all.length + n * pendS s.mi n ≤ 2 * n * n + 7 * t
  cnt : ∀ i, CntOK n (s.mi i).cnt
  len : ∀ i, (s.mi i).cnt.length ≤ s.came.length
  cin : ∀ k ∈ s.came, k < s.all.length ∧ (s.all.getD k note0).come = true
  many : s.came.length = s.all.countP (·.come)
  liar : ∀ i, liars.testBit i = true → s.mi i = mind0
  mind : ∀ i : Nat, liars.testBit i = false → s.mi i = mindL n f sender (toL s i)
  val : ∀ i, fits .i64 (s.mi i).value
theorem bok0 (n f liars : Nat) (sender : Int) : BOK n f liars sender 0 bs0 where
  note x h := by cases h
  cap := by
    show 0 + n * pendS (fun _ => mind0) n ≤ 2 * n * n + 7 * 0
    have h := Nat.mul_le_mul_left n (pendS_le (fun _ => mind0) n)
    have e : n * (2 * n) = 2 * n * n := by rw [Nat.mul_comm n (2 * n)]
    omega
  cnt i := ⟨fun x h => (by cases h), List.Pairwise.nil⟩
  len i := Nat.zero_le _
  cin k h := by cases h
  many := rfl
  liar i h := rfl
  mind i h := rfl
  val i := fits_i64 (show -9223372036854775808 ≤ (0 : Int) by omega) (show (0 : Int) ≤ 9223372036854775807 by omega)
theorem BOK.all_le {n f liars : Nat} {sender : Int} {t : Nat} {s : BS} (h : BOK n f liars sender t s) (hn : n ≤ 7) : s.all.length ≤ 98 + 7 * t := by
  have h1 := h.cap
  have h2 : 2 * n * n ≤ 2 * 7 * 7 := Nat.mul_le_mul (by omega) hn
  omega
theorem BOK.cnt_le {n f liars : Nat} {sender : Int} {t : Nat} {s : BS} (h : BOK n f liars sender t s) (hn : n ≤ 7) (i : Nat) : (s.mi i).cnt.length ≤ 98 + 7 * t := by
  have h1 := h.all_le hn
  have h2 := h.len i
  have h3 := h.many
  have h4 : s.all.countP (·.come) ≤ s.all.length := List.countP_le_length
  omega
theorem BOK.later {n f liars : Nat} {sender : Int} {t t' : Nat} {s : BS} (h : BOK n f liars sender t s) (ht : t ≤ t') : BOK n f liars sender t' s :=
  { h with cap := Nat.le_trans h.cap (by omega) }
theorem getD_append {α : Type} {l m : List α} {k : Nat} {d : α} (h : k < l.length) : (l ++ m).getD k d = l.getD k d := by
  simp [List.getD, List.getElem?_append_left h]
theorem getD_set_self {α : Type} {l : List α} {k : Nat} {a d : α} (h : k < l.length) : (l.set k a).getD k d = a := by
  simp [List.getD, h]
theorem getD_set_ne {α : Type} {l : List α} {k j : Nat} {a d : α} (h : j ≠ k) : (l.set j a).getD k d = l.getD k d := by
  simp [List.getD, List.getElem?_set_ne h]
theorem mem_getD {α : Type} {l : List α} {k : Nat} {d : α} (h : k < l.length) : l.getD k d ∈ l := by
  have : l.getD k d = l[k] := by simp [List.getD, h]
  rw [this]; exact List.getElem_mem h
theorem sendL_come {n : Nat} {i w v : Int} : (sendL n i w v).countP (·.come) = 0 := by
  rw [List.countP_eq_zero]
  intro x hx
  unfold sendL at hx
  obtain ⟨j, _, rfl⟩ := List.mem_map.1 hx
  simp
theorem saysL_come {n : Nat} {i : Int} {a b : MindS} : (saysL n i a b).countP (·.come) = 0 := by
  unfold saysL
  rw [List.countP_append]
  split <;> split <;> simp [sendL_come]
/-- More messages, none of them come. -/
theorem BOK.more {n f liars : Nat} {sender : Int} {t t' : Nat} {s : BS} (h : BOK n f liars sender t s) (M : List Note) (hM : ∀ x ∈ M, NoteOK n x) (hc : M.countP (·.come) = 0) (b : Bool) (ht : M.length + 7 * t ≤ 7 * t') : BOK n f liars sender t' { s with all := s.all ++ M, started := b } where
  note x hx := (List.mem_append.1 hx).elim (h.note x) (hM x)
  cap := by
    have h1 := h.cap
    show (s.all ++ M).length + n * pendS s.mi n ≤ _
    rw [List.length_append]
    omega
  cnt := h.cnt
  len := h.len
  cin k hk := by
    obtain ⟨h1, h2⟩ := h.cin k hk
    refine ⟨by show k < (s.all ++ M).length; rw [List.length_append]; omega, ?_⟩
    show ((s.all ++ M).getD k note0).come = true
    rw [getD_append h1]; exact h2
  many := by
    show s.came.length = (s.all ++ M).countP (·.come)
    rw [List.countP_append, hc]; exact h.many
  liar := h.liar
  mind i hi := by
    rw [h.mind i hi]
    unfold toL
    congr 2
    exact List.map_congr_left fun k hk => (getD_append (h.cin k hk).1).symm
  val := h.val
theorem mindF_known {n f : Nat} {sender : Int} {m : MindS} {x : Note} (h : knownB m.cnt x = true) : mindF n f sender m x = m := if_pos h
theorem knownB_none {l : List Note} {x : Note} (h : knownB l x = false) : ∀ y ∈ l, ¬ (y.fr = x.fr ∧ y.what = x.what) := by
  unfold knownB at h
  rw [List.any_eq_false] at h
  intro y hy
  have := h y hy
  simpa using this
theorem CntOK.mindF {n f : Nat} {sender : Int} {m : MindS} {x : Note} (h : CntOK n m.cnt) (hx : NoteOK n x) : CntOK n (mindF n f sender m x).cnt := by
  unfold Go.Proofs.Ytelfmhiaafkimaa.mindF
  split
  · exact h
  · rename_i hk
    refine ⟨fun y hy => ?_, ?_⟩
    · rcases List.mem_append.1 hy with hy | hy
      · exact h.ok y hy
      · rw [List.mem_singleton.1 hy]; exact hx
    · refine List.pairwise_append.2 ⟨h.one, List.pairwise_singleton .., fun a ha b hb => ?_⟩
      rw [List.mem_singleton.1 hb]
      exact knownB_none (by simpa using hk) a ha
theorem sends_le {n : Nat} {i : Int} {a b : MindS} (he : a.echo = true → b.echo = true) (hr : a.ready = true → b.ready = true) : (saysL n i a b).length + n * pendN b = n * pendN a := by
  unfold saysL pendN
  rw [List.length_append]
  cases h1 : a.echo <;> cases h2 : b.echo <;> cases h3 : a.ready <;> cases h4 : b.ready <;> simp [h1, h2, h3, h4, sendL_length, Nat.mul_add] at he hr ⊢ <;> omega
theorem mindF_mono {n f : Nat} {sender : Int} {m : MindS} {x : Note} : (m.echo = true → (mindF n f sender m x).echo = true) ∧ (m.ready = true → (mindF n f sender m x).ready = true) := by
  unfold mindF
  split
  · exact ⟨id, id⟩
  · exact ⟨fun h => by simp [h], fun h => by simp [h]⟩
theorem mindF_word {n f : Nat} {sender : Int} {m : MindS} {x : Note} (h : ((mindF n f sender m x).echo = true ∧ m.echo = false) ∨ ((mindF n f sender m x).ready = true ∧ m.ready = false)) : (mindF n f sender m x).word = x.n := by
  unfold mindF at h ⊢
  split
  · rename_i hk
    rw [if_pos hk] at h
    rcases h with ⟨h1, h2⟩ | ⟨h1, h2⟩ <;> rw [h1] at h2 <;> cases h2
  · rename_i hk
    rw [if_neg hk] at h
    show (if _ then x.n else m.word) = x.n
    rw [if_pos]
    rcases h with ⟨h1, h2⟩ | ⟨h1, h2⟩
    · have h1 : (m.echo || decide (echoP sender x)) = true := h1
      rw [h2] at h1
      exact Or.inl ⟨by simpa using h1, h2⟩
    · have h1 : (m.ready || decide (readyP n f m.cnt x)) = true := h1
      rw [h2] at h1
      exact Or.inr ⟨by simpa using h1, h2⟩
theorem sendL_ok {n : Nat} {i w v : Int} (hi : 0 ≤ i ∧ i < n) (hw : 1 ≤ w ∧ w ≤ 3) (hv : fits .i64 v) : ∀ x ∈ sendL n i w v, NoteOK n x := by
  intro x hx
  unfold sendL at hx
  obtain ⟨j, hj, rfl⟩ := List.mem_map.1 hx
  have hj : j < n := by simpa using hj
  exact ⟨hi, ⟨by simp, by simpa using hj⟩, hw, hv⟩
theorem saysL_ok {n f : Nat} {sender : Int} {m : MindS} {x : Note} (h : NoteOK n x) : ∀ y ∈ saysL n x.to m (mindF n f sender m x), NoteOK n y := by
  intro y hy
  unfold saysL at hy
  rcases List.mem_append.1 hy with hy | hy
  · split at hy
    · rename_i hh
      rw [mindF_word (Or.inl hh)] at hy
      exact sendL_ok h.to (by omega) h.n y hy
    · cases hy
  · split at hy
    · rename_i hh
      rw [mindF_word (Or.inr hh)] at hy
      exact sendL_ok h.to (by omega) h.n y hy
    · cases hy
theorem countP_arr {l : List Note} {k : Nat} (hk : k < l.length) (hc : (l.getD k note0).come = false) : (l.set k (arr (l.getD k note0))).countP (·.come) = l.countP (·.come) + 1 := by
  rw [List.countP_set hk]
  have e : l[k] = l.getD k note0 := by simp [List.getD, hk]
  rw [e, hc]
  simp [arr]
theorem BOK.come {n f liars : Nat} {sender : Int} {t : Nat} {s : BS} (h : BOK n f liars sender t s) {k : Nat} (hk : k < s.all.length) (hc : (s.all.getD k note0).come = false) : BOK n f liars sender t (bcome n f liars sender k s) := by
  have hx := h.note _ (mem_getD (d := note0) hk)
  have hx' : NoteOK n (arr (s.all.getD k note0)) := ⟨hx.fr, hx.to, hx.what, hx.n⟩
  have hnot : ∀ j ∈ s.came, k ≠ j := fun j hj e => by have := (h.cin j hj).2; rw [← e, hc] at this; cases this
  have hset : ∀ y ∈ s.all.set k (arr (s.all.getD k note0)), NoteOK n y := fun y hy => by
    rcases List.mem_or_eq_of_mem_set hy with hy | rfl
    · exact h.note y hy
    · exact hx'
  have hmap : ∀ M : List Note, (s.came.map fun j => (s.all.set k (arr (s.all.getD k note0)) ++ M).getD j note0) = s.came.map fun j => s.all.getD j note0 := fun M =>
    List.map_congr_left fun j hj => by rw [getD_append (by rw [List.length_set]; exact (h.cin j hj).1), getD_set_ne (hnot j hj)]
  have hnew : ∀ M : List Note, (s.all.set k (arr (s.all.getD k note0)) ++ M).getD k note0 = arr (s.all.getD k note0) := fun M => by
    rw [getD_append (by rw [List.length_set]; exact hk), getD_set_self hk]
  obtain ⟨i, hi⟩ : ∃ i : Nat, (s.all.getD k note0).to = (i : Int) := ⟨(s.all.getD k note0).to.toNat, by have := hx.to; omega⟩
  have hin : i < n := by have := hx.to; omega
  have hcin : ∀ M : List Note, ∀ j ∈ s.came ++ [k], j < (s.all.set k (arr (s.all.getD k note0)) ++ M).length ∧ ((s.all.set k (arr (s.all.getD k note0)) ++ M).getD j note0).come = true := fun M j hj => by
    rcases List.mem_append.1 hj with hj | hj
    · obtain ⟨h1, h2⟩ := h.cin j hj
      refine ⟨by rw [List.length_append, List.length_set]; omega, ?_⟩
      rw [getD_append (by rw [List.length_set]; exact h1), getD_set_ne (hnot j hj)]; exact h2
    · rw [List.mem_singleton.1 hj]
      refine ⟨by rw [List.length_append, List.length_set]; omega, ?_⟩
      rw [hnew]; rfl
  have hto : ∀ (M : List Note) (j : Nat), ((s.came ++ [k]).map fun q => (s.all.set k (arr (s.all.getD k note0)) ++ M).getD q note0).filter (fun x => decide (x.to = (j : Int))) = toL s j ++ (if i = j then [arr (s.all.getD k note0)] else []) := fun M j => by
    rw [List.map_append, List.filter_append, hmap M]
    congr 1
    simp only [List.map_cons, List.map_nil, hnew]
    by_cases e : i = j
    · rw [if_pos e, List.filter_cons_of_pos (by show decide ((s.all.getD k note0).to = (j : Int)) = true; rw [hi, e]; simp)]; rfl
    · rw [if_neg e, List.filter_cons_of_neg (by show ¬ decide ((s.all.getD k note0).to = (j : Int)) = true; rw [hi]; simpa using fun e2 => e (by omega))]; rfl
  have hmany : s.came.length + 1 = (s.all.set k (arr (s.all.getD k note0))).countP (·.come) := by rw [countP_arr hk hc, h.many]
  unfold bcome
  rw [hi, Int.toNat_natCast]
  by_cases hl : liars.testBit i = true
  · rw [if_pos hl]
    exact {
      note := hset
      cap := by show (s.all.set k _).length + _ ≤ _; rw [List.length_set]; exact h.cap
      cnt := h.cnt
      len := fun j => Nat.le_trans (h.len j) (by show _ ≤ (s.came ++ [k]).length; rw [List.length_append]; omega)
      cin := by have := hcin []; simpa only [List.append_nil] using this
      many := by show (s.came ++ [k]).length = _; rw [List.length_append]; exact hmany
      liar := h.liar
      mind := fun j hj => by
        have h1 := hto [] j
        simp only [List.append_nil] at h1
        rw [h.mind j hj]
        show _ = mindL n f sender (((s.came ++ [k]).map fun q => (s.all.set k (arr (s.all.getD k note0))).getD q note0).filter fun x => decide (x.to = (j : Int)))
        rw [h1, if_neg (fun e => by rw [e, hj] at hl; cases hl), List.append_nil]
      val := h.val }
  · rw [if_neg hl]
    have hmn := mindF_mono (n := n) (f := f) (sender := sender) (m := s.mi i) (x := arr (s.all.getD k note0))
    have hsl := sends_le (n := n) (i := (i : Int)) hmn.1 hmn.2
    exact {
      note := fun y hy => by
        rcases List.mem_append.1 hy with hy | hy
        · exact hset y hy
        · refine saysL_ok (sender := sender) (f := f) (m := s.mi i) hx' y ?_
          show y ∈ saysL n (s.all.getD k note0).to _ _
          rw [hi]; exact hy
      cap := by
        show (s.all.set k _ ++ _).length + n * pendS (upd s.mi i _) n ≤ _
        have h1 := h.cap
        have h2 := pendS_upd (g := s.mi) (i := i) (m := mindF n f sender (s.mi i) (arr (s.all.getD k note0))) (k := n)
        rw [if_pos hin, if_pos hin] at h2
        rw [List.length_append, List.length_set]
        have h3 : n * (pendS (upd s.mi i (mindF n f sender (s.mi i) (arr (s.all.getD k note0)))) n + pendN (s.mi i)) = n * (pendS s.mi n + pendN (mindF n f sender (s.mi i) (arr (s.all.getD k note0)))) := by rw [h2]
        rw [Nat.mul_add, Nat.mul_add] at h3
        omega
      cnt := fun j => by
        show CntOK n (upd s.mi i _ j).cnt
        by_cases e : j = i
        · rw [e, upd_same]; exact (h.cnt i).mindF hx'
        · rw [upd_other e]; exact h.cnt j
      len := fun j => by
        show (upd s.mi i _ j).cnt.length ≤ (s.came ++ [k]).length
        rw [List.length_append]
        by_cases e : j = i
        · rw [e, upd_same]
          have := h.len i
          unfold mindF
          split
          · show _ ≤ s.came.length + 1; omega
          · show ((s.mi i).cnt ++ [arr (s.all.getD k note0)]).length ≤ s.came.length + 1
            rw [List.length_append]; show (s.mi i).cnt.length + 1 ≤ _; omega
        · rw [upd_other e]; exact Nat.le_trans (h.len j) (Nat.le_add_right _ _)
      cin := hcin _
      many := by show (s.came ++ [k]).length = _; rw [List.length_append, List.countP_append, saysL_come, Nat.add_zero]; exact hmany
      liar := fun j hj => by
        have hji : j ≠ i := fun e => by rw [e] at hj; exact hl hj
        show upd s.mi i (mindF n f sender (s.mi i) (arr (s.all.getD k note0))) j = mind0
        rw [upd_other hji]; exact h.liar j hj
      mind := fun j hj => by
        refine Eq.trans ?_ (congrArg (mindL n f sender) (hto (saysL n (i : Int) (s.mi i) (mindF n f sender (s.mi i) (arr (s.all.getD k note0)))) j)).symm
        show upd s.mi i (mindF n f sender (s.mi i) (arr (s.all.getD k note0))) j = _
        by_cases e : j = i
        · rw [e, upd_same, if_pos rfl, mindL_snoc, ← h.mind i (by simpa using hl)]
        · rw [upd_other e, if_neg (fun e2 => e e2.symm), List.append_nil]; exact h.mind j hj
      val := fun j => by
        show fits .i64 (upd s.mi i _ j).value
        by_cases e : j = i
        · rw [e, upd_same]
          unfold mindF
          split
          · exact h.val i
          · show fits .i64 (if _ then _ else _)
            split
            · exact hx'.n
            · exact h.val i
        · rw [upd_other e]; exact h.val j }
theorem BOK.all {n f liars : Nat} {sender : Int} {t : Nat} : ∀ (m k : Nat) {s : BS}, BOK n f liars sender t s → BOK n f liars sender t (ball n f liars sender m k s)
  | 0, k, s, h => h
  | m + 1, k, s, h => by
    unfold ball
    split
    · rename_i hk
      refine BOK.all m (k + 1) ?_
      cases hc : (s.all.getD k note0).come with
      | true => rw [if_pos rfl]; exact h
      | false => rw [if_neg (by simp)]; exact h.come hk hc
    · exact h
theorem BOK.step {n f liars sender : Nat} {t : Nat} {s : BS} (h : BOK n f liars sender t s) (hs : sender < n) (hn : n ≤ 7) {c : SprC} (hc : fits .i64 c.n) : BOK n f liars sender (t + 1) (bstep n f liars sender c s).2 := by
  unfold bstep
  split
  · split
    · exact h.later (by omega)
    · exact h.more _ (sendL_ok ⟨by simp, by simpa using hs⟩ (by omega) hc) sendL_come true (by rw [sendL_length]; omega)
  · split
    · unfold bforge
      split
      · exact h.later (by omega)
      · rename_i h1
        split
        · exact h.later (by omega)
        · rename_i h2
          refine h.more _ (fun x hx => ?_) (by simp) s.started (by show 1 + _ ≤ _; omega)
          rw [List.mem_singleton.1 hx]
          exact ⟨⟨by show 0 ≤ c.fr; omega, by show c.fr < n; omega⟩, ⟨by show 0 ≤ c.to; omega, by show c.to < n; omega⟩, ⟨by show 1 ≤ c.what; omega, by show c.what ≤ 3; omega⟩, hc⟩
    · split
      · split
        · exact h.later (by omega)
        · rename_i h1
          split
          · exact h.later (by omega)
          · rename_i h2
            exact (h.come (by omega) (by simpa using h2)).later (by omega)
      · split
        · exact (BOK.all 2000 0 h).later (by omega)
        · exact h.later (by omega)
def bst (n f liars sender : Nat) (g : Nat → SprC) : Nat → BS
  | 0 => bs0
  | k + 1 => (bstep n f liars sender (g k) (bst n f liars sender g k)).2
def bcode (n f liars sender : Nat) (g : Nat → SprC) (k : Nat) : Int := (bstep n f liars sender (g k) (bst n f liars sender g k)).1
theorem bst_ok {n f liars sender : Nat} {g : Nat → SprC} (hs : sender < n) (hn : n ≤ 7) (hg : ∀ i, fits .i64 (g i).n) : ∀ k, BOK n f liars sender k (bst n f liars sender g k)
  | 0 => bok0 ..
  | k + 1 => (bst_ok hs hn hg k).step hs hn (hg k)
def heardF (l : List Note) (k : Int × Int) : Option Int := (l.find? fun y => decide (y.fr = k.1 ∧ y.what = k.2)).map (·.n)
theorem heardF_known {l : List Note} {x : Note} : (heardF l (x.fr, x.what)).isSome = knownB l x := by
  unfold heardF knownB
  rw [Option.isSome_map, List.isSome_find?]
theorem heardF_some {l : List Note} {k : Int × Int} {v : Int} (h : heardF l k = some v) : ∃ y ∈ l, (y.fr, y.what) = k ∧ y.n = v := by
  unfold heardF at h
  obtain ⟨y, h1, h2⟩ := Option.map_eq_some_iff.1 h
  have h3 := List.find?_some h1
  simp only [decide_eq_true_eq] at h3
  exact ⟨y, List.mem_of_find?_eq_some h1, by rw [h3.1, h3.2], h2⟩
theorem heardF_snoc {l : List Note} {x : Note} (h : knownB l x = false) (k : Int × Int) : heardF (l ++ [x]) k = if k = (x.fr, x.what) then some x.n else heardF l k := by
  have hn := knownB_none h
  unfold heardF
  rw [List.find?_append]
  by_cases e : k = (x.fr, x.what)
  · rw [if_pos e, e]
    have h0 : l.find? (fun y => decide (y.fr = (x.fr, x.what).1 ∧ y.what = (x.fr, x.what).2)) = none := by
      rw [List.find?_eq_none]
      intro y hy
      simpa using hn y hy
    rw [h0]
    simp
  · rw [if_neg e]
    have h0 : [x].find? (fun y => decide (y.fr = k.1 ∧ y.what = k.2)) = none := by
      rw [List.find?_eq_none]
      intro y hy
      rw [List.mem_singleton.1 hy]
      simp only [decide_eq_true_eq]
      rintro ⟨h1, h2⟩
      exact e (by rw [h1, h2])
    rw [h0]
    simp
open Classical in
/-- How many with a kind and a value are not left. -/
noncomputable def countL (l : List Note) (w v : Int) (left : Int × Int → Prop) : Nat := l.countP fun y => decide ((y.what = w ∧ y.n = v) ∧ ¬ left (y.fr, y.what))
open Classical in
theorem countL_start {l : List Note} {w v : Int} {left : Int × Int → Prop} (h : ∀ y ∈ l, left (y.fr, y.what)) : countL l w v left = 0 := by
  unfold countL
  rw [List.countP_eq_zero]
  intro y hy
  rw [decide_eq_true_eq]
  exact fun hh => hh.2 (h y hy)
open Classical in
theorem countL_end {l : List Note} {w v : Int} {left : Int × Int → Prop} (h : ∀ y ∈ l, ¬ left (y.fr, y.what)) : countL l w v left = l.countP fun y => decide (y.what = w ∧ y.n = v) := by
  unfold countL
  refine List.countP_congr fun y hy => ?_
  rw [decide_eq_true_eq, decide_eq_true_eq]
  exact ⟨fun hh => hh.1, fun hh => ⟨hh, h y hy⟩⟩
open Classical in
theorem countL_take {w v : Int} {left left' : Int × Int → Prop} {y : Note} (hl : left (y.fr, y.what)) (h' : ∀ z, left' z ↔ (left z ∧ z ≠ (y.fr, y.what))) : ∀ {l : List Note}, l.Pairwise (fun a b => ¬ (a.fr = b.fr ∧ a.what = b.what)) → y ∈ l →
    countL l w v left' = countL l w v left + if y.what = w ∧ y.n = v then 1 else 0
  | a :: l, hp, hy => by
    obtain ⟨h1, h2⟩ := List.pairwise_cons.1 hp
    unfold countL
    rw [List.countP_cons, List.countP_cons]
    by_cases e : (a.fr, a.what) = (y.fr, y.what)
    · have hya : y = a := by
        rcases List.mem_cons.1 hy with hy | hy
        · exact hy
        · have := h1 y hy
          simp only [Prod.mk.injEq] at e
          exact absurd e this
      subst hya
      have e1 : l.countP (fun z => decide ((z.what = w ∧ z.n = v) ∧ ¬ left' (z.fr, z.what))) = l.countP (fun z => decide ((z.what = w ∧ z.n = v) ∧ ¬ left (z.fr, z.what))) := by
        refine List.countP_congr fun z hz => ?_
        have hne : (z.fr, z.what) ≠ (y.fr, y.what) := fun e2 => by
          simp only [Prod.mk.injEq] at e2
          exact h1 z hz ⟨e2.1.symm, e2.2.symm⟩
        rw [decide_eq_true_eq, decide_eq_true_eq, h']
        exact ⟨fun hh => ⟨hh.1, fun hl => hh.2 ⟨hl, hne⟩⟩, fun hh => ⟨hh.1, fun hl => hh.2 hl.1⟩⟩
      rw [e1]
      have e2 : decide ((y.what = w ∧ y.n = v) ∧ ¬ left (y.fr, y.what)) = false := decide_eq_false fun hh => hh.2 hl
      have e3 : decide ((y.what = w ∧ y.n = v) ∧ ¬ left' (y.fr, y.what)) = decide (y.what = w ∧ y.n = v) := by
        rw [Bool.eq_iff_iff, decide_eq_true_eq, decide_eq_true_eq, h']
        exact ⟨fun hh => hh.1, fun hh => ⟨hh, fun h9 => h9.2 rfl⟩⟩
      rw [e2, e3]
      by_cases hb : y.what = w ∧ y.n = v
      · rw [if_pos hb, if_pos (decide_eq_true hb)]; simp
      · rw [if_neg hb, if_neg (by simpa using hb)]; simp
    · have hyl : y ∈ l := by
        rcases List.mem_cons.1 hy with hy | hy
        · exact absurd (by rw [hy]) e
        · exact hy
      have ih := countL_take (w := w) (v := v) hl h' h2 hyl
      unfold countL at ih
      rw [ih]
      have e4 : decide ((a.what = w ∧ a.n = v) ∧ ¬ left' (a.fr, a.what)) = decide ((a.what = w ∧ a.n = v) ∧ ¬ left (a.fr, a.what)) := by
        rw [Bool.eq_iff_iff, decide_eq_true_eq, decide_eq_true_eq, h']
        exact ⟨fun hh => ⟨hh.1, fun hl => hh.2 ⟨hl, e⟩⟩, fun hh => ⟨hh.1, fun hl => hh.2 hl.1⟩⟩
      rw [e4]
      omega
theorem sameN_snoc (l : List Note) (x : Note) : (l ++ [x]).countP (fun y => decide (y.what = x.what ∧ y.n = x.n)) = sameN l x := by
  rw [List.countP_append]
  unfold sameN
  simp
end Go.Proofs.Ytelfmhiaafkimaa
