/- A picture of what moves, the document's: what lies between, the plain law. -/
import Derived.Test.YtelfmhiaafkimaaSnapD6
namespace Go.Proofs.Ytelfmhiaafkimaa
open Go Go.RowKit Go.VC
set_option linter.unusedSimpArgs false
set_option linter.unusedVariables false
/-- A way when k have come. -/
def lk (l : Lin) (k : Nat) : Lin := { l with come := k }
theorem lk_self (l : Lin) : lk l l.come = l := rfl
theorem open_lk {l : Lin} {k : Nat} : (openL (lk l k)).length ≤ k := by
  refine Nat.le_trans (List.takeWhile_sublist _).length_le ?_
  show (l.sent.take k).length ≤ k
  rw [List.length_take]; exact Nat.min_le_left _ _
theorem noted_next {l : Lin} {k : Nat} {o : Int} (hk : k < l.sent.length) : notedL o (lk l (k + 1)) = if 0 ≤ o ∧ l.noted ≤ k ∧ 0 ≤ l.sent.getD k 0 ∧ closB (lk l k) = false then notedL o (lk l k) ++ [l.sent.getD k 0] else notedL o (lk l k) := by
  unfold notedL
  by_cases ho : 0 ≤ o
  · rw [if_pos ho, if_pos ho]
    by_cases hn : l.noted ≤ k
    · have hL : LOK (lk l k) := ⟨hn, Nat.le_of_lt hk⟩
      by_cases hx : 0 ≤ l.sent.getD k 0
      · have h1 : betwL (lk l (k + 1)) = if closB (lk l k) = false then betwL (lk l k) ++ [l.sent.getD k 0] else betwL (lk l k) := betw_come hL hk hx
        rw [h1]
        exact ifc ⟨fun h => ⟨ho, hn, hx, h⟩, fun h => h.2.2.2⟩
      · have h1 : betwL (lk l (k + 1)) = betwL (lk l k) := betw_mark (l := lk l k) hk (by show l.sent.getD k 0 < 0; omega)
        rw [h1, if_neg (fun h => hx h.2.2.1)]
    · have h1 : ∀ j, j ≤ l.noted → betwL (lk l j) = [] := fun j hj => List.drop_eq_nil_of_le (Nat.le_trans open_lk (by show j ≤ l.noted; exact hj))
      rw [h1 (k + 1) (by omega), h1 k (by omega), if_neg (fun h => hn h.2.1)]
  · rw [if_neg ho, if_neg ho, if_neg (fun h => ho h.1)]
theorem clos_next {l : Lin} {k : Nat} (hk : k < l.sent.length) : closB (lk l (k + 1)) = (closB (lk l k) || decide (l.sent.getD k 0 < 0)) := clos_come (l := lk l k) hk
theorem noted_start {l : Lin} {o : Int} : notedL o (lk l 0) = [] := by
  unfold notedL betwL openL
  show (if 0 ≤ o then ((l.sent.take 0).takeWhile _).drop l.noted else []) = []
  rw [List.take_zero]
  split <;> simp
theorem clos_start {l : Lin} : closB (lk l 0) = false := by
  unfold closB
  show (l.sent.take 0).any _ = false
  rw [List.take_zero]; rfl
def rowS (n : Nat) (s : SnS) (t : Nat) : List Int := notedL (s.own (t % n)) (s.ln (t / n) (t % n))
def markedE (n : Nat) (s : SnS) (t : Nat) : Bool := decide (t / n = t % n) || closB (s.ln (t / n) (t % n))
def doneK (n : Nat) (s : SnS) : Nat → Bool
  | 0 => true
  | T + 1 => doneK n s T && (markedE n s T && decide (0 ≤ s.own (T % n)))
theorem doneK_spec {n : Nat} {s : SnS} : ∀ {T : Nat}, doneK n s T = true ↔ ∀ t, t < T → markedE n s t = true ∧ 0 ≤ s.own (t % n)
  | 0 => ⟨fun _ t ht => absurd ht (Nat.not_lt_zero t), fun _ => rfl⟩
  | T + 1 => by
    show (doneK n s T && (markedE n s T && decide (0 ≤ s.own (T % n)))) = true ↔ _
    rw [Bool.and_eq_true, Bool.and_eq_true, decide_eq_true_eq, doneK_spec]
    constructor
    · rintro ⟨h1, h2⟩ t ht
      by_cases e : t = T
      · rw [e]; exact h2
      · exact h1 t (by omega)
    · exact fun h => ⟨fun t ht => h t (by omega), h T (by omega)⟩
open Classical in
theorem doneK_all {n : Nat} {s : SnS} : doneK n s (n * n) = doneS n s := by
  unfold doneS
  rw [Bool.eq_iff_iff, decide_eq_true_eq, doneK_spec]
  constructor
  · intro h
    refine ⟨fun b hb => ?_, fun a b ha hb hab => ?_⟩
    · have := (h (b * n + b) (idx_lt hb hb)).2
      rwa [(idx_div hb).2] at this
    · have := (h (a * n + b) (idx_lt ha hb)).1
      unfold markedE at this
      rw [(idx_div hb).1, (idx_div hb).2, decide_eq_false hab, Bool.false_or] at this
      exact this
  · rintro ⟨h1, h2⟩ t ht
    have hn0 : 0 < n := by
      rcases Nat.eq_zero_or_pos n with e | e
      · subst e; exact absurd ht (Nat.not_lt_zero t)
      · exact e
    have ha : t / n < n := Nat.div_lt_of_lt_mul ht
    have hb : t % n < n := Nat.mod_lt _ hn0
    refine ⟨?_, h1 _ hb⟩
    unfold markedE
    by_cases e : t / n = t % n
    · rw [decide_eq_true e]; rfl
    · rw [h2 _ _ ha hb e, Bool.or_true]
noncomputable abbrev rowF (n : Nat) (s : SnS) (rv : Nat → Value) (i : Nat) : Ob := oOwn 3 1 (rowS n s i).length (rv i) ((rowS n s i).map iV)
noncomputable abbrev LD (n t T rb : Nat) (a : DA) (s : SnS) (q rv : Nat → Value) (vc bv : Value) (codes : List Int) (dn : Bool) : List Ob :=
  [oOwn 23 1 T bv ((List.range T).map rv), oOwn 24 1 t vc (codes.map (Value.int .i64)), oBox rb z5] ++ (DObs n a (dOf n s) q vc bv dn ++ fam T (rowF n s rv))
theorem row_len {n k t : Nat} {s : SnS} (h : SNV n k s) : (rowS n s t).length ≤ k := by
  have h1 := h.lok (t / n) (t % n)
  have h2 := h.len (t / n) (t % n)
  have h3 := open_len h1
  have h4 := h1.b
  unfold rowS notedL betwL
  split
  · rw [List.length_drop]; omega
  · simp
end Go.Proofs.Ytelfmhiaafkimaa
