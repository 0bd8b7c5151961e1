/- A choice, the document's: where all lies. -/
import Derived.Test.YtelfmhiaafkimaaPaxD2
import Derived.Test.YtelfmhiaafkimaaPax5
namespace Go.Proofs.Ytelfmhiaafkimaa
open Go Go.RowKit Go.VC
set_option linter.unusedSimpArgs false
set_option linter.unusedVariables false
section
variable {n t i a : Nat} {s : PS} {V T : List Vow}
theorem ask_vo (h : PRel n t s V T) (hp : ¬ s.num i ≤ (s.vt a).p) : (voL (V ++ [⟨s.num i, a, (s.vt a).tk⟩]) (s.num i)).length = (voL V (s.num i)).length + 1 := by
  rw [voL_snoc]
  unfold voF
  rw [if_pos]
  · rw [List.length_append]; rfl
  · refine ⟨rfl, fun hm => ?_⟩
    obtain ⟨v, hv, e1, e2⟩ := mem_voL.1 hm
    have hle := proL_le (List.mem_append_left T hv) e2
    rw [h.pro a] at hle
    omega
theorem ask_best (V : List Vow) (b x : Int) (tk : Bal) : bestL (V ++ [⟨b, x, tk⟩]) b = told1 (bestL V b) tk := by
  rw [bestL_snoc]
  unfold bestF told1
  by_cases hh : (bestL V b).n < tk.n
  · rw [if_pos ⟨rfl, hh⟩, if_pos hh]
  · rw [if_neg (fun h => hh h.2), if_neg hh]
theorem take_vo (h : PRel n t s V T) (hi : i < s.k) (x : Bal) : (voL (T ++ [⟨s.num i, a, x⟩]) (s.num i)).length = tooks1 (s.bal i) a := by
  rw [voL_snoc]
  unfold voF tooks1
  have hm := h.tkm i hi a
  by_cases q : (s.bal i).took a = true
  · rw [if_neg (fun hh => hh.2 (hm.2 q)), if_pos q]; exact h.tk i hi
  · rw [if_pos ⟨rfl, fun hh => q (hm.1 hh)⟩, if_neg q, List.length_append, h.tk i hi]; rfl
end
def begL (s : PS) : List Bal := (List.range s.k).map fun i => ⟨s.num i, (s.bal i).own⟩
theorem begL_length (s : PS) : (begL s).length = s.k := by simp [begL]
theorem begL_begin (s : PS) (c : TryC) : begL (pbegin c s) = begL s ++ [⟨c.ballot, c.val⟩] := by
  unfold begL pbegin
  show (List.range (s.k + 1)).map _ = _
  rw [List.range_succ, List.map_append]
  refine congr (congrArg _ (List.map_congr_left fun i hi => ?_)) ?_
  · have := List.mem_range.1 hi
    show (⟨upd s.num s.k c.ballot i, (upd s.bal s.k _ i).own⟩ : Bal) = _
    rw [upd_other (by omega), upd_other (f := s.bal) (by omega)]
  · show [(⟨upd s.num s.k c.ballot s.k, (upd s.bal s.k _ s.k).own⟩ : Bal)] = _
    rw [upd_same, upd_same]
theorem begL_upd {s s' : PS} (hk : s'.k = s.k) (hn : s'.num = s.num) (ho : ∀ i, (s'.bal i).own = (s.bal i).own) : begL s' = begL s := by
  unfold begL; rw [hk, hn]
  exact List.map_congr_left fun i _ => by rw [ho i]
theorem begL_of {n t : Nat} {s : PS} (hok : POK n t s) (b : Int) : ofL (begL s) b = (pidx s.num b s.k).map fun i => ⟨s.num i, (s.bal i).own⟩ := by
  cases hp : pidx s.num b s.k with
  | none =>
    refine ofL_none fun x hx => ?_
    obtain ⟨i, hi, rfl⟩ := List.mem_map.1 hx
    exact pidx_none hp i (List.mem_range.1 hi)
  | some i =>
    obtain ⟨hi, hb⟩ := pidx_some hp
    show ofL (begL s) b = some ⟨s.num i, (s.bal i).own⟩
    cases hf : ofL (begL s) b with
    | none =>
      have := List.find?_eq_none.1 hf ⟨s.num i, (s.bal i).own⟩ (List.mem_map.2 ⟨i, List.mem_range.2 hi, rfl⟩)
      simp [hb] at this
    | some x =>
      have hm := List.mem_of_find?_eq_some hf
      have he := List.find?_some hf
      obtain ⟨j, hj, rfl⟩ := List.mem_map.1 hm
      have he : s.num j = b := by simpa using he
      rw [hok.inj j i (List.mem_range.1 hj) hi (he.trans hb.symm)]
theorem pask_own (n i a : Nat) (s : PS) : (pask n i a s).2.k = s.k ∧ (pask n i a s).2.num = s.num ∧ (∀ j, ((pask n i a s).2.bal j).own = (s.bal j).own) ∧ (pask n i a s).2.chosen = s.chosen := by
  unfold pask
  split
  · exact ⟨rfl, rfl, fun _ => rfl, rfl⟩
  split
  · exact ⟨rfl, rfl, fun _ => rfl, rfl⟩
  split
  · refine ⟨rfl, rfl, fun j => ?_, rfl⟩
    show (upd s.bal i _ j).own = _
    by_cases e : j = i
    · subst e; rw [upd_same]
    · rw [upd_other e]
  · refine ⟨rfl, rfl, fun j => ?_, rfl⟩
    show (upd s.bal i _ j).own = _
    by_cases e : j = i
    · subst e; rw [upd_same]
    · rw [upd_other e]
theorem ptake_own (n i a : Nat) (s : PS) : (ptake n i a s).2.k = s.k ∧ (ptake n i a s).2.num = s.num ∧ (∀ j, ((ptake n i a s).2.bal j).own = (s.bal j).own) ∧ (ptake n i a s).2.fixd = s.fixd := by
  unfold ptake
  split
  · exact ⟨rfl, rfl, fun _ => rfl, rfl⟩
  · refine ⟨rfl, rfl, fun j => ?_, rfl⟩
    show (upd s.bal i _ j).own = _
    by_cases e : j = i
    · subst e; rw [upd_same]
    · rw [upd_other e]
structure PD where
  mb : Nat
  vb : Value
  vv : Value
  vt : Value
  vf : Value
abbrev paxC (n : Nat) (a : PD) : List Value := [.int .i64 n, a.vb, a.vv, a.vt, a.vf]
abbrev PDObs (n : Nat) (a : PD) (B : List Bal) (V T : List Vow) (F : List Bal) : List Ob :=
  [oBox a.mb (paxC n a), oOwn 117 2 B.length a.vb (B.flatMap bL), oOwn 258 4 V.length a.vv (V.flatMap vowL), oOwn 258 4 T.length a.vt (T.flatMap vowL), oOwn 117 2 F.length a.vf (F.flatMap bL)]
/-- What a step of the document's comes to. -/
def PDPost (B n t : Nat) (a : PD) (s : PS) (V T : List Vow) (w : World) (r : Int × PS) (e : Ending) (w' : World) : Prop :=
  ∃ (l : List Bal) (A : Option Addr) (c : Nat) (a' : PD) (V' T' : List Vow), e = .returned (.tuple #[.int .i64 r.1, .slice A l.length c]) ∧ r.2.chosen = s.chosen ++ l ∧ RdC w' A (l.flatMap bL) ∧ (∀ ad, A = some ad → w.heap.size ≤ ad.block) ∧ a'.mb = a.mb ∧
    St B (PDObs n a (begL s) V T s.fixd) w (PDObs n a' (begL r.2) V' T' r.2.fixd) w' ∧ PRel n (t + 1) r.2 V' T'
section
variable {B n t : Nat} {a : PD} {s : PS} {V T : List Vow} {w : World}
theorem PDPost.same (h : Hp B (PDObs n a (begL s) V T s.fixd) w) (hd : PRel n t s V T) {w' : World} (hB : Below w.heap.size w w') {x : Int} {r : Int × PS} (hr : r = (x, s)) : PDPost B n t a s V T w r (.returned (.tuple #[.int .i64 x, .slice none 0 0])) w' := by
  subst hr
  exact ⟨[], none, 0, a, V, T, rfl, (List.append_nil _).symm, fun h => absurd h (Nat.lt_irrefl 0), fun ad h => (by cases h), rfl, h.below_st hB, hd.up⟩
end
end Go.Proofs.Ytelfmhiaafkimaa
