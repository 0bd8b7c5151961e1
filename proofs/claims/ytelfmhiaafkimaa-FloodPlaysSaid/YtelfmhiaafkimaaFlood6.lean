/- What some who crash have said: what each one knows, in memory. -/
import Derived.Test.YtelfmhiaafkimaaFlood2
import Derived.Test.YtelfmhiaafkimaaFlood3
import Derived.Test.YtelfmhiaafkimaaFlood5
import Derived.Test.YtelfmhiaafkimaaMapIns
namespace Go.Proofs.Ytelfmhiaafkimaa
open Go Go.RowKit Go.VC
set_option linter.unusedSimpArgs false
set_option linter.unusedVariables false
abbrev mapP (J : Nat) (ib : Nat → Nat) (j : Nat) : Value := if j < J then .map (some (ib j)) else .map none
noncomputable def knO (J : Nat) (ib cn : Nat → Nat) (kn : Nat → Int → Option Value) (j : Nat) : Ob := if j < J then oMap EJ (ib j) (cn j) (kn j) else oOwn 3 1 0 (.slice none 0 0) []
/-- A list of n maps, J of them made. -/
noncomputable abbrev KS (n J g : Nat) (ib cn : Nat → Nat) (kn : Nat → Int → Option Value) : List Ob := [oBox g ((List.range n).map (mapP J ib))] ++ fam n (knO J ib cn kn)
section
variable {B n J g j : Nat} {ib cn : Nat → Nat} {kn : Nat → Int → Option Value} {w w' : World}
theorem knO_on (h : j < J) : knO J ib cn kn j = oMap EJ (ib j) (cn j) (kn j) := if_pos h
theorem KS.map (h : Hp B (KS n J g ib cn kn) w) (hj : j < J) (hn : j < n) : MapV Try.prog EJ w (ib j) (cn j) (kn j) := by
  have h2 : Hp B ([oBox g ((List.range n).map (mapP J ib))] ++ (fam n (knO J ib cn kn) ++ [])) w := by rw [List.append_nil]; exact h
  have := h2.fget hn
  rw [knO_on hj] at this
  exact this
theorem KS.cell (h : Hp B (KS n J g ib cn kn) w) (hn : j < n) : w.cell? ⟨g, j, none⟩ = some (mapP J ib j) ∧ w.frozen? ⟨g, j, none⟩ = false ∧ g < w.heap.size := by
  have hb : Box w g ((List.range n).map (mapP J ib)) := h.get 0 rfl
  refine ⟨hb.at (by rw [List.getElem?_map, List.getElem?_range hn]; rfl), hb.soft (by simpa using hn), hb.1⟩
theorem KS.getE (hj : j < J) (hn : j < n) : (KS n J g ib cn kn)[1 + j]? = some (oMap EJ (ib j) (cn j) (kn j)) := by
  have := fam_at (L := [oBox g ((List.range n).map (mapP J ib))]) (N := n) (F := knO J ib cn kn) (R := []) hn
  rw [List.append_nil, knO_on hj] at this
  exact this
/-- The next one is laid. -/
theorem KS.next (h : Hp B (KS n J g ib cn kn) w) (hJ : J < n) {b c : Nat} {m : Int → Option Value} (hB : Below w.heap.size w w') (hM : MapV Try.prog EJ w' b c m) (hb : w.heap.size ≤ b) :
    St B (KS n J g ib cn kn) w (KS n (J + 1) g (upd ib J b) (upd cn J c) (upd kn J m)) (w'.setCell ⟨g, J, none⟩ (.map (some b))) := by
  have h2 : Hp B ([oBox g ((List.range n).map (mapP J ib))] ++ (fam n (knO J ib cn kn) ++ [])) w := by rw [List.append_nil]; exact h
  have s1 := h2.fst hJ (o' := oMap EJ b c m) hM (Agree.of_below hB) (Or.inr fun q hq => by cases hq; exact hb)
  have e : fam n (upd (knO J ib cn kn) J (oMap EJ b c m)) = fam n (knO (J + 1) (upd ib J b) (upd cn J c) (upd kn J m)) := fam_congr fun i _ => by
    by_cases hi : i = J
    · subst hi; rw [upd_same, knO_on (by omega), upd_same, upd_same, upd_same]
    · rw [upd_other hi]
      unfold knO
      by_cases hlt : i < J
      · rw [if_pos hlt, if_pos (by omega), upd_other hi, upd_other hi, upd_other hi]
      · rw [if_neg hlt, if_neg (by omega)]
  rw [e, List.append_nil, List.append_nil] at s1
  have s2 := s1.hp.setBox 0 rfl J (.map (some b))
  have e2 : ((List.range n).map (mapP J ib)).set J (.map (some b)) = (List.range n).map (mapP (J + 1) (upd ib J b)) := by
    apply List.ext_getElem?
    intro i
    rw [List.getElem?_set]
    by_cases hi : J = i
    · subst hi
      rw [if_pos rfl, if_pos (by simpa using hJ), List.getElem?_map, List.getElem?_range hJ]
      show _ = some (mapP (J + 1) (upd ib J b) J)
      rw [mapP, if_pos (by omega), upd_same]
    · rw [if_neg hi, List.getElem?_map, List.getElem?_map]
      by_cases hin : i < n
      · rw [List.getElem?_range hin]
        show some (mapP J ib i) = some (mapP (J + 1) (upd ib J b) i)
        unfold mapP
        by_cases hlt : i < J
        · rw [if_pos hlt, if_pos (by omega), upd_other (by omega)]
        · rw [if_neg hlt, if_neg (by omega)]
      · rw [List.getElem?_eq_none (by simpa using hin)]; rfl
  have s3 := s1.trans s2
  refine (?_ : St B _ _ (oBox g ((List.range n).map (mapP (J + 1) (upd ib J b))) :: fam n (knO (J + 1) (upd ib J b) (upd cn J c) (upd kn J m))) _)
  rw [← e2]
  exact s3
/-- One of them is written into. -/
theorem KS.turn (h : Hp B (KS n J g ib cn kn) w) (hj : j < J) (hn : j < n) {c : Nat} {m : Int → Option Value} (hM : MapV Try.prog EJ w' (ib j) c m) (hA : Agree (fun k => k = ib j) w w') :
    St B (KS n J g ib cn kn) w (KS n J g ib (upd cn j c) (upd kn j m)) w' := by
  have h2 : Hp B ([oBox g ((List.range n).map (mapP J ib))] ++ (fam n (knO J ib cn kn) ++ [])) w := by rw [List.append_nil]; exact h
  have s1 := h2.fst hn (o' := oMap EJ (ib j) c m) hM (by rw [knO_on hj]; exact hA.mono fun k _ hk => by rw [hk]; rfl) (Or.inl (by rw [knO_on hj]; rfl))
  have e : fam n (upd (knO J ib cn kn) j (oMap EJ (ib j) c m)) = fam n (knO J ib (upd cn j c) (upd kn j m)) := fam_congr fun i _ => by
    by_cases hi : i = j
    · subst hi; rw [upd_same, knO_on hj, upd_same, upd_same]
    · rw [upd_other hi]; unfold knO; rw [upd_other hi, upd_other hi]
  rw [e, List.append_nil, List.append_nil] at s1
  exact s1
end
/-- Two heaps, one above the other. -/
theorem hp_join {B B2 : Nat} {L M : List Ob} {w : World} (h1 : Hp B L w) (h2 : Hp B2 M w) (hB : B ≤ B2) (hlt : ∀ q, foot L q → q < B2) : Hp B (M ++ L) w := by
  refine ⟨fun o ho => (List.mem_append.1 ho).elim (fun h => ⟨(h2.1 o h).1, fun q hq => Nat.le_trans hB ((h2.1 o h).2 q hq)⟩) (h1.1 o), List.pairwise_append.2 ⟨h2.2, h1.2, fun a ha b hb q h3 h4 => ?_⟩, h1.base⟩
  have h5 := (h2.1 a ha).2 q h3
  have h6 := hlt q ⟨b, hb, h4⟩
  omega
theorem hp_right {B : Nat} {L M : List Ob} {w : World} (h : Hp B (M ++ L) w) : Hp B L w := h.sub (List.sublist_append_right _ _)
theorem hasV_step {val : Nat → Int} {n : Nat} {cr : List CrashC} {r j : Nat} {v : Int} (hj : j < n) : hasV val n cr (r + 1) j v ↔ hasV val n cr r j v ∨ ∃ k, k < n ∧ k ≠ j ∧ sendsB cr k j r = true ∧ hasV val n cr r k v := hasV_succ hj
end Go.Proofs.Ytelfmhiaafkimaa
