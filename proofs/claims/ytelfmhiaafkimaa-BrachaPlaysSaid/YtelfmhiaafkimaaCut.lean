/- Ways that meet again; frames of many slots. -/
import Derived.Test.YtelfmhiaafkimaaOwn3
namespace Go.VC
open Go Go.RowKit
set_option linter.unusedSimpArgs false
set_option linter.unusedVariables false
/-- What follows goes by some slots and the world: told once, for all ways that lead there. -/
theorem vc_cut {X : Ctx} {P : Program} {n : Nat} {a : Code} {Q : Exit → Array Value → World → Prop} {f : Array Value} {w : World} (nm jk : List Nat) (J : List Value → World → Prop)
    (hrest : ∀ vs u w', J vs w' → Now (Q .normal (mixF f nm vs jk u) w')) (hmain : (∀ f' w', SAME f f' nm jk → J (nm.map fun t => f'.getD t undef) w' → Q .normal f' w') → Now (vc X P n a Q f w)) : Now (vc X P n a Q f w) :=
  hmain fun f' w' hS hJ => by rw [hS]; exact hrest _ _ _ hJ
def walkJ (u : Nat → Value) : Nat → List Nat → List Value → List Value
  | _, [], xs => xs
  | _, _ :: _, [] => []
  | i, j :: js, x :: xs => if i = j then u j :: walkJ u (i + 1) js xs else x :: walkJ u (i + 1) (j :: js) xs
def risB : Nat → List Nat → Bool
  | _, [] => true
  | i, j :: js => decide (i ≤ j) && risB (j + 1) js
theorem risB_mem : ∀ {js : List Nat} {i : Nat}, risB i js = true → ∀ j ∈ js, i ≤ j
  | [], _, _, _, h => by cases h
  | j :: js, i, h, t, ht => by
    simp only [risB, Bool.and_eq_true, decide_eq_true_eq] at h
    rcases List.mem_cons.1 ht with rfl | ht
    · exact h.1
    · have := risB_mem h.2 t ht; omega
theorem risB_mono : ∀ {js : List Nat} {i i' : Nat}, risB i js = true → i' ≤ i → risB i' js = true
  | [], _, _, _, _ => rfl
  | j :: js, i, i', h, hi => by
    simp only [risB, Bool.and_eq_true, decide_eq_true_eq] at h ⊢
    exact ⟨by omega, h.2⟩
theorem walkJ_at (u : Nat → Value) : ∀ (xs : List Value) (js : List Nat) (i : Nat), risB i js = true → ∀ t : Nat, (walkJ u i js xs)[t]? = if t + i ∈ js ∧ t < xs.length then some (u (t + i)) else xs[t]?
  | xs, [], i, _, t => by simp [walkJ]
  | [], j :: js, i, _, t => by simp [walkJ]
  | x :: xs, j :: js, i, h, t => by
    have h0 := h
    simp only [risB, Bool.and_eq_true, decide_eq_true_eq] at h
    obtain ⟨h1, h2⟩ := h
    unfold walkJ
    by_cases e : i = j
    · subst e
      rw [if_pos rfl]
      rcases t with _ | t
      · simp
      · rw [List.getElem?_cons_succ, walkJ_at u xs js (i + 1) h2 t]
        have e2 : t + (i + 1) = t + 1 + i := by omega
        rw [e2]
        by_cases h3 : t + 1 + i ∈ js ∧ t < xs.length
        · rw [if_pos h3, if_pos ⟨List.mem_cons_of_mem _ h3.1, by simp; omega⟩]
        · rw [if_neg h3, if_neg (fun hh => h3 ⟨by rcases List.mem_cons.1 hh.1 with h4 | h4; omega; exact h4, by have := hh.2; simp at this; omega⟩), List.getElem?_cons_succ]
    · rw [if_neg e]
      rcases t with _ | t
      · rw [if_neg (fun hh => by
          rcases List.mem_cons.1 hh.1 with h4 | h4
          · omega
          · have := risB_mem h2 _ h4; omega)]
        rfl
      · rw [List.getElem?_cons_succ, walkJ_at u xs (j :: js) (i + 1) (by simp only [risB, Bool.and_eq_true, decide_eq_true_eq]; exact ⟨by omega, h2⟩) t]
        have e2 : t + (i + 1) = t + 1 + i := by omega
        rw [e2]
        by_cases h3 : t + 1 + i ∈ j :: js ∧ t < xs.length
        · rw [if_pos h3, if_pos ⟨h3.1, by simp; omega⟩]
        · rw [if_neg h3, if_neg (fun hh => h3 ⟨hh.1, by have := hh.2; simp at this; omega⟩), List.getElem?_cons_succ]
theorem setAll_at (u : Nat → Value) : ∀ (js : List Nat) (f : Array Value) (t : Nat), (setAll f js (js.map u)).toList[t]? = if t ∈ js ∧ t < f.size then some (u t) else f.toList[t]?
  | [], f, t => by simp [setAll]
  | j :: js, f, t => by
    simp only [List.map_cons, setAll]
    rw [setAll_at u js _ t, Array.size_setIfInBounds]
    by_cases h1 : t ∈ js ∧ t < f.size
    · rw [if_pos h1, if_pos ⟨List.mem_cons_of_mem _ h1.1, h1.2⟩]
    · rw [if_neg h1, Array.toList_setIfInBounds, List.getElem?_set]
      by_cases e : j = t
      · subst e
        rw [if_pos rfl]
        by_cases h2 : j < f.size
        · rw [if_pos (by simpa using h2), if_pos ⟨List.mem_cons_self .., h2⟩]
        · rw [if_neg (by simpa using h2), if_neg (fun hh => h2 hh.2), List.getElem?_eq_none (by simpa using h2)]
      · rw [if_neg e, if_neg (fun hh => by
          rcases List.mem_cons.1 hh.1 with h4 | h4
          · exact e h4.symm
          · exact h1 ⟨h4, hh.2⟩)]
/-- A frame of many slots, in one go. -/
theorem mixF_walk {f : Array Value} {nm jk : List Nat} {vs : List Value} {u : Nat → Value} (h : risB 0 jk = true) : mixF f nm vs jk u = setAll (walkJ u 0 jk f.toList).toArray nm vs := by
  unfold mixF
  congr 1
  rw [← Array.toList_inj]
  apply List.ext_getElem?
  intro t
  rw [setAll_at, walkJ_at u _ _ 0 h]
  simp
def walk2 : Nat → List Nat → List Value → List Value → List Value
  | _, [], xs, _ => xs
  | _, _ :: _, [], _ => []
  | _, _ :: _, x :: xs, [] => x :: xs
  | i, j :: js, x :: xs, y :: ys => if i = j then y :: walk2 (i + 1) js xs ys else x :: walk2 (i + 1) (j :: js) xs ys
theorem walk2_len : ∀ (xs ys : List Value) (js : List Nat) (i : Nat), (walk2 i js xs ys).length = xs.length
  | xs, _, [], i => by simp [walk2]
  | [], _, j :: js, i => by simp [walk2]
  | x :: xs, [], j :: js, i => by simp [walk2]
  | x :: xs, y :: ys, j :: js, i => by
    unfold walk2
    split
    · simp [walk2_len xs ys js (i + 1)]
    · simp [walk2_len xs ys (j :: js) (i + 1)]
theorem walk2_at : ∀ (xs ys : List Value) (js : List Nat) (i : Nat), risB i js = true → xs.length = ys.length → ∀ t : Nat, (walk2 i js xs ys)[t]? = if t + i ∈ js then ys[t]? else xs[t]?
  | xs, ys, [], i, _, _, t => by simp [walk2]
  | [], [], j :: js, i, _, _, t => by simp [walk2]
  | x :: xs, y :: ys, j :: js, i, h, hl, t => by
    have h0 := h
    simp only [risB, Bool.and_eq_true, decide_eq_true_eq] at h
    obtain ⟨h1, h2⟩ := h
    have hl' : xs.length = ys.length := by simpa using hl
    unfold walk2
    by_cases e : i = j
    · subst e
      rw [if_pos rfl]
      rcases t with _ | t
      · simp
      · rw [List.getElem?_cons_succ, walk2_at xs ys js (i + 1) h2 hl' t]
        have e2 : t + (i + 1) = t + 1 + i := by omega
        rw [e2]
        by_cases h3 : t + 1 + i ∈ js
        · rw [if_pos h3, if_pos (List.mem_cons_of_mem _ h3), List.getElem?_cons_succ]
        · rw [if_neg h3, if_neg (fun hh => h3 (by rcases List.mem_cons.1 hh with h4 | h4; omega; exact h4)), List.getElem?_cons_succ]
    · rw [if_neg e]
      rcases t with _ | t
      · rw [if_neg (fun hh => by
          rcases List.mem_cons.1 hh with h4 | h4
          · omega
          · have := risB_mem h2 _ h4; omega)]
        rfl
      · rw [List.getElem?_cons_succ, walk2_at xs ys (j :: js) (i + 1) (by simp only [risB, Bool.and_eq_true, decide_eq_true_eq]; exact ⟨by omega, h2⟩) hl' t]
        have e2 : t + (i + 1) = t + 1 + i := by omega
        rw [e2]
        by_cases h3 : t + 1 + i ∈ j :: js
        · rw [if_pos h3, if_pos h3, List.getElem?_cons_succ]
        · rw [if_neg h3, if_neg h3, List.getElem?_cons_succ]
def okJ (js nm jk : List Nat) : Bool := risB 0 js && js.all fun j => nm.contains j || jk.contains j
/-- The frame is as it was but for the named slots: told by one walk over both. -/
theorem SAME.walk {f f' : Array Value} {nm jk js : List Nat} (hjs : okJ js nm jk = true) (h : f'.toList = walk2 0 js f.toList f'.toList) : SAME f f' nm jk := by
  simp only [okJ, Bool.and_eq_true, List.all_eq_true, Bool.or_eq_true, List.contains_iff_mem] at hjs
  obtain ⟨hr, hm⟩ := hjs
  have hl : f.toList.length = f'.toList.length := by rw [h, walk2_len]
  have hl2 : f.size = f'.size := by simpa using hl
  have hat := fun t : Nat => congrArg (fun l : List Value => l[t]?) h
  have hat2 := walk2_at _ _ js 0 hr hl
  unfold SAME mixF
  rw [← Array.toList_inj]
  apply List.ext_getElem?
  intro t
  have hg : t < f'.size → f'.toList[t]? = some (f'.getD t undef) := fun ht => by
    rw [Array.getD_eq_getD_getElem?, Array.getElem?_eq_getElem ht, List.getElem?_eq_getElem (by simpa using ht)]; rfl
  have hsz : (setAll f jk (jk.map fun t => f'.getD t undef)).size = f.size := setAll_size _ _ _
  rw [setAll_at (fun t => f'.getD t undef) nm, hsz, setAll_at (fun t => f'.getD t undef) jk]
  by_cases h1 : t ∈ nm ∧ t < f.size
  · rw [if_pos h1]; exact hg (by omega)
  · rw [if_neg h1]
    by_cases h2 : t ∈ jk ∧ t < f.size
    · rw [if_pos h2]; exact hg (by omega)
    · rw [if_neg h2]
      by_cases h3 : t < f.size
      · have h4 : t ∉ js := fun hh => by
          rcases hm t hh with h5 | h5
          · exact h1 ⟨h5, h3⟩
          · exact h2 ⟨h5, h3⟩
        have h5 : f'.toList[t]? = (walk2 0 js f.toList f'.toList)[t]? := hat t
        rw [hat2 t, Nat.add_zero, if_neg h4] at h5
        exact h5
      · rw [List.getElem?_eq_none (by simp; omega), List.getElem?_eq_none (by simp; omega)]
end Go.VC
