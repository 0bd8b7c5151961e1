/- Who is free in the end: by rounds, and by turns. Plain. -/
import Derived.Test.YtdcjacloejhmlaaWaitCheck
namespace Go.Proofs.Ytdcjacloejhmlaa
open Go Go.RowKit Go.VC
set_option linter.unusedSimpArgs false
set_option linter.unusedVariables false

section
variable (len : Nat) (who : Nat → Int) (all : Nat → Bool) (L : Nat → List Int)
def can (S : Nat → Bool) (x : Nat) : Bool := if all x = true then (L x).all (fun y => S y.toNat) else (L x).any (fun y => S y.toNat)
inductive Fr : Nat → Prop
  | out {i : Nat} : (∀ x, x < len → who x ≠ i) → Fr i
  | every {x i : Nat} : x < len → who x = i → all x = true → (∀ y ∈ L x, Fr y.toNat) → Fr i
  | one {x i : Nat} {y : Int} : x < len → who x = i → all x = false → y ∈ L x → Fr y.toNat → Fr i
/-- What needs are, when they may be. -/
structure Needs (n : Nat) : Prop where
  le : len ≤ n
  wh : ∀ x, x < len → ∃ W : Nat, who x = W ∧ W < n
  lim : ∀ x, x < len → (L x).length ≤ 12
  inn : ∀ x, x < len → ∀ y ∈ L x, ∃ K : Nat, y = K ∧ K < n
  uniq : ∀ x y, x < len → y < len → who x = who y → x = y
end
variable {len n : Nat} {who : Nat → Int} {all : Nat → Bool} {L : Nat → List Int}
theorem can_fr {S : Nat → Bool} (hS : ∀ i, S i = true → Fr len who all L i) {x i : Nat} (hx : x < len) (hw : who x = i) (h : can all L S x = true) : Fr len who all L i := by
  unfold can at h
  by_cases ha : all x = true
  · rw [if_pos ha, List.all_eq_true] at h
    exact .every hx hw ha fun y hy => hS _ (h y hy)
  · rw [if_neg ha, List.any_eq_true] at h
    obtain ⟨y, hy, h⟩ := h
    exact .one hx hw (by simpa using ha) hy (hS _ h)
theorem can_mono {S S' : Nat → Bool} (hN : Needs len who L n) (hS : ∀ i, i < n → S i = true → S' i = true) {x : Nat} (hx : x < len) (h : can all L S x = true) : can all L S' x = true := by
  unfold can at h ⊢
  have hy' : ∀ y ∈ L x, S y.toNat = true → S' y.toNat = true := fun y hy h => by
    obtain ⟨K, rfl, hK⟩ := hN.inn x hx y hy
    exact hS _ hK h
  by_cases ha : all x = true
  · rw [if_pos ha, List.all_eq_true] at h ⊢
    exact fun y hy => hy' y hy (h y hy)
  · rw [if_neg ha, List.any_eq_true] at h ⊢
    obtain ⟨y, hy, h⟩ := h
    exact ⟨y, hy, hy' y hy h⟩
/-- What is closed has all that are free. -/
theorem fr_closed {S : Nat → Bool} (hN : Needs len who L n) (h0 : ∀ i, i < n → (∀ x, x < len → who x ≠ i) → S i = true) (h1 : ∀ x, x < len → can all L S x = true → S (who x).toNat = true) {i : Nat} (h : Fr len who all L i) : i < n → S i = true := by
  induction h with
  | out h => exact fun hi => h0 _ hi h
  | @every x i hx hw ha hy ih =>
    intro hi
    have := h1 x hx (by
      unfold can
      rw [if_pos ha, List.all_eq_true]
      intro y hyL
      obtain ⟨K, rfl, hK⟩ := hN.inn x hx y hyL
      exact ih _ hyL hK)
    rw [hw] at this; exact this
  | @one x i y hx hw ha hyL hy ih =>
    intro hi
    obtain ⟨K, rfl, hK⟩ := hN.inn x hx y hyL
    have := h1 x hx (by
      unfold can
      rw [if_neg (by rw [ha]; simp), List.any_eq_true]
      exact ⟨_, hyL, ih hK⟩)
    rw [hw] at this; exact this

/-- More of those that are true. -/
def LeB (l l' : List Bool) : Prop := l.length = l'.length ∧ ∀ i : Nat, l.getD i false = true → l'.getD i false = true
theorem LeB.refl (l : List Bool) : LeB l l := ⟨rfl, fun _ h => h⟩
theorem LeB.trans {l l' l'' : List Bool} (h : LeB l l') (k : LeB l' l'') : LeB l l'' := ⟨h.1.trans k.1, fun i hi => k.2 i (h.2 i hi)⟩
theorem LeB.count : ∀ {l l' : List Bool}, LeB l l' → l = l' ∨ l.count true < l'.count true
  | [], [], _ => .inl rfl
  | [], _ :: _, h => by cases h.1
  | _ :: _, [], h => by cases h.1
  | a :: l, b :: l', h => by
    have ht : LeB l l' := ⟨Nat.succ.inj h.1, fun i hi => h.2 (i + 1) hi⟩
    have ha : a = true → b = true := fun e => h.2 0 e
    rcases ht.count with e | e
    · subst e
      cases a with
      | true => rw [ha rfl]; exact .inl rfl
      | false => cases b with
        | true => right; simp
        | false => exact .inl rfl
    · right
      cases a with
      | true => rw [ha rfl]; simpa using e
      | false => cases b <;> simp <;> omega
theorem LeB.set (l : List Bool) (i : Nat) : LeB l (l.set i true) := ⟨by simp, fun j hj => by
  by_cases hij : i = j
  · subst hij
    have : i < l.length := by
      rcases Nat.lt_or_ge i l.length with h | h
      · exact h
      · rw [List.getD_eq_getElem?_getD, List.getElem?_eq_none h] at hj; cases hj
    simp [List.getD_eq_getElem?_getD, this]
  · simpa [List.getD_eq_getElem?_getD, List.getElem?_set_ne hij] using hj⟩
theorem all_of_count {l : List Bool} (h : l.length ≤ l.count true) {i : Nat} (hi : i < l.length) : l.getD i false = true := by
  have h1 : l.count true = l.length := Nat.le_antisymm (List.count_le_length) h
  have h2 := List.count_eq_length.1 h1
  have := h2 l[i] (List.getElem_mem hi)
  simp [List.getD_eq_getElem?_getD, hi, ← this]

/-- By rounds: what holds ahead of round t. -/
structure Rnd (len : Nat) (who : Nat → Int) (all : Nat → Bool) (L : Nat → List Int) (n t : Nat) (fs : List Bool) : Prop where
  size : fs.length = n
  sound : ∀ i, fs.getD i false = true → Fr len who all L i
  out : ∀ i, i < n → (∀ x, x < len → who x ≠ i) → fs.getD i false = true
  done : (∀ x, x < len → can all L (fun i => fs.getD i false) x = true → fs.getD (who x).toNat false = true) ∨ t ≤ fs.count true
/-- Inside a round, ahead of need x. -/
structure Rin (len : Nat) (who : Nat → Int) (all : Nat → Bool) (L : Nat → List Int) (n x : Nat) (fs gs : List Bool) : Prop where
  le : LeB fs gs
  sound : ∀ i, gs.getD i false = true → Fr len who all L i
  done : fs = gs → ∀ y, y < x → can all L (fun i => fs.getD i false) y = true → fs.getD (who y).toNat false = true
theorem Rin.start {t : Nat} {fs : List Bool} (h : Rnd len who all L n t fs) : Rin len who all L n 0 fs fs := ⟨.refl _, h.sound, fun _ y hy => absurd hy (by omega)⟩
theorem Rin.skip {x : Nat} {fs gs : List Bool} (h : Rin len who all L n x fs gs) (hc : can all L (fun i => gs.getD i false) x = false) : Rin len who all L n (x + 1) fs gs :=
  ⟨h.le, h.sound, fun e y hy hyc => by
    rcases Nat.lt_or_ge y x with hyx | hyx
    · exact h.done e y hyx hyc
    · obtain rfl : y = x := by omega
      rw [← e, hyc] at hc; cases hc⟩
theorem Rin.put {x W : Nat} {fs gs : List Bool} (h : Rin len who all L n x fs gs) (hx : x < len) (hw : who x = W) (hc : can all L (fun i => gs.getD i false) x = true) (hW : W < gs.length) : Rin len who all L n (x + 1) fs (gs.set W true) := by
  have hset : ∀ i, (gs.set W true).getD i false = true → gs.getD i false = true ∨ i = W := by
    intro i hi
    by_cases hWi : W = i
    · exact .inr hWi.symm
    · left; simpa [List.getD_eq_getElem?_getD, List.getElem?_set_ne hWi] using hi
  refine ⟨h.le.trans (.set _ _), fun i hi => ?_, fun e y hy hyc => ?_⟩
  · rcases hset i hi with hi | rfl
    · exact h.sound i hi
    · exact can_fr h.sound hx hw hc
  · have eg : fs = gs := by
      rcases h.le.count with e' | hlt
      · exact e'
      · have := (LeB.set gs W).count
        rcases this with e2 | hlt2
        · rw [← e2] at e; exact e
        · rw [← e] at hlt2; omega
    rcases Nat.lt_or_ge y x with hyx | hyx
    · exact h.done eg y hyx hyc
    · obtain rfl : y = x := by omega
      rw [e, hw]
      simp [List.getD_eq_getElem?_getD, hW]
theorem Rin.fin {t : Nat} {fs gs : List Bool} (hN : Needs len who L n) (hr : Rnd len who all L n t fs) (h : Rin len who all L n len fs gs) : Rnd len who all L n (t + 1) gs := by
  refine ⟨h.le.1.symm.trans hr.size, h.sound, fun i hi ho => h.le.2 i (hr.out i hi ho), ?_⟩
  rcases h.le.count with e | hlt
  · left
    subst e
    exact fun x hx hc => h.done rfl x hx hc
  · rcases hr.done with hd | hd
    · left
      exfalso
      have hle : LeB gs fs := ⟨h.le.1.symm, fun i hi => by
        have hin : i < n := by
          rcases Nat.lt_or_ge i gs.length with h' | h'
          · rw [← h.le.1, hr.size] at h'; exact h'
          · rw [List.getD_eq_getElem?_getD, List.getElem?_eq_none h'] at hi; cases hi
        exact fr_closed (S := fun i => fs.getD i false) hN hr.out hd (h.sound i hi) hin⟩
      rcases hle.count with e | e
      · rw [e] at hlt; omega
      · omega
    · right; omega
/-- By rounds: all that are free. -/
theorem Rnd.fr {fs : List Bool} (hN : Needs len who L n) (h : Rnd len who all L n n fs) {i : Nat} (hi : i < n) : fs.getD i false = true ↔ Fr len who all L i := by
  refine ⟨h.sound i, fun hf => ?_⟩
  rcases h.done with hd | hd
  · exact fr_closed (S := fun i => fs.getD i false) hN h.out hd hf hi
  · exact all_of_count (by rw [h.size]; exact hd) (by rw [h.size]; exact hi)

/-- By turns. -/
def nd (len : Nat) (who : Nat → Int) (i : Nat) : Option Nat := (List.range len).find? fun x => decide (who x = i)
def Phi (len : Nat) (who : Nat → Int) (all : Nat → Bool) (L : Nat → List Int) (S : Nat → Bool) (i : Nat) : Bool := match nd len who i with | none => true | some x => can all L S x
def GG (len : Nat) (who : Nat → Int) (all : Nat → Bool) (L : Nat → List Int) : Nat → Nat → Bool
  | 0 => fun _ => false
  | t + 1 => Phi len who all L (GG len who all L t)
theorem nd_none {i : Nat} (h : nd len who i = none) : ∀ x, x < len → who x ≠ i := by
  unfold nd at h
  rw [List.find?_eq_none] at h
  intro x hx he
  exact h x (List.mem_range.2 hx) (by simpa using he)
theorem nd_some {i x : Nat} (h : nd len who i = some x) : x < len ∧ who x = i := by
  unfold nd at h
  have h1 := List.mem_of_find?_eq_some h
  have h2 := List.find?_some h
  exact ⟨List.mem_range.1 h1, by simpa using h2⟩
theorem GG_fr : ∀ (t i : Nat), GG len who all L t i = true → Fr len who all L i
  | 0, i, h => by cases h
  | t + 1, i, h => by
    have h' : Phi len who all L (GG len who all L t) i = true := h
    unfold Phi at h'
    split at h'
    · rename_i hn; exact .out (nd_none hn)
    · rename_i x hs; exact can_fr (GG_fr t) (nd_some hs).1 (nd_some hs).2 h'
theorem Phi_mono {S S' : Nat → Bool} (hN : Needs len who L n) (hS : ∀ i, i < n → S i = true → S' i = true) {i : Nat} (h : Phi len who all L S i = true) : Phi len who all L S' i = true := by
  unfold Phi at h ⊢
  split at h
  · rfl
  · rename_i x hs; exact can_mono hN hS (nd_some hs).1 h
theorem GG_mono (hN : Needs len who L n) : ∀ (t i : Nat), GG len who all L t i = true → GG len who all L (t + 1) i = true
  | 0, i, h => by cases h
  | t + 1, i, h => Phi_mono hN (fun j _ hj => GG_mono hN t j hj) h
theorem GG_done (hN : Needs len who L n) (t : Nat) : (∀ i, i < n → GG len who all L (t + 1) i = true → GG len who all L t i = true) ∨ t ≤ ((List.range n).map (GG len who all L t)).count true := by
  induction t with
  | zero => right; omega
  | succ t ih =>
    rcases ih with h | h
    · left
      intro i hi hg
      exact Phi_mono hN h hg
    · have hle : LeB ((List.range n).map (GG len who all L t)) ((List.range n).map (GG len who all L (t + 1))) := ⟨by simp, fun i hi => by
        by_cases hin : i < n
        · simp only [List.getD_eq_getElem?_getD, List.getElem?_map, List.getElem?_range hin, Option.map_some, Option.getD_some] at hi ⊢
          exact GG_mono hN t i hi
        · simp [List.getD_eq_getElem?_getD, hin] at hi⟩
      rcases hle.count with e | e
      · left
        have he : ∀ i, i < n → GG len who all L t i = GG len who all L (t + 1) i := fun i hi => by
          have := congrArg (fun l => l[i]?) e
          simpa [hi] using this
        intro i hi hg
        exact Phi_mono hN (fun j hj hh => by rw [he j hj]; exact hh) hg
      · right; omega
theorem GG_iff (hN : Needs len who L n) {i : Nat} (hi : i < n) : GG len who all L (n + 1) i = true ↔ Fr len who all L i := by
  refine ⟨GG_fr _ _, fun hf => ?_⟩
  rcases GG_done (all := all) hN n with h | h
  · refine fr_closed (S := GG len who all L (n + 1)) hN (fun i hi ho => ?_) (fun x hx hc => ?_) hf hi
    · show Phi len who all L _ i = true
      unfold Phi
      cases hs : nd len who i with
      | none => rfl
      | some x => exact absurd (nd_some hs).2 (ho x (nd_some hs).1)
    · obtain ⟨W, hW, hWn⟩ := hN.wh x hx
      have hc' : can all L (GG len who all L n) x = true := can_mono hN h hx hc
      show Phi len who all L _ _ = true
      unfold Phi
      cases hs : nd len who (who x).toNat with
      | none => rfl
      | some y =>
        obtain ⟨hy, hyw⟩ := nd_some hs
        rw [hW, Int.toNat_natCast] at hyw
        rw [hN.uniq y x hy hx (by rw [hyw, hW])]
        exact hc'
  · have := all_of_count (l := (List.range n).map (GG len who all L n)) (by simpa using h) (i := i) (by simpa using hi)
    simp only [List.getD_eq_getElem?_getD, List.getElem?_map, List.getElem?_range hi, Option.map_some, Option.getD_some] at this
    exact GG_mono hN n i this
/-- Both tell the same. -/
theorem stuck_same {fs : List Bool} (hN : Needs len who L n) (h : Rnd len who all L n n fs) : (List.range n).filter (fun i => !fs.getD i false) = (List.range n).filter (fun i => !GG len who all L (n + 1) i) := by
  refine List.filter_congr fun i hi => ?_
  have hi := List.mem_range.1 hi
  have : fs.getD i false = GG len who all L (n + 1) i := by rw [Bool.eq_iff_iff, h.fr hN hi, GG_iff hN hi]
  rw [this]
end Go.Proofs.Ytdcjacloejhmlaa
