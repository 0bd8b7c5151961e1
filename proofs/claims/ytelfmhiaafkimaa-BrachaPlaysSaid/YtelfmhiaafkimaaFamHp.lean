/- A heap that holds families: things told by a number, side by side. Over any program. -/
import Derived.Test.YtelfmhiaafkimaaHp2
import Derived.Test.YtelfmhiaafkimaaQueue
namespace Go.VC
open Go Go.RowKit
set_option linter.unusedSimpArgs false
set_option linter.unusedVariables false
/-- A queue, as a thing of the heap. -/
def oQ (e : TypeId) (v : Value) (xs : List Value) : Ob := ⟨v.ownBlock, fun w => OwnQ w e v xs, fun X w w' h hA hx => h.keep fun g hg => hA.block g (h.lt hg) (hx g hg), fun w h g hg => h.lt hg⟩
/-- The family F, N of them. -/
abbrev fam (N : Nat) (F : Nat → Ob) : List Ob := (List.range N).map F
theorem fam_at {L R : List Ob} {N t : Nat} {F : Nat → Ob} (ht : t < N) : (L ++ (fam N F ++ R))[L.length + t]? = some (F t) := by
  rw [List.getElem?_append_right (by omega), Nat.add_sub_cancel_left, List.getElem?_append_left (by simpa using ht)]
  simp [ht]
theorem fam_set {L R : List Ob} {N t : Nat} {F : Nat → Ob} (ht : t < N) (o : Ob) : (L ++ (fam N F ++ R)).set (L.length + t) o = L ++ (fam N (upd F t o) ++ R) := by
  rw [List.set_append_right _ _ (by omega), Nat.add_sub_cancel_left, List.set_append_left _ _ (by simpa using ht)]
  congr 2
  apply List.ext_getElem?
  intro j
  rw [List.getElem?_set]
  by_cases e : t = j
  · subst e
    rw [if_pos rfl, if_pos (by simpa using ht)]
    simp [ht, upd_same]
  · rw [if_neg e]
    by_cases hj : j < N
    · simp [hj, upd_other (Ne.symm e)]
    · rw [List.getElem?_eq_none (by simp; omega), List.getElem?_eq_none (by simp; omega)]
section
variable {B : Nat} {L R : List Ob} {w w' : World} {N t : Nat} {F : Nat → Ob}
theorem Hp.fget (h : Hp B (L ++ (fam N F ++ R)) w) (ht : t < N) : (F t).is w := h.get _ (fam_at ht)
theorem Hp.flt (h : Hp B (L ++ (fam N F ++ R)) w) (ht : t < N) {g : Nat} (hg : (F t).blk = some g) : B ≤ g ∧ g < w.heap.size := h.lt _ (fam_at ht) hg
/-- One of a family turns. -/
theorem Hp.fst (h : Hp B (L ++ (fam N F ++ R)) w) (ht : t < N) {o' : Ob} (ho : o'.is w') (hA : Agree (fun j => (F t).blk = some j) w w') (hs : o'.blk = (F t).blk ∨ ∀ g, o'.blk = some g → w.heap.size ≤ g) : St B (L ++ (fam N F ++ R)) w (L ++ (fam N (upd F t o') ++ R)) w' := by
  have := h.st (L.length + t) (fam_at ht) ho hA hs
  rwa [fam_set ht] at this
/-- A cell of a box of a family is set. -/
theorem Hp.fbox {bs : Nat → Nat} {cs : Nat → List Value} (h : Hp B (L ++ (fam N (fun i => oBox (bs i) (cs i)) ++ R)) w) (ht : t < N) (j : Nat) (v : Value) :
    St B (L ++ (fam N (fun i => oBox (bs i) (cs i)) ++ R)) w (L ++ (fam N (fun i => oBox (bs i) (upd cs t ((cs t).set j v) i)) ++ R)) (w.setCell ⟨bs t, j, none⟩ v) := by
  have := h.fst ht (o' := oBox (bs t) ((cs t).set j v)) (w' := w.setCell ⟨bs t, j, none⟩ v) ((h.fget ht : Box w (bs t) (cs t)).set j v) (Agree.setCell w v rfl) (Or.inl rfl)
  have e : upd (fun i => oBox (bs i) (cs i)) t (oBox (bs t) ((cs t).set j v)) = fun i => oBox (bs i) (upd cs t ((cs t).set j v) i) := by
    funext i
    by_cases hi : i = t
    · subst hi; rw [upd_same, upd_same]
    · rw [upd_other hi, upd_other hi]
  rwa [e] at this
/-- A queue of a family has grown. -/
theorem Hp.fgrown {e : TypeId} {vs : Nat → Value} {xs : Nat → List Value} (h : Hp B (L ++ (fam N (fun i => oQ e (vs i) (xs i)) ++ R)) w) (ht : t < N) {v' : Value} {xs' : List Value} (ho : OwnQ w' e v' xs') (hg : w.grownBy w' (vs t).ownBlock) (hs : Stays w (vs t) v') :
    St B (L ++ (fam N (fun i => oQ e (vs i) (xs i)) ++ R)) w (L ++ (fam N (fun i => oQ e (upd vs t v' i) (upd xs t xs' i)) ++ R)) w' := by
  have := h.fst ht (o' := oQ e v' xs') ho (Agree.grown hg fun k hk => hk) (hs.imp id fun ⟨g, h1, h2⟩ => fun g' h3 => by rw [show (oQ e v' xs').blk = v'.ownBlock from rfl, h1] at h3; cases h3; exact h2)
  have e2 : upd (fun i => oQ e (vs i) (xs i)) t (oQ e v' xs') = fun i => oQ e (upd vs t v' i) (upd xs t xs' i) := by
    funext i
    by_cases hi : i = t
    · subst hi; rw [upd_same, upd_same, upd_same]
    · rw [upd_other hi, upd_other hi, upd_other hi]
  rwa [e2] at this
/-- A queue of a family is told by another value (its head was cut off): the world stands. -/
theorem Hp.fcut {e : TypeId} {vs : Nat → Value} {xs : Nat → List Value} (h : Hp B (L ++ (fam N (fun i => oQ e (vs i) (xs i)) ++ R)) w) (ht : t < N) {v' : Value} {xs' : List Value} (ho : OwnQ w e v' xs') (hb : v'.ownBlock = (vs t).ownBlock) :
    St B (L ++ (fam N (fun i => oQ e (vs i) (xs i)) ++ R)) w (L ++ (fam N (fun i => oQ e (upd vs t v' i) (upd xs t xs' i)) ++ R)) w := by
  have := h.fst ht (o' := oQ e v' xs') ho (Agree.refl _ _) (Or.inl hb)
  have e2 : upd (fun i => oQ e (vs i) (xs i)) t (oQ e v' xs') = fun i => oQ e (upd vs t v' i) (upd xs t xs' i) := by
    funext i
    by_cases hi : i = t
    · subst hi; rw [upd_same, upd_same, upd_same]
    · rw [upd_other hi, upd_other hi, upd_other hi]
  rwa [e2] at this
/-- A slice of a family that only grows has grown. -/
theorem Hp.fown {e : TypeId} {ns : Nat → Nat} {vs : Nat → Value} {xs : Nat → List Value} (h : Hp B (L ++ (fam N (fun i => oOwn e 1 (ns i) (vs i) (xs i)) ++ R)) w) (ht : t < N) {n' B' : Nat} {v' : Value} {xs' : List Value} (ho : OwnK w' B' e 1 n' v' xs') (hg : w.grownBy w' (vs t).ownBlock) (hs : Stays w (vs t) v') :
    St B (L ++ (fam N (fun i => oOwn e 1 (ns i) (vs i) (xs i)) ++ R)) w (L ++ (fam N (fun i => oOwn e 1 (upd ns t n' i) (upd vs t v' i) (upd xs t xs' i)) ++ R)) w' := by
  have := h.fst ht (o' := oOwn e 1 n' v' xs') (ho.mono (Nat.zero_le _)) (Agree.grown hg fun k hk => hk) (hs.imp id fun ⟨g, h1, h2⟩ => fun g' h3 => by rw [show (oOwn e 1 n' v' xs').blk = v'.ownBlock from rfl, h1] at h3; cases h3; exact h2)
  have e2 : upd (fun i => oOwn e 1 (ns i) (vs i) (xs i)) t (oOwn e 1 n' v' xs') = fun i => oOwn e 1 (upd ns t n' i) (upd vs t v' i) (upd xs t xs' i) := by
    funext i
    by_cases hi : i = t
    · subst hi; simp only [upd_same]
    · simp only [upd_other hi]
  rwa [e2] at this
end
/-- A variable that is made and set at once. -/
theorem boxMade (w : World) (z vs : List Value) (t : TypeId) (hl : vs.length = z.length) (h1 : ∀ v ∈ vs, v.oneCell' = true) :
    VC.stOK (w.alloc (.cells z.toArray t)) ⟨w.heap.size, 0, none⟩ 0 vs ∧ Box (VC.stW (w.alloc (.cells z.toArray t)) ⟨w.heap.size, 0, none⟩ 0 vs) w.heap.size vs ∧ Below w.heap.size w (VC.stW (w.alloc (.cells z.toArray t)) ⟨w.heap.size, 0, none⟩ 0 vs) := by
  obtain ⟨h2, h3⟩ := (Box.new w z t).stAll (vs := vs) hl h1
  exact ⟨h2, h3, (stW_agree (X := fun j => j = w.heap.size) rfl vs _ 0).to_below (below_box (Below.refl _ _) _) (by simp) fun j hj => by omega⟩
theorem StampV.agree {X : Nat → Prop} {w w' : World} {b : Nat} {key : Value} {s : Nat} (h : StampV w b key s) (hA : Agree X w w') (hb : ¬ X b) : StampV w' b key s := by
  obtain ⟨es, clock, h1, rest⟩ := h
  exact ⟨es, clock, (hA.block b (Array.getElem?_eq_some_iff.1 h1).1 hb).trans h1, rest⟩
end Go.VC
