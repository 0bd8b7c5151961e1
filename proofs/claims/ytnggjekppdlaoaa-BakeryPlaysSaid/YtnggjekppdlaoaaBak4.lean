/- The document's tickets: its lists, side by side. -/
import Derived.Test.YtnggjekppdlaoaaBak2
namespace Go.VC
open Go Go.RowKit
/-- A store into one of the family. -/
theorem Fam.store {w : World} {B : Nat} {F : Nat → Option FE} (h : Fam w B F) {q : Nat} {e : TypeId} {size n g m c : Nat} {xs : List Value} (hq : F q = some ⟨e, size, n, .slice (some ⟨g, 0, none⟩) m c, xs⟩) (i : Nat) (u : Value) :
    Fam (w.setCell ⟨g, i, none⟩ u) B (upd F q (some ⟨e, size, n, .slice (some ⟨g, 0, none⟩) m c, xs.set i u⟩)) := by
  refine ⟨fun k x hk => ?_, fun k l x y hkl hk hl => ?_⟩
  · unfold upd at hk
    split at hk
    · cases hk; exact (h.1 q _ hq).stored i u
    · rename_i hne
      exact (h.1 k x hk).setCell (fun e => h.2 k q _ _ hne hk hq g e rfl) u
  · unfold upd at hk hl
    split at hk
    · rename_i h1
      rw [if_neg (fun e => hkl (h1.trans e.symm))] at hl
      cases hk
      have := h.2 q l _ _ (fun e => hkl (h1.trans e)) hq hl
      exact this
    · rename_i h1
      split at hl
      · cases hl
        have := h.2 k q _ _ h1 hk hq
        exact this
      · exact h.2 k l x y hkl hk hl
theorem cell_other {w : World} {g g' i j : Nat} {v : Value} (h : g ≠ g') : (w.setCell ⟨g, i, none⟩ v).cell? ⟨g', j, none⟩ = w.cell? ⟨g', j, none⟩ := World.cell?_setCell_other _ _ _ _ (by intro e; first | exact h (Addr.mk.inj e).1.symm | exact h (Addr.mk.inj e).1)
theorem rdI_other {w : World} {g g' i j : Nat} {v : Value} (h : g ≠ g') : rdI (w.setCell ⟨g, i, none⟩ v) ⟨g', j, none⟩ = rdI w ⟨g', j, none⟩ := by unfold rdI; rw [cell_other h]
theorem rdB_other {w : World} {g g' i j : Nat} {v : Value} (h : g ≠ g') : rdB (w.setCell ⟨g, i, none⟩ v) ⟨g', j, none⟩ = rdB w ⟨g', j, none⟩ := by unfold rdB; rw [cell_other h]
theorem rdSA_other {w : World} {g g' i j : Nat} {v : Value} (h : g ≠ g') : rdSA (w.setCell ⟨g, i, none⟩ v) ⟨g', j, none⟩ = rdSA w ⟨g', j, none⟩ := by unfold rdSA; rw [cell_other h]
theorem rdSN_other {w : World} {g g' i j : Nat} {v : Value} (h : g ≠ g') : rdSN (w.setCell ⟨g, i, none⟩ v) ⟨g', j, none⟩ = rdSN w ⟨g', j, none⟩ := by unfold rdSN; rw [cell_other h]
theorem rdSC_other {w : World} {g g' i j : Nat} {v : Value} (h : g ≠ g') : rdSC (w.setCell ⟨g, i, none⟩ v) ⟨g', j, none⟩ = rdSC w ⟨g', j, none⟩ := by unfold rdSC; rw [cell_other h]
theorem frozen_set {w : World} {a b : Addr} {v : Value} : (w.setCell a v).frozen? b = w.frozen? b := World.frozen?_setCell ..
/-- A list by places. -/
abbrev mapR {α β : Type} (n : Nat) (en : α → β) (f : Nat → α) : List β := (List.range n).map fun i => en (f i)
theorem mapR_set {α β : Type} (n : Nat) (en : α → β) (f : Nat → α) (i : Nat) (x : α) : (mapR n en f).set i (en x) = mapR n en (upd f i x) := by
  apply List.ext_getElem?
  intro j
  rw [List.getElem?_set]
  by_cases hij : i = j
  · subst hij
    by_cases hi : i < n
    · simp [mapR, hi, upd]
    · simp [mapR, hi]
  · rw [if_neg hij]
    by_cases hj : j < n
    · simp [mapR, hj, upd, Ne.symm hij]
    · simp [mapR, hj]
theorem mapR_at {α β : Type} {n : Nat} {en : α → β} {f : Nat → α} {i : Nat} (hi : i < n) : (mapR n en f)[i]? = some (en (f i)) := by simp [mapR, hi]
theorem upd_map {α β : Type} (f : α → β) (P : Nat → α) (i : Nat) (p : α) : (fun j => f (upd P i p j)) = upd (fun j => f (P j)) i (f p) := by
  funext j; unfold upd; split <;> rfl
end Go.VC
namespace Go.Proofs.Ytnggjekppdlaoaa
open Go Go.RowKit Go.VC
set_option linter.unusedSimpArgs false
set_option linter.unusedVariables false

abbrev sl (g n : Nat) : Value := .slice (some ⟨g, 0, none⟩) n n
/-- The lists of the document's run. -/
def RF (ob ga gt gh gk gm n : Nat) (vc v : Value) (cs inn : List Int) (a t : Nat → Int) (h : Nat → Bool) (k m : Nat → Int) : Nat → Option FE
  | 0 => some ⟨27, 1, cs.length, vc, ints cs⟩
  | 1 => some ⟨3, 1, inn.length, v, ints inn⟩
  | 2 => some ⟨3, 1, n, sl ga n, mapR n (Value.int .i64) a⟩
  | 3 => some ⟨3, 1, n, sl gt n, mapR n (Value.int .i64) t⟩
  | 4 => some ⟨4, 1, n, sl gh n, mapR n Value.bool h⟩
  | 5 => some ⟨3, 1, n, sl gk n, mapR n (Value.int .i64) k⟩
  | 6 => some ⟨3, 1, n, sl gm n, mapR n (Value.int .i64) m⟩
  | 7 => some ⟨26, 5, 1, sl ob 1, [vc, sl ga n, sl gt n, sl gh n, v]⟩
  | _ => none
section
variable {w w' : World} {B ob ga gt gh gk gm n : Nat} {vc v : Value} {cs inn : List Int} {a t k m : Nat → Int} {h : Nat → Bool}
abbrev RFm (w : World) (B ob ga gt gh gk gm n : Nat) (vc v : Value) (cs inn : List Int) (a t : Nat → Int) (h : Nat → Bool) (k m : Nat → Int) : Prop := Fam w B (RF ob ga gt gh gk gm n vc v cs inn a t h k m)
theorem RFm.setA (H : RFm w B ob ga gt gh gk gm n vc v cs inn a t h k m) (i : Nat) (x : Int) : RFm (w.setCell ⟨ga, i, none⟩ (.int .i64 x)) B ob ga gt gh gk gm n vc v cs inn (upd a i x) t h k m := by
  have := Fam.store H (q := 2) rfl i (.int .i64 x)
  rw [mapR_set] at this
  refine this.drop fun q y hq => ?_
  rcases q with _|_|_|_|_|_|_|_|q <;> first | exact hq | cases hq
theorem RFm.setT (H : RFm w B ob ga gt gh gk gm n vc v cs inn a t h k m) (i : Nat) (x : Int) : RFm (w.setCell ⟨gt, i, none⟩ (.int .i64 x)) B ob ga gt gh gk gm n vc v cs inn a (upd t i x) h k m := by
  have := Fam.store H (q := 3) rfl i (.int .i64 x)
  rw [mapR_set] at this
  refine this.drop fun q y hq => ?_
  rcases q with _|_|_|_|_|_|_|_|q <;> first | exact hq | cases hq
theorem RFm.setH (H : RFm w B ob ga gt gh gk gm n vc v cs inn a t h k m) (i : Nat) (x : Bool) : RFm (w.setCell ⟨gh, i, none⟩ (.bool x)) B ob ga gt gh gk gm n vc v cs inn a t (upd h i x) k m := by
  have := Fam.store H (q := 4) rfl i (.bool x)
  rw [mapR_set] at this
  refine this.drop fun q y hq => ?_
  rcases q with _|_|_|_|_|_|_|_|q <;> first | exact hq | cases hq
theorem RFm.setK (H : RFm w B ob ga gt gh gk gm n vc v cs inn a t h k m) (i : Nat) (x : Int) : RFm (w.setCell ⟨gk, i, none⟩ (.int .i64 x)) B ob ga gt gh gk gm n vc v cs inn a t h (upd k i x) m := by
  have := Fam.store H (q := 5) rfl i (.int .i64 x)
  rw [mapR_set] at this
  refine this.drop fun q y hq => ?_
  rcases q with _|_|_|_|_|_|_|_|q <;> first | exact hq | cases hq
theorem RFm.setM (H : RFm w B ob ga gt gh gk gm n vc v cs inn a t h k m) (i : Nat) (x : Int) : RFm (w.setCell ⟨gm, i, none⟩ (.int .i64 x)) B ob ga gt gh gk gm n vc v cs inn a t h k (upd m i x) := by
  have := Fam.store H (q := 6) rfl i (.int .i64 x)
  rw [mapR_set] at this
  refine this.drop fun q y hq => ?_
  rcases q with _|_|_|_|_|_|_|_|q <;> first | exact hq | cases hq
/-- One more code. -/
theorem RFm.code (H : RFm w B ob ga gt gh gk gm n vc v cs inn a t h k m) {vc' : Value} {x : Int} (ho : OwnK w' B 27 1 (cs.length + 1) vc' (ints cs ++ [.int .i64 x])) (hg : w.grownBy w' vc.ownBlock) (hst : Stays w vc vc') :
    (w'.cell? ⟨ob, 0, none⟩).isSome = true ∧ w'.frozen? ⟨ob, 0, none⟩ = false ∧ RFm (w'.setCell ⟨ob, 0, none⟩ vc') B ob ga gt gh gk gm n vc' v (cs ++ [x]) inn a t h k m := by
  have h1 := Fam.grow H (k := 0) rfl hg ho hst
  have h7 : OwnK w' B 26 5 1 (sl ob 1) [vc, sl ga n, sl gt n, sl gh n, v] := h1.1 7 _ rfl
  refine ⟨by rw [(h7.at (j := 0) (by omega)).1]; rfl, (h7.at (j := 0) (by omega)).2, ?_⟩
  have h2 := h1.store (q := 7) rfl 0 vc'
  refine h2.drop fun q y hq => ?_
  rcases q with _|_|_|_|_|_|_|_|q <;> first | exact hq | (rw [← hq]; simp [RF, upd])
/-- One more that went in. -/
theorem RFm.more (H : RFm w B ob ga gt gh gk gm n vc v cs inn a t h k m) {v' : Value} {x : Int} (ho : OwnK w' B 3 1 (inn.length + 1) v' (ints inn ++ [.int .i64 x])) (hg : w.grownBy w' v.ownBlock) (hst : Stays w v v') :
    (w'.cell? ⟨ob, 4, none⟩).isSome = true ∧ w'.frozen? ⟨ob, 4, none⟩ = false ∧ RFm (w'.setCell ⟨ob, 4, none⟩ v') B ob ga gt gh gk gm n vc v' cs (inn ++ [x]) a t h k m := by
  have h1 := Fam.grow H (k := 1) rfl hg ho hst
  have h7 : OwnK w' B 26 5 1 (sl ob 1) [vc, sl ga n, sl gt n, sl gh n, v] := h1.1 7 _ rfl
  refine ⟨by rw [(h7.at (j := 4) (by omega)).1]; rfl, (h7.at (j := 4) (by omega)).2, ?_⟩
  have h2 := h1.store (q := 7) rfl 4 v'
  refine h2.drop fun q y hq => ?_
  rcases q with _|_|_|_|_|_|_|_|q <;> first | exact hq | (rw [← hq]; simp [RF, upd])
theorem RFm.out (H : RFm w B ob ga gt gh gk gm n vc v cs inn a t h k m) : w.cell? ⟨ob, 0, none⟩ = some vc ∧ w.cell? ⟨ob, 1, none⟩ = some (sl ga n) ∧ w.cell? ⟨ob, 2, none⟩ = some (sl gt n) ∧ w.cell? ⟨ob, 3, none⟩ = some (sl gh n) ∧ w.cell? ⟨ob, 4, none⟩ = some v :=
  have h7 : OwnK w B 26 5 1 (sl ob 1) [vc, sl ga n, sl gt n, sl gh n, v] := H.1 7 _ rfl
  ⟨(h7.at (by omega)).1, (h7.at (by omega)).1, (h7.at (by omega)).1, (h7.at (by omega)).1, (h7.at (by omega)).1⟩
theorem RFm.o2 (H : RFm w B ob ga gt gh gk gm n vc v cs inn a t h k m) : OwnK w B 3 1 n (sl ga n) (mapR n (Value.int .i64) a) := H.1 2 _ rfl
theorem RFm.o3 (H : RFm w B ob ga gt gh gk gm n vc v cs inn a t h k m) : OwnK w B 3 1 n (sl gt n) (mapR n (Value.int .i64) t) := H.1 3 _ rfl
theorem RFm.o4 (H : RFm w B ob ga gt gh gk gm n vc v cs inn a t h k m) : OwnK w B 4 1 n (sl gh n) (mapR n Value.bool h) := H.1 4 _ rfl
theorem RFm.o5 (H : RFm w B ob ga gt gh gk gm n vc v cs inn a t h k m) : OwnK w B 3 1 n (sl gk n) (mapR n (Value.int .i64) k) := H.1 5 _ rfl
theorem RFm.o6 (H : RFm w B ob ga gt gh gk gm n vc v cs inn a t h k m) : OwnK w B 3 1 n (sl gm n) (mapR n (Value.int .i64) m) := H.1 6 _ rfl
theorem RFm.cells (H : RFm w B ob ga gt gh gk gm n vc v cs inn a t h k m) {i : Nat} (hi : i < n) : w.cell? ⟨ga, i, none⟩ = some (.int .i64 (a i)) ∧ w.cell? ⟨gt, i, none⟩ = some (.int .i64 (t i)) ∧ w.cell? ⟨gh, i, none⟩ = some (.bool (h i)) ∧ w.cell? ⟨gk, i, none⟩ = some (.int .i64 (k i)) ∧ w.cell? ⟨gm, i, none⟩ = some (.int .i64 (m i)) :=
  ⟨(H.o2.at (by omega)).1.trans (mapR_at hi), (H.o3.at (by omega)).1.trans (mapR_at hi), (H.o4.at (by omega)).1.trans (mapR_at hi), (H.o5.at (by omega)).1.trans (mapR_at hi), (H.o6.at (by omega)).1.trans (mapR_at hi)⟩
theorem RFm.soft (H : RFm w B ob ga gt gh gk gm n vc v cs inn a t h k m) {i : Nat} (hi : i < n) : w.frozen? ⟨ga, i, none⟩ = false ∧ w.frozen? ⟨gt, i, none⟩ = false ∧ w.frozen? ⟨gh, i, none⟩ = false ∧ w.frozen? ⟨gk, i, none⟩ = false ∧ w.frozen? ⟨gm, i, none⟩ = false :=
  ⟨(H.o2.at (by omega)).2, (H.o3.at (by omega)).2, (H.o4.at (by omega)).2, (H.o5.at (by omega)).2, (H.o6.at (by omega)).2⟩
/-- All blocks are apart. -/
theorem RFm.apart (H : RFm w B ob ga gt gh gk gm n vc v cs inn a t h k m) : (ob ≠ ga ∧ ob ≠ gt ∧ ob ≠ gh ∧ ob ≠ gk ∧ ob ≠ gm) ∧ (ga ≠ ob ∧ ga ≠ gt ∧ ga ≠ gh ∧ ga ≠ gk ∧ ga ≠ gm) ∧ (gt ≠ ob ∧ gt ≠ ga ∧ gt ≠ gh ∧ gt ≠ gk ∧ gt ≠ gm) ∧ (gh ≠ ob ∧ gh ≠ ga ∧ gh ≠ gt ∧ gh ≠ gk ∧ gh ≠ gm) ∧ (gk ≠ ob ∧ gk ≠ ga ∧ gk ≠ gt ∧ gk ≠ gh ∧ gk ≠ gm) ∧ (gm ≠ ob ∧ gm ≠ ga ∧ gm ≠ gt ∧ gm ≠ gh ∧ gm ≠ gk) := by
  have e : ∀ (i j : Nat) (x y : FE) (g g' : Nat), i ≠ j → RF ob ga gt gh gk gm n vc v cs inn a t h k m i = some x → RF ob ga gt gh gk gm n vc v cs inn a t h k m j = some y → x.v.ownBlock = some g → y.v.ownBlock = some g' → g ≠ g' := fun i j x y g g' hij hx hy h1 h2 e => H.2 i j x y hij hx hy g h1 (by rw [h2, e])
  have o := e 7
  refine ⟨⟨e 7 2 _ _ _ _ (by decide) rfl rfl rfl rfl, e 7 3 _ _ _ _ (by decide) rfl rfl rfl rfl, e 7 4 _ _ _ _ (by decide) rfl rfl rfl rfl, e 7 5 _ _ _ _ (by decide) rfl rfl rfl rfl, e 7 6 _ _ _ _ (by decide) rfl rfl rfl rfl⟩,
    ⟨e 2 7 _ _ _ _ (by decide) rfl rfl rfl rfl, e 2 3 _ _ _ _ (by decide) rfl rfl rfl rfl, e 2 4 _ _ _ _ (by decide) rfl rfl rfl rfl, e 2 5 _ _ _ _ (by decide) rfl rfl rfl rfl, e 2 6 _ _ _ _ (by decide) rfl rfl rfl rfl⟩,
    ⟨e 3 7 _ _ _ _ (by decide) rfl rfl rfl rfl, e 3 2 _ _ _ _ (by decide) rfl rfl rfl rfl, e 3 4 _ _ _ _ (by decide) rfl rfl rfl rfl, e 3 5 _ _ _ _ (by decide) rfl rfl rfl rfl, e 3 6 _ _ _ _ (by decide) rfl rfl rfl rfl⟩,
    ⟨e 4 7 _ _ _ _ (by decide) rfl rfl rfl rfl, e 4 2 _ _ _ _ (by decide) rfl rfl rfl rfl, e 4 3 _ _ _ _ (by decide) rfl rfl rfl rfl, e 4 5 _ _ _ _ (by decide) rfl rfl rfl rfl, e 4 6 _ _ _ _ (by decide) rfl rfl rfl rfl⟩,
    ⟨e 5 7 _ _ _ _ (by decide) rfl rfl rfl rfl, e 5 2 _ _ _ _ (by decide) rfl rfl rfl rfl, e 5 3 _ _ _ _ (by decide) rfl rfl rfl rfl, e 5 4 _ _ _ _ (by decide) rfl rfl rfl rfl, e 5 6 _ _ _ _ (by decide) rfl rfl rfl rfl⟩,
    ⟨e 6 7 _ _ _ _ (by decide) rfl rfl rfl rfl, e 6 2 _ _ _ _ (by decide) rfl rfl rfl rfl, e 6 3 _ _ _ _ (by decide) rfl rfl rfl rfl, e 6 4 _ _ _ _ (by decide) rfl rfl rfl rfl, e 6 5 _ _ _ _ (by decide) rfl rfl rfl rfl⟩⟩
end
end Go.Proofs.Ytnggjekppdlaoaa
