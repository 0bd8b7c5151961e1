/- A heap of things that lie apart, each in a block of its own. Over any program. -/
import Derived.Test.YtelfmhiaafkimaaFam
import Derived.Test.YtelfmhiaafkimaaMapK
namespace Go.VC
open Go Go.RowKit
set_option linter.unusedVariables false
set_option linter.unusedSimpArgs false

/-! What a guarded operation that was not run leaves: behind 'undef'. -/
theorem tu (x : Value) : pickV true x (.tuple #[]) = x := pickV_tu x
theorem uf (x : Value) : pickV false (.tuple #[]) x = x := pickV_uf x
theorem ul (x : Value) : pickC (.tuple #[]) x = True := pickC_ul x
theorem ur (x : Value) : pickC x (.tuple #[]) = True := pickC_ur x
/-- What lies in one block (or in none: a nil slice). -/
structure Ob where
  blk : Option Nat
  is : World → Prop
  keeps : ∀ (X : Nat → Prop) (w w' : World), is w → Agree X w w' → (∀ b, blk = some b → ¬ X b) → is w'
  lt : ∀ w, is w → ∀ b, blk = some b → b < w.heap.size

def oBox (b : Nat) (cs : List Value) : Ob := ⟨some b, fun w => Box w b cs, fun X w w' h hA hx => h.agree hA (hx b rfl), fun w h g hg => by cases hg; exact h.1⟩
def oRecs (g n K : Nat) (cs : Nat → List Value) : Ob := ⟨some g, fun w => Recs w g n K cs, fun X w w' h hA hx => h.agree hA (hx g rfl), fun w h b hb => by cases hb; exact h.1⟩
def oOwn (e : TypeId) (size n : Nat) (v : Value) (xs : List Value) : Ob := ⟨v.ownBlock, fun w => OwnK w 0 e size n v xs, fun X w w' h hA hx => h.keep fun g hg => hA.block g (h.lt hg).2 (hx g hg), fun w h g hg => (h.lt hg).2⟩
def oMap {P : Program} {k : TypeId} {α : Type} (E : KE P k α) (b n : Nat) (m : α → Option Value) : Ob := ⟨some b, fun w => MapV P E w b n m, fun X w w' h hA hx => h.agree hA (hx b rfl), fun w h g hg => by cases hg; exact h.lt⟩

structure Hp (B : Nat) (L : List Ob) (w : World) : Prop where
  all : ∀ o ∈ L, o.is w ∧ ∀ g, o.blk = some g → B ≤ g
  apart : L.Pairwise fun a b => ∀ g, a.blk = some g → b.blk ≠ some g
  base : B ≤ w.heap.size
/-- The blocks of L. -/
def foot (L : List Ob) (j : Nat) : Prop := ∃ o ∈ L, o.blk = some j
section
variable {B : Nat} {L R : List Ob} {w w' : World} {o o' : Ob}
theorem Hp.nil {B : Nat} {w : World} (hB : B ≤ w.heap.size) : Hp B [] w := ⟨fun o h => (by cases h), List.Pairwise.nil, hB⟩
theorem Hp.get (h : Hp B L w) (i : Nat) (hi : L[i]? = some o) : o.is w := (h.1 o (List.mem_of_getElem? hi)).1
theorem Hp.lt (h : Hp B L w) (i : Nat) (hi : L[i]? = some o) {g : Nat} (hg : o.blk = some g) : B ≤ g ∧ g < w.heap.size := ⟨(h.1 o (List.mem_of_getElem? hi)).2 g hg, o.lt w (h.get i hi) g hg⟩
theorem Hp.foot_lt (h : Hp B L w) {g : Nat} (hg : foot L g) : B ≤ g ∧ g < w.heap.size := by
  obtain ⟨o, ho, hg⟩ := hg
  exact ⟨(h.1 o ho).2 g hg, o.lt w (h.1 o ho).1 g hg⟩
theorem Hp.ne (h : Hp B L w) (i j : Nat) (hij : i ≠ j) (hi : L[i]? = some o) (hj : L[j]? = some o') : ∀ g, o.blk = some g → o'.blk ≠ some g := by
  obtain ⟨h1, h2⟩ := List.getElem?_eq_some_iff.1 hi
  obtain ⟨h3, h4⟩ := List.getElem?_eq_some_iff.1 hj
  have hp := List.pairwise_iff_getElem.1 h.2
  subst h2; subst h4
  rcases Nat.lt_or_gt_of_ne hij with hlt | hlt
  · exact hp i j h1 h3 hlt
  · intro g h5 h6; exact hp j i h3 h1 hlt g h6 h5
theorem Hp.agree {X : Nat → Prop} (h : Hp B L w) (hA : Agree X w w') (hX : ∀ g, foot L g → ¬ X g) : Hp B L w' :=
  ⟨fun o ho => ⟨o.keeps X w w' (h.1 o ho).1 hA fun b hb => hX b ⟨o, ho, hb⟩, (h.1 o ho).2⟩, h.2, Nat.le_trans h.base hA.size⟩
theorem Hp.below (h : Hp B L w) (hB : Below w.heap.size w w') : Hp B L w' := h.agree (X := fun _ => False) (Agree.of_below hB) fun _ _ h => h
theorem Hp.drewN (h : Hp B L w) (u : Nat) : Hp B L (w.drewN u) := h.below (below_drewN (Below.refl _ w) u)
theorem Hp.alloc (h : Hp B L w) (x : Obj) : Hp B L (w.alloc x) := h.below ((Below.refl _ _).alloc (Nat.le_refl _) x)
theorem Hp.mono {B' : Nat} (h : Hp B L w) (hB : B' ≤ B) : Hp B' L w := ⟨fun o ho => ⟨(h.1 o ho).1, fun g hg => Nat.le_trans hB ((h.1 o ho).2 g hg)⟩, h.2, Nat.le_trans hB h.base⟩
/-- A new one. -/
theorem Hp.add (h : Hp B L w) (hB : Below w.heap.size w w') (ho : o.is w') (hn : ∀ g, o.blk = some g → w.heap.size ≤ g) : Hp B (o :: L) w' := by
  have h2 := h.below hB
  have hbase := h.base
  refine ⟨fun x hx => ?_, List.pairwise_cons.2 ⟨fun x hx g h3 h4 => ?_, h.2⟩, Nat.le_trans h.base hB.size⟩
  · rcases List.mem_cons.1 hx with rfl | hx
    · exact ⟨ho, fun g hg => Nat.le_trans hbase (hn g hg)⟩
    · exact h2.1 x hx
  · have := hn g h3
    have := x.lt w (h.1 x hx).1 g h4
    omega
/-- One of them turns. -/
theorem Hp.turn (h : Hp B L w) (i : Nat) (hi : L[i]? = some o) (ho : o'.is w') (hA : Agree (fun j => o.blk = some j) w w') (hs : o'.blk = o.blk ∨ ∀ g, o'.blk = some g → w.heap.size ≤ g) : Hp B (L.set i o') w' := by
  have hbase := h.base
  obtain ⟨hlt, he⟩ := List.getElem?_eq_some_iff.1 hi
  have hp := List.pairwise_iff_getElem.1 h.2
  have hother : ∀ j (hj : j < L.length), j ≠ i → (L[j]).is w' ∧ (∀ g, o'.blk = some g → (L[j]).blk ≠ some g) := fun j hj hji => by
    have hne := h.ne i j (Ne.symm hji) hi (List.getElem?_eq_getElem hj)
    refine ⟨(L[j]).keeps _ w w' (h.1 _ (List.getElem_mem hj)).1 hA fun b hb hx => hne b hx hb, fun g hg => ?_⟩
    rcases hs with hs | hs
    · rw [hs] at hg; exact hne g hg
    · intro h5
      have := hs g hg
      have := (L[j]).lt w (h.1 _ (List.getElem_mem hj)).1 g h5
      omega
  refine ⟨fun x hx => ?_, List.pairwise_iff_getElem.2 fun a b ha hb hab => ?_, Nat.le_trans h.base hA.size⟩
  · obtain ⟨j, hj, rfl⟩ := List.getElem_of_mem hx
    rw [List.length_set] at hj
    rw [List.getElem_set]
    split
    · refine ⟨ho, fun g hg => ?_⟩
      rcases hs with hs | hs
      · rw [hs] at hg; exact (h.1 o (List.mem_of_getElem? hi)).2 g hg
      · exact Nat.le_trans hbase (hs g hg)
    · rename_i hij
      exact ⟨(hother j hj (Ne.symm hij)).1, (h.1 _ (List.getElem_mem hj)).2⟩
  · rw [List.length_set] at ha hb
    rw [List.getElem_set, List.getElem_set]
    split
    · rename_i h1
      rw [if_neg (by omega)]
      exact (hother b hb (by omega)).2
    · split
      · rename_i h1 h2
        intro g h3 h4
        exact (hother a ha (by omega)).2 g h4 h3
      · exact hp a b ha hb hab
/-- Some are no more looked at. -/
theorem Hp.sub {L' : List Ob} (h : Hp B L w) (hs : L'.Sublist L) : Hp B L' w := ⟨fun o ho => h.1 o (hs.subset ho), h.2.sublist hs, h.base⟩
/-- Some of them, in another order. -/
theorem Hp.pick (h : Hp B L w) (is : List Nat) (hn : is.Nodup) (L' : List Ob) (hL : is.map (fun i => L[i]?) = L'.map some) : Hp B L' w := by
  have hlen : is.length = L'.length := by have := congrArg List.length hL; simpa using this
  have hat : ∀ a (ha : a < L'.length), L[is[a]'(by omega)]? = some L'[a] := fun a ha => by
    have := congrArg (fun l : List (Option Ob) => l[a]?) hL
    simp only [List.getElem?_map, List.getElem?_eq_getElem ha, List.getElem?_eq_getElem (show a < is.length by omega), Option.map_some] at this
    exact Option.some.inj this
  refine ⟨fun o ho => ?_, List.pairwise_iff_getElem.2 fun a b ha hb hab => ?_, h.base⟩
  · obtain ⟨a, ha, rfl⟩ := List.getElem_of_mem ho
    exact h.1 _ (List.mem_of_getElem? (hat a ha))
  · refine h.ne _ _ (fun e => ?_) (hat a ha) (hat b hb)
    have := List.pairwise_iff_getElem.1 hn a b (by omega) (by omega) hab
    exact this e
theorem Hp.perm {L' : List Ob} (h : Hp B L w) (hp : L.Perm L') : Hp B L' w := ⟨fun o ho => h.1 o (hp.mem_iff.2 ho), hp.pairwise h.2 fun {a b} hab g h1 h2 => hab g h2 h1, h.base⟩
/-- A part of them turns: by a call, say. -/
theorem Hp.part {L' : List Ob} (h : Hp B (L ++ R) w) (h' : Hp B L' w') (hA : Agree (foot L) w w') (hf : ∀ g, foot L' g → foot L g ∨ w.heap.size ≤ g) : Hp B (L' ++ R) w' := by
  have hp := List.pairwise_append.1 h.2
  have hR : Hp B R w' := Hp.agree (h.sub (List.sublist_append_right _ _)) hA fun g ⟨o, ho, hg⟩ ⟨o2, ho2, hg2⟩ => hp.2.2 o2 ho2 o ho g hg2 hg
  refine ⟨fun o ho => (List.mem_append.1 ho).elim (h'.1 o) (hR.1 o), List.pairwise_append.2 ⟨h'.2, hR.2, fun a ha b hb g h1 h2 => ?_⟩, h'.base⟩
  rcases hf g ⟨a, ha, h1⟩ with ⟨o, ho, hg⟩ | hg
  · exact hp.2.2 o ho b hb g hg h2
  · have := b.lt w (h.1 b (List.mem_append_right _ hb)).1 g h2
    omega
theorem Hp.not_foot (h : Hp B (L ++ R) w) (i : Nat) (hi : R[i]? = some o) {j : Nat} (hj : o.blk = some j) : ¬ VC.foot L j := fun ⟨x, hx, hxj⟩ =>
  (List.pairwise_append.1 h.2).2.2 x hx o (List.mem_of_getElem? hi) j hxj hj
theorem Hp.left (h : Hp B (L ++ R) w) : Hp B L w := h.sub (List.sublist_append_left _ _)
theorem foot_nil {j : Nat} : foot [] j ↔ False := ⟨fun ⟨o, h, _⟩ => (by cases h), False.elim⟩
theorem foot_cons {j : Nat} : foot (o :: L) j ↔ o.blk = some j ∨ foot L j :=
  ⟨fun ⟨x, hx, h⟩ => (List.mem_cons.1 hx).elim (fun e => Or.inl (e ▸ h)) fun hx => Or.inr ⟨x, hx, h⟩, fun h => h.elim (fun h => ⟨o, by simp, h⟩) fun ⟨x, hx, h⟩ => ⟨x, by simp [hx], h⟩⟩
theorem foot_at {i : Nat} (hi : L[i]? = some o) {j : Nat} (h : o.blk = some j) : foot L j := ⟨o, List.mem_of_getElem? hi, h⟩
/-- From the heap L to the heap L': nothing else has turned, what is new lies in new blocks. -/
structure St (B : Nat) (L : List Ob) (w : World) (L' : List Ob) (w' : World) : Prop where
  hp : Hp B L' w'
  agree : Agree (foot L) w w'
  foot : ∀ g, foot L' g → foot L g ∨ w.heap.size ≤ g
theorem St.refl (h : Hp B L w) : St B L w L w := ⟨h, Agree.refl _ _, fun g hg => Or.inl hg⟩
theorem St.trans {L' L'' : List Ob} {w'' : World} (h : St B L w L' w') (k : St B L' w' L'' w'') : St B L w L'' w'' :=
  ⟨k.hp, h.agree.trans' k.agree fun j hj hf => (h.foot j hf).resolve_right (by omega), fun g hg => (k.foot g hg).elim (h.foot g) fun h2 => Or.inr (Nat.le_trans h.agree.size h2)⟩
theorem Hp.below_st (h : Hp B L w) (hB : Below w.heap.size w w') : St B L w L w' := ⟨h.below hB, Agree.of_below hB, fun g hg => Or.inl hg⟩
theorem St.below {L' : List Ob} (h : St B L w L' w') (hL : Hp B L w) : Below B w w' := h.agree.to_below (Below.refl _ _) hL.base fun k hk => (hL.foot_lt hk).1
theorem St.later {L' : List Ob} {w'' : World} (h : St B L w L' w') (hB : Below w'.heap.size w' w'') : St B L w L' w'' := h.trans (h.hp.below_st hB)
theorem St.drewN {L' : List Ob} (h : St B L w L' w') (u : Nat) : St B L w L' (w'.drewN u) := h.later (below_drewN (Below.refl _ _) u)
theorem St.alloc {L' : List Ob} (h : St B L w L' w') (x : Obj) : St B L w L' (w'.alloc x) := h.later ((Below.refl _ _).alloc (Nat.le_refl _) x)
theorem St.part {L' : List Ob} (h : Hp B (L ++ R) w) (k : St B L w L' w') : St B (L ++ R) w (L' ++ R) w' :=
  ⟨h.part k.hp k.agree k.foot, k.agree.mono fun j _ ⟨o, ho, hg⟩ => ⟨o, List.mem_append_left _ ho, hg⟩, fun g ⟨o, ho, hg⟩ => (List.mem_append.1 ho).elim (fun ho => (k.foot g ⟨o, ho, hg⟩).imp (fun ⟨x, hx, hg⟩ => ⟨x, List.mem_append_left _ hx, hg⟩) id) fun ho => Or.inl ⟨o, List.mem_append_right _ ho, hg⟩⟩
theorem foot_congr {L' : List Ob} {g : Nat} (e : L.map Ob.blk = L'.map Ob.blk) (h : foot L g) : foot L' g := by
  obtain ⟨o, ho, hg⟩ := h
  have : some g ∈ L.map Ob.blk := List.mem_map.2 ⟨o, ho, hg⟩
  rw [e] at this
  obtain ⟨o', ho', hg'⟩ := List.mem_map.1 this
  exact ⟨o', ho', hg'⟩
/-- A store into what is new and not looked at. -/
theorem St.far {L' : List Ob} (h : St B L w L' w') {a : Addr} (ha : w.heap.size ≤ a.block) (hn : ¬ VC.foot L' a.block) (v : Value) : St B L w L' (w'.setCell a v) :=
  ⟨h.hp.agree (X := fun j => j = a.block) (Agree.setCell w' v rfl) fun g hg e => hn (e ▸ hg), h.agree.trans' (Agree.setCell w' v (X := fun j => j = a.block) rfl) fun j hj e => absurd hj (by omega), h.foot⟩
/-- What was looked at on the way is no more. -/
theorem St.drop {L' R : List Ob} (h : St B L w (R ++ L') w') : St B L w L' w' :=
  ⟨h.hp.sub (List.sublist_append_right _ _), h.agree, fun g ⟨o, ho, hg⟩ => h.foot g ⟨o, List.mem_append_right _ ho, hg⟩⟩
/-- One of them turns. -/
theorem Hp.st (h : Hp B L w) (i : Nat) (hi : L[i]? = some o) (ho : o'.is w') (hA : Agree (fun j => o.blk = some j) w w') (hs : o'.blk = o.blk ∨ ∀ g, o'.blk = some g → w.heap.size ≤ g) : St B L w (L.set i o') w' :=
  ⟨h.turn i hi ho hA hs, hA.mono fun j _ hj => foot_at hi hj, fun g ⟨x, hx, hg⟩ => by
    rcases List.mem_or_eq_of_mem_set hx with hx | rfl
    · exact Or.inl ⟨x, hx, hg⟩
    · rcases hs with hs | hs
      · exact Or.inl (foot_at hi (hs ▸ hg))
      · exact Or.inr (hs g hg)⟩
/-- A new one. -/
theorem Hp.st_add (h : Hp B L w) (hB : Below w.heap.size w w') (ho : o.is w') (hn : ∀ g, o.blk = some g → w.heap.size ≤ g) : St B L w (o :: L) w' :=
  ⟨h.add hB ho hn, Agree.of_below hB, fun g hg => (foot_cons.1 hg).elim (fun h => Or.inr (hn g h)) Or.inl⟩
/-- A field of a struct is set. -/
theorem Hp.setBox (h : Hp B L w) (i : Nat) {b : Nat} {cs : List Value} (hi : L[i]? = some (oBox b cs)) (j : Nat) (v : Value) : St B L w (L.set i (oBox b (cs.set j v))) (w.setCell ⟨b, j, none⟩ v) :=
  h.st i hi (o' := oBox b (cs.set j v)) ((h.get i hi : Box w b cs).set j v) (Agree.setCell w v rfl) (Or.inl rfl)
/-- A struct is stored whole. -/
theorem Hp.allBox (h : Hp B L w) (i : Nat) {b : Nat} {cs vs : List Value} (hi : L[i]? = some (oBox b cs)) (hl : vs.length = cs.length) (h1 : ∀ v ∈ vs, v.oneCell' = true) : stOK w ⟨b, 0, none⟩ 0 vs ∧ St B L w (L.set i (oBox b vs)) (stW w ⟨b, 0, none⟩ 0 vs) :=
  ⟨((h.get i hi : Box w b cs).stAll hl h1).1, h.st i hi (o' := oBox b vs) ((h.get i hi : Box w b cs).stAll hl h1).2 (stW_agree (X := fun j => (oBox b cs).blk = some j) (show (oBox b cs).blk = some b from rfl) vs w 0) (Or.inl rfl)⟩
/-- An element is set. -/
theorem Hp.setOwn (h : Hp B L w) (i : Nat) {e : TypeId} {size n g m c : Nat} {xs : List Value} (hi : L[i]? = some (oOwn e size n (.slice (some ⟨g, 0, none⟩) m c) xs)) (j : Nat) (u : Value) : St B L w (L.set i (oOwn e size n (.slice (some ⟨g, 0, none⟩) m c) (xs.set j u))) (w.setCell ⟨g, j, none⟩ u) :=
  h.st i hi (o' := oOwn e size n (.slice (some ⟨g, 0, none⟩) m c) (xs.set j u)) (OwnK.stored (h.get i hi) j u) (Agree.setCell w u rfl) (Or.inl rfl)
/-- One field of one record is set. -/
theorem Hp.setRec {α : Type} {en : α → List Value} {P : Nat → α} (h : Hp B L w) (i : Nat) {g n K : Nat} (hi : L[i]? = some (oRecs g n K fun a => en (P a))) {a j : Nat} (ha : a < n) (hj : j < K) (hl : (en (P a)).length = K) {v : Value} {p : α} (hp : en p = (en (P a)).set j v) :
    St B L w (L.set i (oRecs g n K fun x => en (upd P a p x))) (w.setCell ⟨g, a * K + j, none⟩ v) :=
  h.st i hi (o' := oRecs g n K fun x => en (upd P a p x)) ((h.get i hi : Recs w g n K _).upd ha hj hl hp) (Agree.setCell w v rfl) (Or.inl rfl)
/-- A slice has grown. -/
theorem Hp.grown (h : Hp B L w) (i : Nat) {e : TypeId} {size n : Nat} {v : Value} {xs : List Value} (hi : L[i]? = some (oOwn e size n v xs)) {n' : Nat} {v' : Value} {xs' : List Value} {B' : Nat} (ho : OwnK w' B' e size n' v' xs') (hg : w.grownBy w' v.ownBlock) (hs : Stays w v v') : St B L w (L.set i (oOwn e size n' v' xs')) w' :=
  h.st i hi (o' := oOwn e size n' v' xs') (ho.mono (Nat.zero_le _)) (Agree.grown hg fun k hk => hk) (hs.imp id fun ⟨g, h1, h2⟩ => fun g' h3 => by rw [show (oOwn e size n' v' xs').blk = v'.ownBlock from rfl, h1] at h3; cases h3; exact h2)
/-- 'x.f = append(x.f, ..)': the slice of a field has grown, the field is set. -/
theorem Hp.growField (h : Hp B L w) (i j : Nat) {b : Nat} {cs : List Value} {e : TypeId} {size n : Nat} {v : Value} {xs : List Value} (hi : L[i]? = some (oBox b cs)) (hj : L[j]? = some (oOwn e size n v xs)) (hij : i ≠ j)
    {n' : Nat} {v' : Value} {xs' : List Value} {B' : Nat} (ho : OwnK w' B' e size n' v' xs') (hg : w.grownBy w' v.ownBlock) (hs : Stays w v v') (k : Nat) (hk : k < cs.length) :
    ((w'.cell? ⟨b, k, none⟩).isSome = true ∧ w'.frozen? ⟨b, k, none⟩ = false) ∧ St B L w ((L.set j (oOwn e size n' v' xs')).set i (oBox b (cs.set k v'))) (w'.setCell ⟨b, k, none⟩ v') := by
  have h1 := h.grown j hj ho hg hs
  have hi' : (L.set j (oOwn e size n' v' xs'))[i]? = some (oBox b cs) := by rw [List.getElem?_set_ne (Ne.symm hij)]; exact hi
  have hb : Box w' b cs := h1.hp.get i hi'
  exact ⟨⟨by rw [(hb.2 k hk).1, List.getElem?_eq_getElem hk]; rfl, hb.soft hk⟩, h1.trans (h1.hp.setBox i hi' k v')⟩
/-- A map has turned. -/
theorem Hp.turned {P : Program} {k : TypeId} {α : Type} {E : KE P k α} (h : Hp B L w) (i : Nat) {b n : Nat} {m : α → Option Value} (hi : L[i]? = some (oMap E b n m)) {n' : Nat} {m' : α → Option Value} (ho : MapV P E w' b n' m') (ht : w.mapTurned w' b) : St B L w (L.set i (oMap E b n' m')) w' :=
  h.st i hi (o' := oMap E b n' m') ho (mapTurned_agree ht rfl) (Or.inl rfl)
/-- One is told in other words. -/
theorem Hp.reword (h : Hp B L w) (i : Nat) (hi : L[i]? = some o) (ho : o'.is w) (hb : o'.blk = o.blk) : Hp B (L.set i o') w := (h.st i hi ho (Agree.refl _ _) (Or.inl hb)).hp
end
end Go.VC
