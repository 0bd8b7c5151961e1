/- Several appends of one cell each, in any order. Over any program. -/
import Derived.Test.YtelfmhiaafkimaaHp2
namespace Go.VC
open Go Go.RowKit
set_option linter.unusedVariables false
set_option linter.unusedSimpArgs false

/-- One append: the places of its two operations, their slots, where the element and the slice lie in the frame, the types, the slice, and the element. -/
structure Ap where
  ib : Nat
  ia : Nat
  d : Nat
  e : Nat
  xt : Nat
  st : Nat
  ty : TypeId
  el : TypeId
  n : Nat
  v : Value
  u : Value
  xs : List Value
def apG (p : Nat → Ap) : Nat → List Nat
  | 0 => []
  | k + 1 => apG p k ++ [(p k).ib, (p k).ia]
def apD (p : Nat → Ap) : Nat → List Nat
  | 0 => []
  | k + 1 => apD p k ++ [(p k).d, (p k).e]
theorem mem_apG {p : Nat → Ap} {i : Nat} : ∀ {k : Nat}, i ∈ apG p k ↔ ∃ a, a < k ∧ (i = (p a).ib ∨ i = (p a).ia)
  | 0 => ⟨fun h => (by cases h), fun ⟨a, h, _⟩ => absurd h (Nat.not_lt_zero a)⟩
  | k + 1 => by
    unfold apG
    rw [List.mem_append, mem_apG]
    simp only [List.mem_cons, List.not_mem_nil, or_false]
    constructor
    · rintro (⟨a, h, h2⟩ | h)
      · exact ⟨a, by omega, h2⟩
      · exact ⟨k, by omega, h⟩
    · rintro ⟨a, h, h2⟩
      by_cases e : a = k
      · subst e; exact Or.inr h2
      · exact Or.inl ⟨a, by omega, h2⟩
theorem mem_apD {p : Nat → Ap} {i : Nat} : ∀ {k : Nat}, i ∈ apD p k ↔ ∃ a, a < k ∧ (i = (p a).d ∨ i = (p a).e)
  | 0 => ⟨fun h => (by cases h), fun ⟨a, h, _⟩ => absurd h (Nat.not_lt_zero a)⟩
  | k + 1 => by
    unfold apD
    rw [List.mem_append, mem_apD]
    simp only [List.mem_cons, List.not_mem_nil, or_false]
    constructor
    · rintro (⟨a, h, h2⟩ | h)
      · exact ⟨a, by omega, h2⟩
      · exact ⟨k, by omega, h⟩
    · rintro ⟨a, h, h2⟩
      by_cases e : a = k
      · subst e; exact Or.inr h2
      · exact Or.inl ⟨a, by omega, h2⟩
/-- The slices and what was built for them, while the operations of H are to come. -/
def apF (p : Nat → Ap) (k : Nat) (H : List Nat) (g : Nat → Value) (q : Nat) : Option FE :=
  if q / 2 < k then
    if q % 2 = 0 then some (if (p (q / 2)).ia ∈ H then ⟨(p (q / 2)).el, 1, (p (q / 2)).n, (p (q / 2)).v, (p (q / 2)).xs⟩ else ⟨(p (q / 2)).el, 1, (p (q / 2)).n + 1, g (p (q / 2)).e, (p (q / 2)).xs ++ [(p (q / 2)).u]⟩)
    else if (p (q / 2)).ib ∈ H then none else some ⟨(p (q / 2)).el, 1, 1, g (p (q / 2)).d, [(p (q / 2)).u]⟩
  else none
def apX (p : Nat → Ap) (k : Nat) (j : Nat) : Prop := ∃ a, a < k ∧ (p a).v.ownBlock = some j
structure ApJ (p : Nat → Ap) (k : Nat) (wA : World) (H : List Nat) (g : Nat → Value) (w : World) : Prop where
  fam : Fam w 0 (apF p k H g)
  ag : Agree (apX p k) wA w
  st : ∀ a, a < k → (p a).ia ∉ H → Stays wA (p a).v (g (p a).e)
/-- All places and slots are of their own. -/
structure ApSep (p : Nat → Ap) (k : Nat) : Prop where
  bb : ∀ a b, a < k → b < k → (p a).ib = (p b).ib → a = b
  aa : ∀ a b, a < k → b < k → (p a).ia = (p b).ia → a = b
  ba : ∀ a b, a < k → b < k → (p a).ib ≠ (p b).ia
  dd : ∀ a b, a < k → b < k → (p a).d = (p b).d → a = b
  ee : ∀ a b, a < k → b < k → (p a).e = (p b).e → a = b
  de : ∀ a b, a < k → b < k → (p a).d ≠ (p b).e
section
variable {p : Nat → Ap} {k a : Nat} {wA w w' : World} {H : List Nat} {g : Nat → Value}
theorem ApJ.build (hs : ApSep p k) (h : ApJ p k wA H g w) (ha : a < k) (hi : (p a).ib ∈ H) :
    ApJ p k wA (H.filter (· != (p a).ib)) (fun t => if (p a).d = t then .slice (some ⟨w.heap.size, 0, none⟩) 1 1 else g t) (w.alloc (.cells #[(p a).u] (p a).el)) := by
  have hp := h.fam.put (2 * a + 1) (below_box (Below.refl _ _) _) (OwnK.lit w (p a).el 1 1 [(p a).u] (Nat.zero_le _) (by decide) rfl) (fun g hg => by cases hg; exact Nat.le_refl _)
  have em : ∀ b, b < k → ((p b).ia ∈ H.filter (· != (p a).ib) ↔ (p b).ia ∈ H) := fun b hb => by
    rw [List.mem_filter]; exact ⟨fun h => h.1, fun h => ⟨h, by simpa using Ne.symm (hs.ba a b ha hb)⟩⟩
  refine ⟨?_, h.ag.trans (Agree.of_below (below_box (Below.refl _ _) _)), fun b hb hn => ?_⟩
  · have e : apF p k (H.filter (· != (p a).ib)) (fun t => if (p a).d = t then .slice (some ⟨w.heap.size, 0, none⟩) 1 1 else g t) = upd (apF p k H g) (2 * a + 1) (some ⟨(p a).el, 1, 1, .slice (some ⟨w.heap.size, 0, none⟩) 1 1, [(p a).u]⟩) := by
      funext q
      by_cases hq : q = 2 * a + 1
      · subst hq
        rw [upd_same]
        have h1 : (2 * a + 1) / 2 = a := by omega
        unfold apF
        rw [h1, if_pos ha, if_neg (by omega), if_neg (by simp)]
        simp
      · rw [upd_other hq]
        unfold apF
        by_cases hk : q / 2 < k
        · rw [if_pos hk, if_pos hk]
          by_cases h2 : q % 2 = 0
          · rw [if_pos h2, if_pos h2]
            simp only [em _ hk, if_neg (hs.de a _ ha hk)]
          · rw [if_neg h2, if_neg h2]
            have hne : q / 2 ≠ a := by omega
            have e1 : (p (q / 2)).ib ≠ (p a).ib := fun e => hne (hs.bb _ _ hk ha e)
            have e2 : (p a).d ≠ (p (q / 2)).d := fun e => hne (hs.dd _ _ ha hk e).symm
            have e3 : (p (q / 2)).ib ∈ H.filter (· != (p a).ib) ↔ (p (q / 2)).ib ∈ H := by rw [List.mem_filter]; exact ⟨fun h => h.1, fun h => ⟨h, by simpa using e1⟩⟩
            simp only [e3, if_neg e2]
        · rw [if_neg hk, if_neg hk]
    rw [e]; exact hp
  · show Stays wA (p b).v (if (p a).d = (p b).e then _ else g (p b).e)
    rw [if_neg (hs.de a b ha hb)]
    exact h.st b hb fun hh => hn ((em b hb).2 hh)
theorem ApJ.app (hs : ApSep p k) (h : ApJ p k wA H g w) (ha : a < k) (hi : (p a).ia ∈ H) {u : Value} (hg : w.grownBy w' (p a).v.ownBlock) (ho : OwnK w' 0 (p a).el 1 ((p a).n + 1) u ((p a).xs ++ [(p a).u])) (hst : Stays w (p a).v u) :
    ApJ p k wA (H.filter (· != (p a).ia)) (fun t => if (p a).e = t then u else g t) w' := by
  have h1 : (2 * a) / 2 = a := by omega
  have hk : apF p k H g (2 * a) = some ⟨(p a).el, 1, (p a).n, (p a).v, (p a).xs⟩ := by
    unfold apF; rw [h1, if_pos ha, if_pos (by omega), if_pos hi]
  have hp := h.fam.grow hk hg ho hst
  have em : ∀ b, b < k → ((p b).ib ∈ H.filter (· != (p a).ia) ↔ (p b).ib ∈ H) := fun b hb => by
    rw [List.mem_filter]; exact ⟨fun h => h.1, fun h => ⟨h, by simpa using hs.ba b a hb ha⟩⟩
  refine ⟨?_, h.ag.trans (Agree.grown hg fun j hj => ⟨a, ha, hj⟩), fun b hb hn => ?_⟩
  · have e : apF p k (H.filter (· != (p a).ia)) (fun t => if (p a).e = t then u else g t) = upd (apF p k H g) (2 * a) (some ⟨(p a).el, 1, (p a).n + 1, u, (p a).xs ++ [(p a).u]⟩) := by
      funext q
      by_cases hq : q = 2 * a
      · subst hq
        rw [upd_same]
        unfold apF
        rw [h1, if_pos ha, if_pos (by omega), if_neg (by simp)]
        simp
      · rw [upd_other hq]
        unfold apF
        by_cases hk : q / 2 < k
        · rw [if_pos hk, if_pos hk]
          by_cases h2 : q % 2 = 0
          · rw [if_pos h2, if_pos h2]
            have hne : q / 2 ≠ a := by omega
            have e1 : (p (q / 2)).ia ≠ (p a).ia := fun e => hne (hs.aa _ _ hk ha e)
            have e2 : (p a).e ≠ (p (q / 2)).e := fun e => hne (hs.ee _ _ ha hk e).symm
            have e3 : (p (q / 2)).ia ∈ H.filter (· != (p a).ia) ↔ (p (q / 2)).ia ∈ H := by rw [List.mem_filter]; exact ⟨fun h => h.1, fun h => ⟨h, by simpa using e1⟩⟩
            simp only [e3, if_neg e2]
          · rw [if_neg h2, if_neg h2]
            simp only [em _ hk, if_neg (Ne.symm (hs.de _ a hk ha))]
        · rw [if_neg hk, if_neg hk]
    rw [e]; exact hp
  · show Stays wA (p b).v (if (p a).e = (p b).e then u else g (p b).e)
    by_cases e : b = a
    · subst e
      rw [if_pos rfl]
      refine hst.imp id fun ⟨j, h2, h3⟩ => ⟨j, h2, Nat.le_trans h.ag.size h3⟩
    · rw [if_neg (fun hh => e (hs.ee a b ha hb hh).symm)]
      refine h.st b hb fun hh => hn ?_
      rw [List.mem_filter]
      exact ⟨hh, by simpa using fun hh2 => e (hs.aa b a hb ha hh2)⟩
end

theorem apSv {w : World} {B : Nat} {e : TypeId} {n : Nat} {v : Value} {xs : List Value} (h : OwnK w B e 1 n v xs) : ∃ A c, v = .slice A xs.length c ∧ Rd w A xs := by
  obtain ⟨A, c, rfl, ho⟩ := id h
  have := h.length
  exact ⟨A, c, by rw [this, Nat.mul_one], h.rd.2⟩
theorem apSl {w : World} {B : Nat} {e : TypeId} {size n : Nat} {v : Value} {xs : List Value} (h : OwnK w B e size n v xs) : ∃ A c, v = .slice A n c := by
  obtain ⟨A, c, rfl, _⟩ := h; exact ⟨A, c, rfl⟩
/-- An operation beside the appends: its place, its slot, its answer. -/
structure Ex where
  i : Nat
  d : Nat
  v : Value
/-- What lies in a slot when all of deps is done. -/
def SlotIs (f0 : Array Value) (D : List Nat) (ex : List Ex) (deps : List Nat) (s : Nat) (v : Value) : Prop := (f0.getD s undef = v ∧ s ∉ D) ∨ ∃ y ∈ ex, y.d = s ∧ y.v = v ∧ y.i ∈ deps
/-- What is known of one append. -/
structure ApOps (P : Program) (ops : Array Oper) (f0 : Array Value) (D : List Nat) (ex : List Ex) (q : Ap) : Prop where
  ob : ∃ deps, OpIs ops q.ib (.buildSlice q.ty 1 #[(0, .tmp q.xt)]) q.d deps ∧ SlotIs f0 D ex deps q.xt q.u
  oa : OpIs ops q.ia (.call { callee := .builtin .append, args := #[.tmp q.st, .tmp q.d], argTypes := #[q.ty, q.ty] }) q.e [q.ib]
  elo : elo P q.ty = some (1, q.el)
  zco : ∃ z, zco P q.el = some [z]
  kOf : kOf P q.ty = .s
  api : ∃ bytes zc, apI P q.ty = some (q.el, 1, bytes, zc) ∧ bytes ≤ 1024
  fs : f0.getD q.st undef = q.v
  uc : q.u.cells = #[q.u]
  u1 : q.u.oneCell' = true
  dl : q.d < f0.size
  el' : q.e < f0.size
  nl : q.n + 1 ≤ 100000
  sD : q.st ∉ D
def apOb (p : Nat → Ap) (a : Nat) : Ob := oOwn (p a).el 1 (p a).n (p a).v (p a).xs
def apOb' (p : Nat → Ap) (g : Nat → Value) (a : Nat) : Ob := oOwn (p a).el 1 ((p a).n + 1) (g (p a).e) ((p a).xs ++ [(p a).u])
section
variable {p : Nat → Ap} {k B : Nat} {w wA w' : World} {R : List Ob} {g : Nat → Value}
theorem ApJ.start (h : Hp B ((List.range k).map (apOb p) ++ R) w) (g : Nat → Value) : ApJ p k w (apG p k) g w := by
  have hat : ∀ a, a < k → ((List.range k).map (apOb p) ++ R)[a]? = some (apOb p a) := fun a ha => by
    rw [List.getElem?_append_left (by simpa using ha)]; simp [ha]
  have hin : ∀ a, a < k → (p a).ia ∈ apG p k ∧ (p a).ib ∈ apG p k := fun a ha => ⟨mem_apG.2 ⟨a, ha, Or.inr rfl⟩, mem_apG.2 ⟨a, ha, Or.inl rfl⟩⟩
  have hF : ∀ q x, apF p k (apG p k) g q = some x → ∃ a, a < k ∧ q = 2 * a ∧ x = ⟨(p a).el, 1, (p a).n, (p a).v, (p a).xs⟩ := fun q x hq => by
    unfold apF at hq
    by_cases hk : q / 2 < k
    · rw [if_pos hk] at hq
      by_cases h2 : q % 2 = 0
      · rw [if_pos h2, if_pos (hin _ hk).1] at hq
        exact ⟨q / 2, hk, by omega, by cases hq; rfl⟩
      · rw [if_neg h2, if_pos (hin _ hk).2] at hq; cases hq
    · rw [if_neg hk] at hq; cases hq
  refine ⟨⟨fun q x hq => ?_, fun q l x y hql hq hl => ?_⟩, Agree.refl _ _, fun a ha hn => absurd (hin a ha).1 hn⟩
  · obtain ⟨a, ha, _, rfl⟩ := hF q x hq
    exact h.get a (hat a ha)
  · obtain ⟨a, ha, e1, rfl⟩ := hF q x hq
    obtain ⟨b, hb, e2, rfl⟩ := hF l y hl
    exact h.ne a b (fun e => hql (by rw [e1, e2, e])) (hat a ha) (hat b hb)
theorem ApJ.stop (h : Hp B ((List.range k).map (apOb p) ++ R) w) (hJ : ApJ p k w [] g w') : Hp B ((List.range k).map (apOb' p g) ++ R) w' := by
  have hat : ∀ a, a < k → ((List.range k).map (apOb p) ++ R)[a]? = some (apOb p a) := fun a ha => by
    rw [List.getElem?_append_left (by simpa using ha)]; simp [ha]
  have hF : ∀ a, a < k → apF p k [] g (2 * a) = some ⟨(p a).el, 1, (p a).n + 1, g (p a).e, (p a).xs ++ [(p a).u]⟩ := fun a ha => by
    have h1 : (2 * a) / 2 = a := by omega
    unfold apF
    rw [h1, if_pos ha, if_pos (by omega), if_neg (by simp)]
  have hfoot : ∀ j, foot ((List.range k).map (apOb p)) j ↔ apX p k j := fun j => by
    unfold foot apX
    constructor
    · rintro ⟨o, ho, hj⟩
      obtain ⟨a, ha, rfl⟩ := List.mem_map.1 ho
      exact ⟨a, List.mem_range.1 ha, hj⟩
    · rintro ⟨a, ha, hj⟩
      exact ⟨_, List.mem_map.2 ⟨a, List.mem_range.2 ha, rfl⟩, hj⟩
  have hst : ∀ a, a < k → ∀ j, (apOb' p g a).blk = some j → (p a).v.ownBlock = some j ∨ w.heap.size ≤ j := fun a ha j hj => by
    rcases hJ.st a ha (by simp) with e | ⟨i, e, hi⟩
    · exact Or.inl (by rw [← e]; exact hj)
    · have e2 : (g (p a).e).ownBlock = some j := hj
      rw [e] at e2; cases e2; exact Or.inr hi
  refine h.part ⟨fun o ho => ?_, ?_, ?_⟩ (hJ.ag.mono fun j _ hj => (hfoot j).2 hj) fun j ⟨o, ho, hj⟩ => ?_
  · obtain ⟨a, ha, rfl⟩ := List.mem_map.1 ho
    have ha := List.mem_range.1 ha
    refine ⟨hJ.fam.1 _ _ (hF a ha), fun j hj => ?_⟩
    rcases hst a ha j hj with e | e
    · exact (h.lt a (hat a ha) e).1
    · exact Nat.le_trans h.base e
  · rw [List.pairwise_map]
    refine List.Pairwise.imp_of_mem ?_ List.pairwise_lt_range
    intro a b ha hb hab
    exact hJ.fam.2 (2 * a) (2 * b) _ _ (by omega) (hF a (List.mem_range.1 ha)) (hF b (List.mem_range.1 hb))
  · exact Nat.le_trans h.base hJ.ag.size
  · obtain ⟨a, ha, rfl⟩ := List.mem_map.1 ho
    have ha := List.mem_range.1 ha
    exact (hst a ha j hj).imp (fun e => (hfoot j).2 ⟨a, ha, e⟩) id
end
theorem ApSep.two {p : Nat → Ap} (h : [(p 0).ib, (p 0).ia, (p 1).ib, (p 1).ia].Nodup) (h' : [(p 0).d, (p 0).e, (p 1).d, (p 1).e].Nodup) : ApSep p 2 := by
  simp only [List.nodup_cons, List.mem_cons, List.not_mem_nil, or_false, not_or] at h h'
  have two : ∀ a, a < 2 → a = 0 ∨ a = 1 := fun a ha => by omega
  constructor <;> intro a b ha hb <;> rcases two a ha with rfl | rfl <;> rcases two b hb with rfl | rfl <;> first | (intro _; rfl) | (intro e; exact absurd e (by omega)) | omega
theorem all_two {R : Nat → Prop} (h0 : R 0) (h1 : R 1) : ∀ a, a < 2 → R a := fun a ha => by
  have : a = 0 ∨ a = 1 := by omega
  rcases this with rfl | rfl
  · exact h0
  · exact h1
theorem ApJ.other {p : Nat → Ap} {k : Nat} {wA w : World} {H : List Nat} {g : Nat → Value} (h : ApJ p k wA H g w) {i d : Nat} (hi : i ∉ apG p k) (hd : d ∉ apD p k) (v : Value) :
    ApJ p k wA (H.filter (· != i)) (fun t => if d = t then v else g t) w := by
  have gi : ∀ a, a < k → ((p a).ia ∈ H.filter (· != i) ↔ (p a).ia ∈ H) ∧ ((p a).ib ∈ H.filter (· != i) ↔ (p a).ib ∈ H) := fun a ha => by
    have h1 : (p a).ia ≠ i := fun e => hi (mem_apG.2 ⟨a, ha, Or.inr e.symm⟩)
    have h2 : (p a).ib ≠ i := fun e => hi (mem_apG.2 ⟨a, ha, Or.inl e.symm⟩)
    simp [List.mem_filter, h1, h2]
  have ge : ∀ a, a < k → d ≠ (p a).e ∧ d ≠ (p a).d := fun a ha => ⟨fun e => hd (mem_apD.2 ⟨a, ha, Or.inr e⟩), fun e => hd (mem_apD.2 ⟨a, ha, Or.inl e⟩)⟩
  refine ⟨?_, h.ag, fun a ha hn => ?_⟩
  · have e : apF p k (H.filter (· != i)) (fun t => if d = t then v else g t) = apF p k H g := by
      funext q
      unfold apF
      by_cases hk : q / 2 < k
      · rw [if_pos hk, if_pos hk]
        simp only [(gi _ hk).1, (gi _ hk).2, if_neg (ge _ hk).1, if_neg (ge _ hk).2]
      · rw [if_neg hk, if_neg hk]
    rw [e]; exact h.fam
  · show Stays wA (p a).v (if d = (p a).e then v else g (p a).e)
    rw [if_neg (ge a ha).1]
    exact h.st a ha fun hh => hn ((gi a ha).1.2 hh)
/-- A field's address, or what one reads. -/
inductive ExOp (P : Program) (ops : Array Oper) (f0 : Array Value) (D : List Nat) (ex : List Ex) (X : Nat → Prop) (w : World) (q : Ex) : Prop
  | field (t ft : TypeId) (s fl off z b j : Nat) (deps : List Nat) (op : OpIs ops q.i (.fieldAddr t (.tmp s) fl) q.d deps) (h1 : fldo P t fl = some (off, z, ft)) (h2 : z ≠ 0) (h3 : SlotIs f0 D ex deps s (.pointer (some ⟨b, j, none⟩))) (h4 : q.v = .pointer (some ⟨b, j + off, none⟩)) (h5 : q.d < f0.size) : ExOp P ops f0 D ex X w q
  | load (t : TypeId) (s b j : Nat) (deps : List Nat) (op : OpIs ops q.i (.load t (.tmp s)) q.d deps) (h1 : isAggB P t = false) (h2 : knownB P t = true) (h3 : SlotIs f0 D ex deps s (.pointer (some ⟨b, j, none⟩))) (h4 : w.cell? ⟨b, j, none⟩ = some q.v) (h6 : ∀ w1 : World, w1.cell? ⟨b, j, none⟩ = some q.v → rdK w1 ⟨b, j, none⟩ (kOf P t) = q.v) (h7 : ¬ X b) (h8 : b < w.heap.size) (h5 : q.d < f0.size) : ExOp P ops f0 D ex X w q
theorem ExOp.op {P : Program} {ops : Array Oper} {f0 : Array Value} {D : List Nat} {ex : List Ex} {X : Nat → Prop} {w : World} {q : Ex} : ExOp P ops f0 D ex X w q → (∃ op deps, OpIs ops q.i op q.d deps) ∧ q.d < f0.size
  | .field _ _ _ _ _ _ _ _ _ op _ _ _ _ h => ⟨⟨_, _, op⟩, h⟩
  | .load _ _ _ _ _ op _ _ _ _ _ _ _ h => ⟨⟨_, _, op⟩, h⟩
theorem apps_any {P : Program} {ops : Array Oper} {L : Nat} {S : World → Prop} {ok : Nat → Prop} {Q : Array Value → World → Prop} {r : HPlan} {f0 : Array Value} {w : World} (p : Nat → Ap) (k B : Nat) (ex : List Ex) {G D : List Nat} {L0 R : List Ob}
    (hG : G = apG p k ++ ex.map Ex.i) (hD : D = apD p k ++ ex.map Ex.d) (hL : L0 = (List.range k).map (apOb p)) (hs : ApSep p k) (ho : ∀ a, a < k → ApOps P ops f0 (apD p k ++ ex.map Ex.d) ex (p a))
    (hx : ∀ x ∈ ex, ExOp P ops f0 (apD p k ++ ex.map Ex.d) ex (apX p k) w x ∧ x.i ∉ apG p k ∧ x.d ∉ apD p k) (hxx : ∀ x ∈ ex, ∀ y ∈ ex, (x.i = y.i ∨ x.d = y.d) → x = y) (hS : ∀ w', Agree (apX p k) w w' → S w') (h : Hp B (L0 ++ R) w)
    (hend : ∀ g w', (∀ a, a < k → ∃ A c, g (p a).e = .slice A ((p a).n + 1) c) → (∀ x ∈ ex, g x.d = x.v) → Hp B ((List.range k).map (apOb' p g) ++ R) w' → Agree (apX p k) w w' → Now (heldF P ops L S ok Q r (setD g D f0) w')) : heldF P ops L S ok Q (.any G r) f0 w := by
  cases hG; cases hD; cases hL
  have hex : ∀ q, q ∈ ex → ∀ {i : Nat}, i = q.i → i ∈ ex.map Ex.i := fun q hq i e => List.mem_map.2 ⟨q, hq, e.symm⟩
  refine heldF_anyD (apD p k ++ ex.map Ex.d) (fun H g w1 => ApJ p k w H g w1 ∧ ∀ x ∈ ex, x.i ∉ H → g x.d = x.v) ?_ ⟨?_, fun x hx hn => absurd (List.mem_append_right _ (List.mem_map.2 ⟨x, hx, rfl⟩)) hn⟩ ?_ fun g w' hJ => hend g w' (fun a ha => ?_) (fun x hx => hJ.2 x hx (by simp)) (ApJ.stop h hJ.1) hJ.1.ag
  · rw [Bool.and_eq_true, List.all_eq_true, List.all_eq_true]
    have hd : ∀ d ∈ apD p k ++ ex.map Ex.d, d < f0.size := fun d hd => by
      rcases List.mem_append.1 hd with hd | hd
      · obtain ⟨a, ha, rfl | rfl⟩ := mem_apD.1 hd
        · exact (ho a ha).dl
        · exact (ho a ha).el'
      · obtain ⟨x, hm, rfl⟩ := List.mem_map.1 hd
        exact (hx x hm).1.op.2
    have e : ∀ i op d deps, OpIs ops i op d deps → d ∈ apD p k ++ ex.map Ex.d → dstB ops (apD p k ++ ex.map Ex.d) f0.size i = true := by
      rintro i op d deps ⟨o, h1, _, h2, _⟩ hm
      unfold dstB
      simp only [h1, h2, Bool.and_eq_true, decide_eq_true_eq]
      exact ⟨by simpa using hm, hd d hm⟩
    refine ⟨fun i hi => ?_, fun d hm => by simpa using hd d hm⟩
    rcases List.mem_append.1 hi with hi | hi
    · obtain ⟨a, ha, rfl | rfl⟩ := mem_apG.1 hi
      · obtain ⟨deps, hob, _⟩ := (ho a ha).ob
        exact e _ _ _ _ hob (List.mem_append_left _ (mem_apD.2 ⟨a, ha, Or.inl rfl⟩))
      · exact e _ _ _ _ (ho a ha).oa (List.mem_append_left _ (mem_apD.2 ⟨a, ha, Or.inr rfl⟩))
    · obtain ⟨x, hm, rfl⟩ := List.mem_map.1 hi
      obtain ⟨⟨_, _, hop⟩, _⟩ := (hx x hm).1.op
      exact e _ _ _ _ hop (List.mem_append_right _ (List.mem_map.2 ⟨x, hm, rfl⟩))
  · have hJ0 := ApJ.start h (fun t => f0.getD t undef)
    have em : ∀ a, a < k → (p a).ia ∈ apG p k ∧ (p a).ib ∈ apG p k := fun a ha => ⟨mem_apG.2 ⟨a, ha, Or.inr rfl⟩, mem_apG.2 ⟨a, ha, Or.inl rfl⟩⟩
    have eF : apF p k (apG p k ++ ex.map Ex.i) (fun t => f0.getD t undef) = apF p k (apG p k) (fun t => f0.getD t undef) := by
      funext q
      unfold apF
      by_cases hk : q / 2 < k
      · rw [if_pos hk, if_pos hk, if_pos (em _ hk).1, if_pos (em _ hk).2, if_pos (List.mem_append_left _ (em _ hk).1), if_pos (List.mem_append_left _ (em _ hk).2)]
      · rw [if_neg hk, if_neg hk]
    exact ⟨by rw [eF]; exact hJ0.fam, hJ0.ag, fun a ha hn => absurd (List.mem_append_left _ (em a ha).1) hn⟩
  · rintro H i o f w1 hH hf ⟨hJ, hE⟩ hi hoi hdep
    have keep : ∀ (i' d' : Nat) (v' : Value), i' ∈ apG p k → d' ∈ apD p k → ∀ x ∈ ex, x.i ∉ H.filter (· != i') → (if d' = x.d then v' else f.getD x.d undef) = x.v := fun i' d' v' hi' hd' x hm hn => by
      have h1 := (hx x hm).2
      rw [if_neg (fun e : d' = x.d => h1.2 (e ▸ hd'))]
      exact hE x hm fun hh => hn (List.mem_filter.2 ⟨hh, by simpa using fun e : x.i = i' => h1.1 (e ▸ hi')⟩)
    have slot : ∀ deps s v, SlotIs f0 (apD p k ++ ex.map Ex.d) ex deps s v → (∀ j ∈ deps, j ∉ H) → f.getD s undef = v := fun deps s v hs hd => by
      rcases hs with ⟨h1, h2⟩ | ⟨y, hy, rfl, rfl, hdy⟩
      · exact (hf _ h2).trans h1
      · exact hE y hy (hd _ hdy)
    rcases List.mem_append.1 (hH i hi) with hm | hm
    · obtain ⟨a, ha, rfl | rfl⟩ := mem_apG.1 hm
      · have q := ho a ha
        obtain ⟨z, hz⟩ := q.zco
        obtain ⟨deps, hob, hslot⟩ := q.ob
        obtain ⟨ho', hd, hx⟩ := hob.use hoi hdep
        have hn := hJ.build hs ha hi
        exact eff_build1 ho' q.elo hz q.kOf (slot _ _ _ hslot hx) q.uc ⟨hS _ hn.ag, by simpa only [hd, Option.some.injEq] using hn, by simpa only [hd, Option.some.injEq] using keep _ _ _ hm (mem_apD.2 ⟨a, ha, Or.inl rfl⟩)⟩
      · have q := ho a ha
        obtain ⟨bytes, zc, hapi, hby⟩ := q.api
        obtain ⟨ho', hd, hx⟩ := q.oa.use hoi hdep
        have h4 := hx _ (List.mem_singleton.2 rfl)
        have h1 : (2 * a) / 2 = a := by omega
        have h2 : (2 * a + 1) / 2 = a := by omega
        have hb : OwnK w1 0 (p a).el 1 1 ((fun t => f.getD t undef) (p a).d) [(p a).u] := hJ.fam.1 (2 * a + 1) ⟨(p a).el, 1, 1, (fun t => f.getD t undef) (p a).d, [(p a).u]⟩ (by unfold apF; rw [h2, if_pos ha, if_neg (by omega), if_neg h4])
        have hv : OwnK w1 0 (p a).el 1 (p a).n (p a).v (p a).xs := hJ.fam.1 (2 * a) ⟨(p a).el, 1, (p a).n, _, _⟩ (by unfold apF; rw [h1, if_pos ha, if_pos (by omega), if_pos hi])
        obtain ⟨A, c, hu, hr⟩ := apSv hb
        refine eff_app ho' rfl (OPW_appKS (K' := fun v' w' => S w' ∧ (ApJ _ _ _ _ _ w' ∧ ∀ x ∈ ex, _ → _)) (s := .tmp (p a).st) (x := .tmp (p a).d) ho' hapi ((hf _ q.sD).trans q.fs) hu hr (by simp) (by simp [q.u1]) hv (Nat.zero_le _) (by simpa using q.nl) hby fun v' w' ho2 hg2 hst2 => ?_)
        have hn := hJ.app hs ha hi hg2 ho2 hst2
        exact ⟨hS _ hn.ag, by simpa only [hd, Option.some.injEq] using hn, by simpa only [hd, Option.some.injEq] using keep _ _ _ hm (mem_apD.2 ⟨a, ha, Or.inr rfl⟩)⟩
    · obtain ⟨x, hxm, rfl⟩ := List.mem_map.1 hm
      obtain ⟨hop, hxi, hxd⟩ := hx x hxm
      have hn := hJ.other hxi hxd x.v
      have hE2 : ∀ y ∈ ex, y.i ∉ H.filter (· != x.i) → (if x.d = y.d then x.v else f.getD y.d undef) = y.v := fun y hy hn => by
        by_cases e : x.d = y.d
        · rw [if_pos e, hxx x hxm y hy (Or.inr e)]
        · rw [if_neg e]
          refine hE y hy fun hh => hn (List.mem_filter.2 ⟨hh, ?_⟩)
          have : y.i ≠ x.i := fun e2 => e (by rw [hxx x hxm y hy (Or.inl e2.symm)])
          simpa using this
      cases hop with
      | field t ft s fl off z b j deps op h1 h2 h3 h4 h5 =>
        obtain ⟨ho', hd, hx⟩ := op.use hoi hdep
        refine eff_fieldAddr ho' h1 h2 (slot _ _ _ h3 hx) ?_
        rw [← h4]
        exact ⟨hS _ hn.ag, by simpa only [hd, Option.some.injEq] using hn, by simpa only [hd, Option.some.injEq] using hE2⟩
      | load t s b j deps op h1 h2 h3 h4 h6 h7 h8 h5 =>
        obtain ⟨ho', hd, hx⟩ := op.use hoi hdep
        have hc : w1.cell? ⟨b, j, none⟩ = some x.v := (hJ.ag.cell h8 h7).trans h4
        exact eff_load ho' h1 h2 (slot _ _ _ h3 hx) hc (h6 _ hc) ⟨hS _ hn.ag, by simpa only [hd, Option.some.injEq] using hn, by simpa only [hd, Option.some.injEq] using hE2⟩
  · have h1 : (2 * a) / 2 = a := by omega
    exact apSl (hJ.1.fam.1 (2 * a) ⟨(p a).el, 1, (p a).n + 1, g (p a).e, (p a).xs ++ [(p a).u]⟩ (by unfold apF; rw [h1, if_pos ha, if_pos (by omega), if_neg (by simp)]))
theorem apps_two {P : Program} {ops : Array Oper} {L : Nat} {S : World → Prop} {ok : Nat → Prop} {Q : Array Value → World → Prop} {r : HPlan} {f0 : Array Value} {w : World} (p : Nat → Ap) (B : Nat) (ex : List Ex) {G D : List Nat} {L0 R : List Ob}
    (hG : G = apG p 2 ++ ex.map Ex.i) (hD : D = apD p 2 ++ ex.map Ex.d) (hL : L0 = (List.range 2).map (apOb p)) (hs : ApSep p 2) (ho : ∀ a, a < 2 → ApOps P ops f0 (apD p 2 ++ ex.map Ex.d) ex (p a))
    (hx : ∀ x ∈ ex, ExOp P ops f0 (apD p 2 ++ ex.map Ex.d) ex (apX p 2) w x ∧ x.i ∉ apG p 2 ∧ x.d ∉ apD p 2) (hxx : ∀ x ∈ ex, ∀ y ∈ ex, (x.i = y.i ∨ x.d = y.d) → x = y) (hS : ∀ w', Agree (apX p 2) w w' → S w') (h : Hp B (L0 ++ R) w)
    (hend : ∀ g w' A0 c0 A1 c1, g (p 0).e = .slice A0 ((p 0).n + 1) c0 → g (p 1).e = .slice A1 ((p 1).n + 1) c1 → (∀ x ∈ ex, g x.d = x.v) → Hp B ((List.range 2).map (apOb' p g) ++ R) w' → Agree (apX p 2) w w' → Now (heldF P ops L S ok Q r (setD g D f0) w')) : heldF P ops L S ok Q (.any G r) f0 w := by
  refine apps_any p 2 B ex hG hD hL hs ho hx hxx hS h fun g w' h1 h2 h3 h4 => ?_
  obtain ⟨A0, c0, e0⟩ := h1 0 (by omega)
  obtain ⟨A1, c1, e1⟩ := h1 1 (by omega)
  exact hend g w' A0 c0 A1 c1 e0 e1 h2 h3 h4
end Go.VC
