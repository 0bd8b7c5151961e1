/- Maps of any keys and one-cell elements that a call makes for itself: make, look up, store, delete, len, count up, range. Over any program. -/
import Derived.Test.YtelfmhiaafkimaaMapI
import Derived.Test.YtelfmhiaafkimaaRange
import Derived.Maps.RangeWalk
namespace Go.VC
open Go Go.RowKit Go.WideShapes Go.ChangeMaps Go.MapKept Go.Maps
open Go.WideElems (Fit rd rg pl rd_key rd_val rg_of other_key)
set_option linter.unusedVariables false
set_option linter.unusedSimpArgs false

/-- How the keys of type k are written. -/
structure KE (P : Program) (k : TypeId) (α : Type) where
  K : α → Value
  ok : α → Prop
  keyed : Keyed P k
  has : ∀ x, ok x → ∃ l, keyOf P k (K x) = some l
  inv : ∀ v l, keyOf P k v = some l → ∃ x, ok x ∧ v = K x
  inj : ∀ x y, K x = K y → x = y
section
variable {P : Program} {k : TypeId} {α : Type}
def KE.L (E : KE P k α) (x : α) : Lit := (keyOf P k (E.K x)).getD .nil
theorem KE.L_of (E : KE P k α) {x : α} (h : E.ok x) : keyOf P k (E.K x) = some (E.L x) := by
  obtain ⟨l, hl⟩ := E.has x h
  unfold KE.L; rw [hl]; rfl
theorem KE.L_inj (E : KE P k α) {x y : α} (hx : E.ok x) (hy : E.ok y) (h : E.L x = E.L y) : x = y :=
  E.inj x y (E.keyed.inj (E.L_of hx) (by rw [h]; exact E.L_of hy))
theorem KE.isKey (E : KE P k α) {x : α} (h : E.ok x) : WideAt.IsKeyLit (E.L x) := E.keyed.key (E.L_of h)
/-- Keys that are ints. -/
def KE.int (hk : kOf P k = .i .i64) : KE P k Int where
  K := Value.int .i64
  ok := fits .i64
  keyed := Maps.int_keyed (kOf_i hk)
  has x hx := ⟨_, Maps.keyOf_int_mk (kOf_i hk) (wf_of hx)⟩
  inv v l h := by
    obtain ⟨x, rfl, rfl, hw⟩ := Maps.keyOf_int_inv (kOf_i hk) h
    exact ⟨x, by simpa [Lit.wf, fits] using hw, rfl⟩
  inj x y h := by cases h; rfl
end

/-- An element as it stands. -/
def RV (v : Value) : Option (DataW Value × List MemPlace) := some (.held v, [])
/-- The element's value where there is none. -/
def zvo (P : Program) (e : TypeId) : Option Value := (P.info? e).bind (·.zero)
theorem zvo_run {P : Program} {e : TypeId} {z : Value} (h : zvo P e = some z) (w : World) : (zeroValue e).run P w = .ok z w := by
  obtain ⟨i, hi, hz⟩ := Option.bind_eq_some_iff.1 h
  simp [zeroValue, typeInfo, hi, hz]

/-- t is a map with keys of type k; its element's value where there is none. -/
def mapKB (P : Program) (t k : TypeId) : Bool := match mapO P t with | some (k', _) => k' == k | none => false
theorem mapKB_of {P : Program} {t k : TypeId} (h : mapKB P t k = true) : ∃ e, mapO P t = some (k, e) := by
  unfold mapKB at h
  split at h
  · rename_i k' e he
    have : k' = k := by simpa using h
    subst this; exact ⟨e, he⟩
  · cases h
def mapZ (P : Program) (t k : TypeId) : Option Value := match mapO P t with | some (k', e) => if k' == k then zvo P e else none | none => none
theorem mapZ_of {P : Program} {t k : TypeId} {z : Value} (h : mapZ P t k = some z) : ∃ e, mapO P t = some (k, e) ∧ zvo P e = some z := by
  unfold mapZ at h
  split at h
  · rename_i k' e he
    split at h
    · rename_i hk
      have : k' = k := by simpa using hk
      subst this; exact ⟨e, he, h⟩
    · cases h
  · cases h
/-- Block b is a map of n entries: x ↦ m x. -/
def MapV (P : Program) {k : TypeId} {α : Type} (E : KE P k α) (w : World) (b n : Nat) (m : α → Option Value) : Prop :=
  ∃ D : DataW Value, w.ownsMap P k RV b n D ∧ Maps.size D = n ∧ ∀ x, E.ok x → Maps.has D (E.L x) = (m x).isSome ∧ ∀ v, m x = some v → ∀ zd, D.atKey (E.L x) zd = .held v

open Classical in
noncomputable def updV {α : Type} (m : α → Option Value) (x : α) (c : Value) : α → Option Value := fun y => if y = x then some c else m y
open Classical in
noncomputable def delV {α : Type} (m : α → Option Value) (x : α) : α → Option Value := fun y => if y = x then none else m y
section
variable {α : Type} {m : α → Option Value} {x y : α} {c : Value}
theorem updV_same : updV m x c x = some c := if_pos rfl
theorem updV_other (h : y ≠ x) : updV m x c y = m y := if_neg h
theorem updV_updV {u v : Value} : updV (updV m x u) x v = updV m x v := by
  funext y; unfold updV; split <;> rfl
theorem delV_same : delV m x x = none := if_pos rfl
theorem delV_other (h : y ≠ x) : delV m x y = m y := if_neg h
end

section
variable {P : Program} {k e t : TypeId} {α : Type} {E : KE P k α} {w w' : World} {b n : Nat} {m : α → Option Value}
theorem MapV.congr {m' : α → Option Value} (h : MapV P E w b n m) (hm : ∀ x, E.ok x → m' x = m x) : MapV P E w b n m' := by
  obtain ⟨D, h1, h2, h3⟩ := h
  exact ⟨D, h1, h2, fun x hx => by rw [hm x hx]; exact h3 x hx⟩
theorem MapV.made (E : KE P k α) (w : World) : MapV P E (w.alloc (.map #[] 0)) w.heap.size 0 (fun _ => none) :=
  ⟨.map [], World.ownsMap_made w P k RV, rfl, fun x hx => ⟨rfl, fun v h => by cases h⟩⟩
theorem MapV.lt (h : MapV P E w b n m) : b < w.heap.size := by obtain ⟨D, h, _⟩ := h; exact h.lt
theorem MapV.grown {row : Option Nat} (h : MapV P E w b n m) (hg : w.grownBy w' row) (hne : some b ≠ row) : MapV P E w' b n m := by
  obtain ⟨D, ho, hm⟩ := h
  exact ⟨D, ho.kept hg hne, hm⟩
theorem MapV.agree {X : Nat → Prop} (h : MapV P E w b n m) (hA : Agree X w w') (hb : ¬ X b) : MapV P E w' b n m := by
  have hlt := h.lt
  obtain ⟨D, ⟨es, clock, hc, r⟩, hm⟩ := h
  exact ⟨D, ⟨es, clock, by rw [hA.block b hlt hb]; exact hc, r⟩, hm⟩
theorem MapV.below (h : MapV P E w b n m) (hB : Below w.heap.size w w') : MapV P E w' b n m := h.agree (X := fun _ => False) (Agree.of_below hB) id
theorem MapV.setCell {a : Addr} (h : MapV P E w b n m) (ha : b ≠ a.block) (u : Value) : MapV P E (w.setCell a u) b n m := by
  obtain ⟨D, ho, hm⟩ := h
  exact ⟨D, ho.setCell ha u, hm⟩
theorem MapV.alloc (h : MapV P E w b n m) (o : Obj) : MapV P E (w.alloc o) b n m := h.below ((Below.refl _ _).alloc (Nat.le_refl _) o)
theorem MapV.drewN (h : MapV P E w b n m) (u : Nat) : MapV P E (w.drewN u) b n m := h
/-- No entry: nothing is in. -/
theorem MapV.zero (h : MapV P E w b 0 m) {x : α} (hx : E.ok x) : m x = none := by
  obtain ⟨D, ho, hs, hm⟩ := h
  obtain ⟨es, rfl⟩ := ho.isMap
  have : es = [] := by simpa [Maps.size] using hs
  subst this
  have h1 := (hm x hx).1
  cases hv : m x with
  | none => rfl
  | some v => rw [hv] at h1; simp [Maps.has] at h1
/-- Something is in: some key is. -/
theorem MapV.some_key (h : MapV P E w b n m) (hn : 0 < n) : ∃ x, E.ok x ∧ (m x).isSome = true := by
  obtain ⟨D, ho, hs, hm⟩ := h
  obtain ⟨es, clock, hb, F, hle, rfl⟩ := ho
  have hpos : 0 < es.toList.length := by
    rw [← hs] at hn
    simpa [Maps.size, length_sorted] using hn
  obtain ⟨x, hx⟩ : ∃ x, x ∈ es.toList := by
    cases hl : es.toList with
    | nil => rw [hl] at hpos; cases hpos
    | cons a r => exact ⟨a, by simp⟩
  obtain ⟨y, hy⟩ := F.reads x hx
  obtain ⟨z, hz, hzk⟩ := E.inv _ _ (rd_key hy)
  refine ⟨z, hz, ?_⟩
  rw [← (hm z hz).1]
  have hL : E.L z = (rg P k RV x).1 := by
    have := E.L_of hz
    rw [← hzk, rd_key hy] at this
    rw [rg_of hy]
    exact (Option.some.inj this).symm
  rw [hL]
  exact List.any_eq_true.2 ⟨rg P k RV x, mem_sorted.2 (List.mem_map.2 ⟨x, hx, rfl⟩), WideAt.sameKey_self (by rw [rg_of hy]; exact E.keyed.key (rd_key hy))⟩

/-- 'map[K]V{}', 'make(map[K]V)'. -/
theorem OPW_makeMapV {o : Oper} {f : Array Value} {K' : Value → World → Prop} (E : KE P k α) (ho : o.op = .makeMap t none)
    (hk : ∀ w', w' = w.alloc (.map #[] 0) → MapV P E w' w.heap.size 0 (fun _ => none) → Now (K' (.map (some w.heap.size)) w')) : OPW P o f w K' :=
  OPW_makeMap ho (hk _ rfl (MapV.made E w))

theorem MapV.look (hM : MapV P E w b n m) (ht : mapO P t = some (k, e)) {z : Value} (hz : zvo P e = some z) {x : α} (fx : E.ok x) (c : Bool) :
    (Instr.lookup t (.map (some b)) (E.K x) c).run P w = .ok (if c then .tuple #[(m x).getD z, .bool (m x).isSome] else (m x).getD z) w := by
  obtain ⟨D, hown, _, hD⟩ := hM
  obtain ⟨h1, h2⟩ := hD x fx
  cases c
  · obtain ⟨v, ps, hrun, hv⟩ := hown.lookup E.keyed (mapO_of ht) (zvo_run hz w) (zd := .held z) (zp := []) rfl (E.L_of fx)
    have e : v = (m x).getD z := by
      have hv := congrArg Prod.fst (Option.some.inj hv)
      have hv : DataW.held v = D.atKey (E.L x) (.held z) := hv
      cases hm : m x with
      | none =>
        rw [hm] at h1
        rw [Maps.atKey_of_not_has h1] at hv
        cases hv; rfl
      | some u => rw [h2 u hm] at hv; cases hv; rfl
    rw [hrun, e]; rfl
  · obtain ⟨v, ps, hrun, hv⟩ := hown.look_ok E.keyed (mapO_of ht) (zvo_run hz w) (zd := .held z) (zp := []) rfl (E.L_of fx)
    have e : v = (m x).getD z := by
      have hv := congrArg Prod.fst (Option.some.inj hv)
      have hv : DataW.held v = D.atKey (E.L x) (.held z) := hv
      cases hm : m x with
      | none =>
        rw [hm] at h1
        rw [Maps.atKey_of_not_has h1] at hv
        cases hv; rfl
      | some u => rw [h2 u hm] at hv; cases hv; rfl
    rw [hrun, e, h1]; rfl

/-- 'm[x]'. -/
theorem OPW_lookV {o : Oper} {f : Array Value} {K' : Value → World → Prop} {mo xo : Operand} {x : α} {z v : Value} (hM : MapV P E w b n m) (ho : o.op = .lookup t mo xo false) (hz : mapZ P t k = some z)
    (hm : evo f mo = .map (some b)) (hx : evo f xo = E.K x) (fx : E.ok x) (hv : (m x).getD z = v) (hk : Now (K' v w)) : OPW P o f w K' := by
  obtain ⟨e, ht, hz⟩ := mapZ_of hz
  intro X K Q hK
  refine op_lift X (by rw [ho]; intro c h; cases h) ?_
  have hrun := hM.look ht hz fx false
  rw [if_neg (by simp), hv] at hrun
  have := hK _ _ hk
  rw [evo_eq f X.ds] at hm hx
  unfold Oper.wp execOp
  simp only [ho, hm, hx, hrun, Sem.run_bind, Sem.run_pure, Result.andThen_ok]
  exact this
/-- 'v, ok := m[x]'. -/
theorem OPW_lookV2 {o : Oper} {f : Array Value} {K' : Value → World → Prop} {mo xo : Operand} {x : α} {z v : Value} {is : Bool} (hM : MapV P E w b n m) (ho : o.op = .lookup t mo xo true) (hz : mapZ P t k = some z)
    (hm : evo f mo = .map (some b)) (hx : evo f xo = E.K x) (fx : E.ok x) (hv : (m x).getD z = v) (his : (m x).isSome = is) (hk : Now (K' (.tuple #[v, .bool is]) w)) : OPW P o f w K' := by
  obtain ⟨e, ht, hz⟩ := mapZ_of hz
  intro X K Q hK
  refine op_lift X (by rw [ho]; intro c h; cases h) ?_
  have hrun := hM.look ht hz fx true
  rw [if_pos rfl, hv, his] at hrun
  have := hK _ _ hk
  rw [evo_eq f X.ds] at hm hx
  unfold Oper.wp execOp
  simp only [ho, hm, hx, hrun, Sem.run_bind, Sem.run_pure, Result.andThen_ok]
  exact this

theorem MapV.store (hM : MapV P E w b n m) (ht : mapO P t = some (k, e)) (hn : n < maxLen) {x : α} (fx : E.ok x) (c : Value) :
    ∃ w', (Instr.mapUpdate t (.map (some b)) (E.K x) c).run P w = .ok () w' ∧ MapV P E w' b (if (m x).isSome = true then n else n + 1) (updV m x c) ∧ w.mapTurned w' b := by
  obtain ⟨D, hown, hsz, hD⟩ := hM
  have htidy := hown.tidy E.keyed
  obtain ⟨w', hrun, r1, r2⟩ := hown.store E.keyed (mapO_of ht) hn (E.L_of fx) (val := c) (d := .held c) (ps := []) rfl
  have hs2 := Maps.size_put (k := E.L x) htidy (.held c)
  rw [(hD x fx).1, hsz] at hs2
  refine ⟨w', hrun, ⟨_, ?_, hs2, fun y fy => ?_⟩, r2⟩
  · obtain ⟨es, clock, hb, F, hle, he⟩ := r1
    refine ⟨es, clock, hb, F, ?_, he⟩
    have : Maps.size (D.put (E.L x) (.held c)) = es.size := by rw [he]; simp [Maps.size, length_sorted]
    rw [← this, hs2]; exact Nat.le_refl _
  · by_cases hy : y = x
    · subst hy
      rw [updV_same, Maps.has_put_same hown.isMap (E.isKey fy)]
      exact ⟨rfl, fun v hv zd => by cases hv; exact Maps.atKey_put_same hown.isMap (E.isKey fy) _ _⟩
    · have hne : E.L y ≠ E.L x := fun h => hy (E.L_inj fy fx h)
      rw [updV_other hy, Maps.has_put_other hne]
      exact ⟨(hD y fy).1, fun v hv zd => by rw [Maps.atKey_put_other hne]; exact (hD y fy).2 v hv zd⟩
theorem mapTurned_size (h : w.mapTurned w' b) : w'.heap.size = w.heap.size := by obtain ⟨_, _, _, _, _, rfl⟩ := h; simp [setBlock]
theorem mapTurned_agree {X : Nat → Prop} (h : w.mapTurned w' b) (hX : X b) : Agree X w w' := Agree.grown h.grown fun k hk => by cases hk; exact hX

/-- 'm[x] = c'. -/
theorem OPW_updV {o : Oper} {f : Array Value} {K' : Value → World → Prop} {mo xo co : Operand} {x : α} {c : Value} (hM : MapV P E w b n m) (ho : o.op = .mapUpdate t mo xo co) (ht : mapKB P t k = true)
    (hm : evo f mo = .map (some b)) (hx : evo f xo = E.K x) (hc : evo f co = c) (fx : E.ok x) (hn : n < maxLen)
    (hk : ∀ w', MapV P E w' b (if (m x).isSome = true then n else n + 1) (updV m x c) → w.mapTurned w' b → Now (K' undef w')) : OPW P o f w K' := by
  obtain ⟨e, ht⟩ := mapKB_of ht
  intro X K Q hK
  refine op_lift X (by rw [ho]; intro c h; cases h) ?_
  obtain ⟨w', hrun, r1, r2⟩ := hM.store ht hn fx c
  have := hK _ _ (hk w' r1 r2)
  rw [evo_eq f X.ds] at hm hx hc
  unfold Oper.wp execOp
  simp only [ho, hm, hx, hc, hrun, Sem.run_bind, Sem.run_pure, Result.andThen_ok]
  exact this

/-- 'delete(m, x)'. -/
theorem OPW_delV {o : Oper} {f : Array Value} {K' : Value → World → Prop} {mo xo : Operand} {x : α} (hM : MapV P E w b n m) (ho : o.op = .call { callee := .builtin .delete, args := #[mo, xo], argTypes := #[t, k] }) (ht : mapKB P t k = true)
    (hm : evo f mo = .map (some b)) (hx : evo f xo = E.K x) (fx : E.ok x)
    (hk : ∀ w', MapV P E w' b (if (m x).isSome = true then n - 1 else n) (delV m x) → w.mapTurned w' b → Now (K' (.tuple #[]) w')) : OPW P o f w K' := by
  obtain ⟨e, ht⟩ := mapKB_of ht
  intro X K Q hK
  refine op_lift X (by rw [ho]; intro c h; cases h) ?_
  obtain ⟨D, hown, hsz, hD⟩ := hM
  have htidy := hown.tidy E.keyed
  obtain ⟨w', hrun, r1, r2⟩ := hown.drop E.keyed (mapO_of ht) (E.L_of fx) o.type
  have hs2 : Maps.size (D.del (E.L x)) = if (m x).isSome = true then n - 1 else n := by
    have := Maps.size_del (k := E.L x) htidy
    rw [(hD x fx).1, hsz] at this
    cases hv : (m x).isSome <;> simp [hv] at this ⊢ <;> omega
  have := hK _ _ (hk w' ⟨_, ?_, hs2, fun y fy => ?_⟩ r2)
  · rw [evo_eq f X.ds] at hm hx
    unfold Oper.wp execOp
    simp only [ho, resolve, invoke, builtin, Sem.run_bind, Sem.run_pure, Result.andThen_ok, List.map_toArray, List.map_cons, List.map_nil, hm, hx, hrun]
    exact this
  · obtain ⟨es, clock, hb, F, hle, he⟩ := r1
    refine ⟨es, clock, hb, F, ?_, he⟩
    have : Maps.size (D.del (E.L x)) = es.size := by rw [he]; simp [Maps.size, length_sorted]
    rw [← this, hs2]; exact Nat.le_refl _
  · by_cases hy : y = x
    · subst hy
      rw [delV_same, Maps.has_del_same]
      exact ⟨rfl, fun v hv => by cases hv⟩
    · have hne : E.L y ≠ E.L x := fun h => hy (E.L_inj fy fx h)
      rw [delV_other hy, Maps.has_del_other hne]
      exact ⟨(hD y fy).1, fun v hv zd => by rw [Maps.atKey_del_other hne]; exact (hD y fy).2 v hv zd⟩

/-- 'len(m)' where it is reckoned by the formula: a call of the builtin. -/
theorem MapV.len (hM : MapV P E w b n m) (ht : mapO P t = some (k, e)) (ty : TypeId) : (Builtin.len_ #[t] ty #[.map (some b)]).run P w = .ok (.int .i64 n) w := by
  obtain ⟨D, hown, hsz, _⟩ := hM
  have := hown.len (mapO_of ht) ty
  rw [hsz] at this
  exact this
/-- 'len(m)' by the formula. -/
theorem MapV.lenB (hM : MapV P E w b n m) : mapB w b = true ∧ mapN w b = n := by
  obtain ⟨D, ⟨es, clock, hb, F, _, rfl⟩, hsz, _⟩ := hM
  have e1 : Maps.size (DataW.map ((es.toList.map (rg P k RV)).foldr DataW.insert [])) = es.size := by simp [Maps.size, length_sorted]
  unfold mapB mapN
  rw [hb]
  exact ⟨rfl, by rw [← hsz, e1]⟩
end
end Go.VC
