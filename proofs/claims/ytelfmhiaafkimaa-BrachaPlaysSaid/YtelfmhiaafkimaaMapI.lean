/- Maps from numbers to numbers that a call makes for itself. Over any program. -/
import Derived.Test.YtelfmhiaafkimaaOwn
import Derived.Maps.OwnSet
namespace Go.VC
open Go Go.RowKit Go.WideShapes Go.ChangeMaps Go.MapKept
set_option linter.unusedVariables false
set_option linter.unusedSimpArgs false

def mapO (P : Program) (t : TypeId) : Option (TypeId × TypeId) := match P.underlying t with | some (.map k e) => some (k, e) | _ => none
theorem mapO_of {P : Program} {t k e : TypeId} (h : mapO P t = some (k, e)) : P.underlying t = some (.map k e) := by
  unfold mapO at h
  split at h
  · simp only [Option.some.injEq, Prod.mk.injEq] at h; obtain ⟨rfl, rfl⟩ := h; assumption
  · cases h
def zeroI (P : Program) (e : TypeId) : Bool := match (P.info? e).bind (·.zero) with | some (.int .i64 0) => true | _ => false
theorem zeroI_run {P : Program} {e : TypeId} (h : zeroI P e = true) (w : World) : (zeroValue e).run P w = .ok (.int .i64 0) w := by
  unfold zeroI at h
  split at h
  · rename_i hz
    obtain ⟨i, hi, hz⟩ := Option.bind_eq_some_iff.1 hz
    simp [zeroValue, typeInfo, hi, hz]
  · cases h

/-- Block b is a map of at most n entries: x ↦ m x. -/
def MapI (P : Program) (k e : TypeId) (w : World) (b n : Nat) (m : Int → Option Int) : Prop :=
  ∃ D : DataW Unit, w.ownsMap P k (plainElem P e) b n D ∧ ∀ x, fits .i64 x → Maps.has D (.int .i64 x) = (m x).isSome ∧ D.atKey (.int .i64 x) (.lit (.int .i64 0)) = .lit (.int .i64 ((m x).getD 0))

theorem wf_of {x : Int} (h : fits .i64 x) : (Lit.int .i64 x).wf = true := by simpa [Lit.wf, fits] using h
theorem isKey_int (x : Int) : WideAt.IsKeyLit (.int .i64 x) := trivial

def updM (m : Int → Option Int) (x c : Int) : Int → Option Int := fun y => if y = x then some c else m y
def delM (m : Int → Option Int) (x : Int) : Int → Option Int := fun y => if y = x then none else m y

section
variable {P : Program} {k e : TypeId} {w w' : World} {b n : Nat} {m : Int → Option Int}
theorem MapI.made (P : Program) (k e : TypeId) (w : World) : MapI P k e (w.alloc (.map #[] 0)) w.heap.size 0 (fun _ => none) :=
  ⟨.map [], World.ownsMap_made w P k (plainElem P e), fun x hx => ⟨rfl, rfl⟩⟩
theorem MapI.lt (h : MapI P k e w b n m) : b < w.heap.size := by obtain ⟨D, h, _⟩ := h; exact h.lt
theorem MapI.below (h : MapI P k e w b n m) (hB : Below w.heap.size w w') : MapI P k e w' b n m := by
  obtain ⟨D, ho, hm⟩ := h
  have hlt := ho.lt
  obtain ⟨es, clock, hb, r⟩ := ho
  exact ⟨D, ⟨es, clock, by rw [hB.block b hlt]; exact hb, r⟩, hm⟩
/-- What lies elsewhere may change. -/
theorem MapI.grown {row : Option Nat} (h : MapI P k e w b n m) (hg : w.grownBy w' row) (hne : some b ≠ row) : MapI P k e w' b n m := by
  obtain ⟨D, ho, hm⟩ := h
  exact ⟨D, ho.kept hg hne, hm⟩
theorem MapI.setCell {a : Addr} (h : MapI P k e w b n m) (ha : b ≠ a.block) (u : Value) : MapI P k e (w.setCell a u) b n m := by
  obtain ⟨D, ho, hm⟩ := h
  exact ⟨D, ho.setCell ha u, hm⟩
theorem MapI.alloc (h : MapI P k e w b n m) (o : Obj) : MapI P k e (w.alloc o) b n m := h.below ((Below.refl _ _).alloc (Nat.le_refl _) o)

/-- 'm := map[int]int{}'. -/
theorem OPW_makeMap {o : Oper} {f : Array Value} {K' : Value → World → Prop} {t : TypeId} (ho : o.op = .makeMap t none)
    (hk : Now (K' (.map (some w.heap.size)) (w.alloc (.map #[] 0)))) : OPW P o f w K' := by
  intro X K Q hK
  refine op_lift X (by rw [ho]; intro c h; cases h) ?_
  have := hK _ _ hk
  unfold Oper.wp execOp
  simp only [ho, Option.map_none, Instr.makeMap, newRow, run_newObj, Sem.run_bind, Sem.run_pure, Result.andThen_ok]
  exact this

/-- 'v, ok := m[x]'. -/
theorem OPW_lookup {o : Oper} {f : Array Value} {K' : Value → World → Prop} {t : TypeId} {mo xo : Operand} {x : Int} (ho : o.op = .lookup t mo xo true) (ht : mapO P t = some (k, e)) (hki : kOf P k = .i .i64) (hei : kOf P e = .i .i64) (hz : zeroI P e = true)
    (hm : evo f mo = .map (some b)) (hx : evo f xo = .int .i64 x) (fx : fits .i64 x) (hM : MapI P k e w b n m) (hk : Now (K' (.tuple #[.int .i64 ((m x).getD 0), .bool (m x).isSome]) w)) : OPW P o f w K' := by
  intro X K Q hK
  refine op_lift X (by rw [ho]; intro c h; cases h) ?_
  obtain ⟨D, hown, hD⟩ := hM
  obtain ⟨v, ps, hrun, hv⟩ := hown.look_ok (Maps.int_keyed (kOf_i hki)) (mapO_of ht) (zeroI_run hz w) (plainElem_int (kOf_i hei) (by decide)) (Maps.keyOf_int_mk (kOf_i hki) (wf_of fx))
  obtain ⟨h1, h2⟩ := hD x fx
  rw [h1] at hrun
  rw [h2] at hv
  obtain ⟨a, rfl, ha, _⟩ := plainElem_int_inv (kOf_i hei) hv
  simp only [Prod.mk.injEq, DataW.lit.injEq, Lit.int.injEq, true_and] at ha
  rw [← ha.1] at hrun
  have := hK _ _ hk
  rw [evo_eq f X.ds] at hm hx
  unfold Oper.wp execOp
  simp only [ho, hm, hx, hrun, Sem.run_bind, Sem.run_pure, Result.andThen_ok]
  exact this

/-- 'm[x] = c'. -/
theorem OPW_update {o : Oper} {f : Array Value} {K' : Value → World → Prop} {t : TypeId} {mo xo co : Operand} {x c : Int} (ho : o.op = .mapUpdate t mo xo co) (ht : mapO P t = some (k, e)) (hki : kOf P k = .i .i64) (hei : kOf P e = .i .i64)
    (hm : evo f mo = .map (some b)) (hx : evo f xo = .int .i64 x) (hc : evo f co = .int .i64 c) (fx : fits .i64 x) (fc : fits .i64 c) (hn : n < maxLen) (hM : MapI P k e w b n m)
    (hk : ∀ w', MapI P k e w' b (n + 1) (updM m x c) → w.grownBy w' (some b) → w'.heap.size = w.heap.size → Now (K' undef w')) : OPW P o f w K' := by
  intro X K Q hK
  refine op_lift X (by rw [ho]; intro c h; cases h) ?_
  obtain ⟨D, hown, hD⟩ := hM
  obtain ⟨w', hrun, r1, r2⟩ := hown.store (Maps.int_keyed (kOf_i hki)) (mapO_of ht) hn (Maps.keyOf_int_mk (kOf_i hki) (wf_of fx)) (plainElem_int (kOf_i hei) (wf_of fc))
  have hsz : w'.heap.size = w.heap.size := by obtain ⟨_, _, _, _, _, rfl⟩ := r2; simp [setBlock]
  have := hK _ _ (hk w' ⟨_, r1, fun y fy => ?_⟩ r2.grown hsz)
  · rw [evo_eq f X.ds] at hm hx hc
    unfold Oper.wp execOp
    simp only [ho, hm, hx, hc, hrun, Sem.run_bind, Sem.run_pure, Result.andThen_ok]
    exact this
  · unfold updM
    by_cases hy : y = x
    · subst hy
      rw [Maps.has_put_same hown.isMap (isKey_int y), Maps.atKey_put_same hown.isMap (isKey_int y), if_pos rfl]
      exact ⟨rfl, rfl⟩
    · have hne : Lit.int .i64 y ≠ Lit.int .i64 x := by simpa using hy
      rw [Maps.has_put_other hne, Maps.atKey_put_other hne, if_neg hy]
      exact hD y fy

/-- 'delete(m, x)'. -/
theorem OPW_delete {o : Oper} {f : Array Value} {K' : Value → World → Prop} {t : TypeId} {mo xo : Operand} {x : Int} (ho : o.op = .call { callee := .builtin .delete, args := #[mo, xo], argTypes := #[t, k] }) (ht : mapO P t = some (k, e)) (hki : kOf P k = .i .i64)
    (hm : evo f mo = .map (some b)) (hx : evo f xo = .int .i64 x) (fx : fits .i64 x) (hM : MapI P k e w b n m)
    (hk : ∀ w', MapI P k e w' b n (delM m x) → w.grownBy w' (some b) → w'.heap.size = w.heap.size → Now (K' (.tuple #[]) w')) : OPW P o f w K' := by
  intro X K Q hK
  refine op_lift X (by rw [ho]; intro c h; cases h) ?_
  obtain ⟨D, hown, hD⟩ := hM
  obtain ⟨w', hrun, r1, r2⟩ := hown.drop (Maps.int_keyed (kOf_i hki)) (mapO_of ht) (Maps.keyOf_int_mk (kOf_i hki) (wf_of fx)) o.type
  have hsz : w'.heap.size = w.heap.size := by obtain ⟨_, _, _, _, _, rfl⟩ := r2; simp [setBlock]
  have := hK _ _ (hk w' ⟨_, r1, fun y fy => ?_⟩ r2.grown hsz)
  · rw [evo_eq f X.ds] at hm hx
    unfold Oper.wp execOp
    simp only [ho, resolve, invoke, builtin, Sem.run_bind, Sem.run_pure, Result.andThen_ok, List.map_toArray, List.map_cons, List.map_nil, hm, hx, hrun]
    exact this
  · unfold delM
    by_cases hy : y = x
    · subst hy
      rw [Maps.has_del_same, Maps.atKey_del_same, if_pos rfl]
      exact ⟨rfl, rfl⟩
    · have hne : Lit.int .i64 y ≠ Lit.int .i64 x := by simpa using hy
      rw [Maps.has_del_other hne, Maps.atKey_del_other hne, if_neg hy]
      exact hD y fy
end
end Go.VC
