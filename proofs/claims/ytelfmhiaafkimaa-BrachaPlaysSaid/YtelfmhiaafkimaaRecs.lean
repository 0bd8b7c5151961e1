/- A slice of structs, each of K cells, as a function from places to cells. Over any program. -/
import Derived.Test.YtelfmhiaafkimaaBox
namespace Go.VC
open Go Go.RowKit
set_option linter.unusedVariables false
set_option linter.unusedSimpArgs false

/-- f but v at i. -/
def upd {α : Type} (f : Nat → α) (i : Nat) (v : α) : Nat → α := fun a => if a = i then v else f a
theorem upd_same {α : Type} (f : Nat → α) (i : Nat) (v : α) : upd f i v i = v := if_pos rfl
theorem upd_other {α : Type} {f : Nat → α} {i j : Nat} {v : α} (h : j ≠ i) : upd f i v j = f j := if_neg h
theorem upd_upd {α : Type} (f : Nat → α) (i : Nat) (u v : α) : upd (upd f i u) i v = upd f i v := by
  funext a; unfold upd; split <;> rfl
theorem upd_self {α : Type} (f : Nat → α) (i : Nat) : upd f i (f i) = f := by
  funext a; unfold upd; split
  · rename_i h; rw [h]
  · rfl

def Recs (w : World) (g n K : Nat) (cs : Nat → List Value) : Prop :=
  g < w.heap.size ∧ ∀ i, i < n → ∀ j, j < K → w.cell? ⟨g, i * K + j, none⟩ = (cs i)[j]? ∧ w.frozen? ⟨g, i * K + j, none⟩ = false
section
variable {w w' : World} {g n K : Nat} {cs : Nat → List Value}
theorem Recs.below (h : Recs w g n K cs) (hB : Below w.heap.size w w') : Recs w' g n K cs :=
  ⟨Nat.lt_of_lt_of_le h.1 hB.size, fun i hi j hj => ⟨(hB.cell (p := ⟨g, _, none⟩) h.1).trans (h.2 i hi j hj).1, (hB.frozen (p := ⟨g, _, none⟩) h.1).trans (h.2 i hi j hj).2⟩⟩
theorem Recs.agree {X : Nat → Prop} (h : Recs w g n K cs) (hA : Agree X w w') (hx : ¬ X g) : Recs w' g n K cs :=
  ⟨Nat.lt_of_lt_of_le h.1 hA.size, fun i hi j hj => ⟨(hA.cell h.1 hx).trans (h.2 i hi j hj).1, (hA.frozen h.1 hx).trans (h.2 i hi j hj).2⟩⟩
theorem Recs.far {a : Addr} (h : Recs w g n K cs) (ha : a.block ≠ g) (v : Value) : Recs (w.setCell a v) g n K cs :=
  h.agree (X := fun k => k = a.block) (Agree.setCell w v rfl) fun e => ha e.symm
theorem Recs.at (h : Recs w g n K cs) {i j : Nat} {v : Value} (hi : i < n) (hj : j < K) (hv : (cs i)[j]? = some v) : w.cell? ⟨g, i * K + j, none⟩ = some v := by rw [(h.2 i hi j hj).1, hv]
theorem Recs.soft (h : Recs w g n K cs) {i j : Nat} (hi : i < n) (hj : j < K) : w.frozen? ⟨g, i * K + j, none⟩ = false := (h.2 i hi j hj).2
theorem recs_apart {i j a b K : Nat} (hj : j < K) (hb : b < K) (h : i * K + j = a * K + b) : i = a ∧ j = b := by
  have hK : 0 < K := by omega
  have h1 : (i * K + j) / K = i := by rw [Nat.mul_comm, Nat.mul_add_div hK, Nat.div_eq_of_lt hj, Nat.add_zero]
  have h2 : (a * K + b) / K = a := by rw [Nat.mul_comm, Nat.mul_add_div hK, Nat.div_eq_of_lt hb, Nat.add_zero]
  have h3 : i = a := by rw [← h1, h, h2]
  subst h3
  exact ⟨rfl, by omega⟩
theorem Recs.set (h : Recs w g n K cs) {i j : Nat} (hi : i < n) (hj : j < K) (hl : (cs i).length = K) (v : Value) : Recs (w.setCell ⟨g, i * K + j, none⟩ v) g n K (upd cs i ((cs i).set j v)) := by
  refine ⟨by simpa using h.1, fun a ha b hb => ⟨?_, by rw [World.frozen?_setCell]; exact (h.2 a ha b hb).2⟩⟩
  by_cases hai : a = i
  · subst hai
    rw [upd_same]
    by_cases hbj : b = j
    · subst hbj
      rw [List.getElem?_set_self (by omega)]
      exact World.cell?_setCell_same w _ v ((h.2 a ha b hb).1.trans (List.getElem?_eq_getElem (by omega)))
    · rw [List.getElem?_set_ne (fun e => hbj e.symm), World.cell?_setCell_other _ _ _ _ (by intro e; have e2 := (Addr.mk.inj e).2.1; omega)]
      exact (h.2 a ha b hb).1
  · rw [upd_other hai, World.cell?_setCell_other _ _ _ _ (by intro e; have e2 := (Addr.mk.inj e).2.1; exact hai (recs_apart hj hb (by first | exact e2 | exact e2.symm)).1.symm)]
    exact (h.2 a ha b hb).1
/-- One field of one record is set. -/
theorem Recs.upd {α : Type} {en : α → List Value} {P : Nat → α} (h : Recs w g n K fun a => en (P a)) {i j : Nat} (hi : i < n) (hj : j < K) (hl : (en (P i)).length = K) {v : Value} {p : α} (hp : en p = (en (P i)).set j v) :
    Recs (w.setCell ⟨g, i * K + j, none⟩ v) g n K fun a => en (upd P i p a) := by
  have := h.set hi hj hl v
  rw [show (fun a => en (VC.upd P i p a)) = VC.upd (fun a => en (P a)) i ((en (P i)).set j v) from by
    funext a; unfold VC.upd; split
    · rw [hp]
    · rfl]
  exact this
/-- A slice that was just made. -/
theorem Recs.of_own {B : Nat} {e : TypeId} {c : Nat} {xs : List Value} (h : OwnK w B e K n (.slice (some ⟨g, 0, none⟩) n c) xs) (hg : g < w.heap.size) (hcs : ∀ i, i < n → ∀ j, j < K → xs[i * K + j]? = (cs i)[j]?) : Recs w g n K cs := by
  refine ⟨hg, fun i hi j hj => ?_⟩
  have hlt : i * K + j < n * K := by
    have : (i + 1) * K ≤ n * K := Nat.mul_le_mul_right K hi
    rw [Nat.succ_mul] at this; omega
  obtain ⟨h1, h2⟩ := h.at hlt
  exact ⟨h1.trans (hcs i hi j hj), h2⟩
theorem made_at (z : Array Value) {n K i j : Nat} (hl : z.size = K) (hi : i < n) (hj : j < K) : (madeCells z (n * K)).toList[i * K + j]? = z.toList[j]? := by
  have hlt : i * K + j < n * K := by
    have : (i + 1) * K ≤ n * K := Nat.mul_le_mul_right K hi
    rw [Nat.succ_mul] at this; omega
  have hm : (i * K + j) % K = j := by rw [Nat.mul_comm, Nat.mul_add_mod, Nat.mod_eq_of_lt hj]
  unfold madeCells
  subst hl
  simp [hlt, hm, hj]
end
/-- A struct or an array is stored into its own block. -/
theorem stW_cons (w : World) (g i : Nat) (v : Value) (vs : List Value) : stW w ⟨g, 0, none⟩ i (v :: vs) = stW (w.setCell ⟨g, i, none⟩ v) ⟨g, 0, none⟩ (i + 1) vs := by
  show stW (w.setCell ((⟨g, 0, none⟩ : Addr).add i) v) _ _ _ = _
  rw [add_mk, Nat.zero_add]
theorem stW_agree {X : Nat → Prop} {g : Nat} (hg : X g) : ∀ (vs : List Value) (w : World) (i : Nat), Agree X w (stW w ⟨g, 0, none⟩ i vs)
  | [], w, i => Agree.refl _ _
  | v :: vs, w, i => by rw [stW_cons]; exact (Agree.setCell w v (a := ⟨g, i, none⟩) hg).trans (stW_agree hg vs _ _)
theorem stW_size {g : Nat} : ∀ (vs : List Value) (w : World) (i : Nat), (stW w ⟨g, 0, none⟩ i vs).heap.size = w.heap.size
  | [], w, i => rfl
  | v :: vs, w, i => by rw [stW_cons, stW_size vs]; simp
theorem Box.stOK {w : World} {b : Nat} {cs : List Value} (h : Box w b cs) : ∀ (vs : List Value) (i : Nat), i + vs.length ≤ cs.length → (∀ v ∈ vs, v.oneCell' = true) → VC.stOK w ⟨b, 0, none⟩ i vs
  | [], i, hl, h1 => trivial
  | v :: vs, i, hl, h1 => by
    rw [List.length_cons] at hl
    have ha : (⟨b, 0, none⟩ : Addr).add i = ⟨b, i, none⟩ := by rw [add_mk, Nat.zero_add]
    have hi : i < cs.length := by omega
    exact ⟨by rw [ha, h.at (List.getElem?_eq_getElem hi)]; rfl, by rw [ha]; exact h.soft hi, h1 v (by simp), Box.stOK h vs (i + 1) (by omega) fun u hu => h1 u (by simp [hu])⟩
theorem Box.stW {b : Nat} : ∀ (vs : List Value) (w : World) (cs : List Value) (i : Nat), Box w b cs → i + vs.length ≤ cs.length → Box (VC.stW w ⟨b, 0, none⟩ i vs) b (cs.take i ++ vs ++ cs.drop (i + vs.length))
  | [], w, cs, i, h, hl => by
    show Box w b _
    simpa using h
  | v :: vs, w, cs, i, h, hl => by
    rw [List.length_cons] at hl
    have hi : i < cs.length := by omega
    have h3 := Box.stW vs (w.setCell ⟨b, i, none⟩ v) (cs.set i v) (i + 1) (h.set i v) (by rw [List.length_set]; omega)
    rw [stW_cons]
    have e : (cs.set i v).take (i + 1) ++ vs ++ (cs.set i v).drop (i + 1 + vs.length) = cs.take i ++ (v :: vs) ++ cs.drop (i + (v :: vs).length) := by
      rw [List.take_succ_eq_append_getElem (by rw [List.length_set]; exact hi), List.getElem_set_self, List.take_set_of_le (Nat.le_refl i), List.drop_set_of_lt (by omega), List.length_cons]
      simp [Nat.add_assoc, Nat.add_comm 1]
    rw [e] at h3
    exact h3
theorem Box.stAll {w : World} {b : Nat} {cs vs : List Value} (h : Box w b cs) (hl : vs.length = cs.length) (h1 : ∀ v ∈ vs, v.oneCell' = true) : VC.stOK w ⟨b, 0, none⟩ 0 vs ∧ Box (VC.stW w ⟨b, 0, none⟩ 0 vs) b vs := by
  refine ⟨h.stOK vs 0 (by omega) h1, ?_⟩
  have h3 := Box.stW vs w cs 0 h (by omega)
  rw [List.take_zero, List.nil_append, Nat.zero_add, hl, List.drop_length, List.append_nil] at h3
  exact h3
/-- 'make([]T, n)', T of any size. -/
theorem OPW_makeK {P : Program} {w : World} {o : Oper} {f : Array Value} {K' : Value → World → Prop} {l c : Operand} {t : TypeId} {e bytes size : Nat} {zc : List Value} {n base : Nat} {N M : Int} {k1 k2 : IntKind}
    (ho : o.op = .makeSlice t l c) (hi : apI P t = some (e, size, bytes, zc)) (hl : evo f l = .int k1 N) (hc : evo f c = .int k2 M) (hN : N = n) (hM : M = n) (hb : bytes * n ≤ 281474976710656) (hn : n ≤ 140737488355328) (hbase : base ≤ w.heap.size)
    (hk : ∀ w', OwnK w' base e size n (.slice (some ⟨w.heap.size, 0, none⟩) n n) (madeCells zc.toArray (n * size)).toList → w.grownBy w' none → Now (K' (.slice (some ⟨w.heap.size, 0, none⟩) n n) w')) : OPW P o f w K' := by
  obtain ⟨i, z', h2, h3, h4, h5, h6, h7, h8, h9⟩ := apI_spec hi
  intro X K Q hK
  refine op_lift X (by rw [ho]; intro c h; cases h) ?_
  subst hN; subst hM
  obtain ⟨w', hrun, r1, r2⟩ := run_make_full (P := P) w base t e i z' size h2 h3 h4 h5 k1 k2 n (by rw [h6]; exact hb) (by simp only [maxLen]; omega) hbase
  have hz : z'.cells = zc.toArray := by rw [← Array.toList_inj, h9]
  rw [hz] at r1
  rw [evo_eq f X.ds] at hl hc
  have := hK _ w' (hk w' ⟨_, _, rfl, r1⟩ r2)
  unfold Oper.wp execOp
  simp only [ho, Sem.run_bind, hl, hc, hrun, Result.andThen_ok, Sem.run_pure]
  exact this
end Go.VC
