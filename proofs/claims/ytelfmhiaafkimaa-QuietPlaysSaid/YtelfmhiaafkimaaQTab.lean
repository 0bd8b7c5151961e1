/- A table of n times n counts in one slice; what the document keeps when all rests. -/
import Derived.Test.YtelfmhiaafkimaaQuiet1
namespace Go.Proofs.Ytelfmhiaafkimaa
open Go Go.RowKit Go.VC
set_option linter.unusedSimpArgs false
set_option linter.unusedVariables false
abbrev rowL (n : Nat) (r : Nat → Nat) : List Value := (List.range n).map fun j => Value.int .i64 (r j)
theorem rowL_at {n j : Nat} {r : Nat → Nat} (hj : j < n) : (rowL n r)[j]? = some (.int .i64 (r j)) := by simp [hj]
theorem rowL_set {n b : Nat} {r : Nat → Nat} {v : Nat} (hb : b < n) : rowL n (fun j => if j = b then v else r j) = (rowL n r).set b (.int .i64 v) := by
  apply List.ext_getElem?
  intro j
  rw [List.getElem?_set]
  by_cases hj : j < n
  · by_cases e : b = j
    · subst e; rw [rowL_at hj, if_pos rfl, if_pos rfl, if_pos (by simpa using hb)]
    · rw [rowL_at hj, if_neg e, if_neg (fun h => e h.symm), rowL_at hj]
  · by_cases e : b = j
    · omega
    · rw [if_neg e, List.getElem?_eq_none (by simp; omega), List.getElem?_eq_none (by simp; omega)]
theorem upd_set2 (m : Nat → Nat → Nat) (a b v : Nat) : upd m a (fun j => if j = b then v else m a j) = set2 m a b v := by
  funext i j
  unfold upd set2
  by_cases e : i = a
  · subst e; simp
  · simp [e]
theorem Hp.setTab {B : Nat} {L : List Ob} {w : World} {m : Nat → Nat → Nat} (h : Hp B L w) (i : Nat) {g n : Nat} (hi : L[i]? = some (oRecs g n n fun x => rowL n (m x))) {a b : Nat} (ha : a < n) (hb : b < n) (v : Nat) :
    St B L w (L.set i (oRecs g n n fun x => rowL n (set2 m a b v x))) (w.setCell ⟨g, a * n + b, none⟩ (.int .i64 v)) := by
  have := h.setRec (en := rowL n) (P := m) i hi ha hb (by simp) (v := .int .i64 v) (p := fun j => if j = b then v else m a j) (rowL_set hb)
  rwa [upd_set2] at this
theorem Recs.of_own1 {w : World} {B g n : Nat} {e : TypeId} {c : Nat} {xs : List Value} {cs : Nat → List Value} (h : OwnK w B e 1 (n * n) (.slice (some ⟨g, 0, none⟩) (n * n) c) xs) (hg : g < w.heap.size) (hcs : ∀ i, i < n → ∀ j, j < n → xs[i * n + j]? = (cs i)[j]?) : Recs w g n n cs := by
  refine ⟨hg, fun i hi j hj => ?_⟩
  have hlt : i * n + j < n * n * 1 := by
    have : (i + 1) * n ≤ n * n := Nat.mul_le_mul_right n hi
    rw [Nat.succ_mul] at this; omega
  obtain ⟨h1, h2⟩ := h.at hlt
  exact ⟨h1.trans (hcs i hi j hj), h2⟩
theorem idx_lt {n a b : Nat} (ha : a < n) (hb : b < n) : a * n + b < n * n := by
  have : (a + 1) * n ≤ n * n := Nat.mul_le_mul_right n ha
  rw [Nat.succ_mul] at this; omega
theorem made_row {n i j : Nat} (hi : i < n) (hj : j < n) : (madeCells [Value.int .i64 0].toArray (n * n * 1)).toList[i * n + j]? = (rowL n (fun _ => 0))[j]? := by
  rw [rowL_at hj]
  have h := made_at [Value.int .i64 0].toArray (n := n * n) (K := 1) (i := i * n + j) (j := 0) rfl (idx_lt hi hj) Nat.zero_lt_one
  rw [Nat.mul_one (i * n + j), Nat.add_zero] at h
  exact h
theorem idx_div {n a b : Nat} (hb : b < n) : (a * n + b) / n = a ∧ (a * n + b) % n = b := by
  have hn : 0 < n := by omega
  refine ⟨?_, ?_⟩
  · rw [Nat.mul_comm, Nat.mul_add_div hn, Nat.div_eq_of_lt hb, Nat.add_zero]
  · rw [Nat.mul_comm, Nat.mul_add_mod, Nat.mod_eq_of_lt hb]
theorem sumN_plus (f : Nat → Int) (n : Nat) : ∀ k, sumN f (n + k) = sumN f n + sumN (fun j => f (n + j)) k
  | 0 => by simp [sumN]
  | k + 1 => by
    show sumN f (n + k) + f (n + k) = sumN f n + (sumN (fun j => f (n + j)) k + f (n + k))
    rw [sumN_plus f n k, Int.add_assoc]
theorem sumN_plus2 (f g : Nat → Int) : ∀ k, sumN (fun j => f j + g j) k = sumN f k + sumN g k
  | 0 => rfl
  | k + 1 => by unfold sumN; rw [sumN_plus2 f g k]; omega
theorem sum_flat (f : Nat → Int) (n : Nat) : ∀ k, sumN f (k * n) = sumN (fun i => sumN (fun j => f (i * n + j)) n) k
  | 0 => by simp [sumN]
  | k + 1 => by rw [Nat.succ_mul, sumN_plus, sum_flat f n k]; rfl
noncomputable abbrev DQObs (n gl gc ga : Nat) (s : QS) : List Ob := [oRecs gl n 4 (fun i => prL (s.pr i)), oRecs gc n n (fun i => rowL n (s.ca i)), oRecs ga n n (fun i => rowL n (s.an i))]
theorem Rd_agree {X : Nat → Prop} {w w' : World} {A : Option Addr} {xs : List Value} (h : Rd w A xs) (hA : Agree X w w') (hx : ∀ ad, A = some ad → ¬ X ad.block) : Rd w' A xs := by
  intro h0
  obtain ⟨b, o, rfl, hlt, hc⟩ := h h0
  exact ⟨b, o, rfl, Nat.lt_of_lt_of_le hlt hA.size, fun j hj => (hA.cell hlt (hx _ rfl)).trans (hc j hj)⟩
/-- All slices of an answer are new. -/
def NewS (B : Nat) (v : Value) : Prop := ∀ cs, v = .agg cs → ∀ A n c, Value.slice A n c ∈ cs.toList → ∀ ad, A = some ad → B ≤ ad.block
theorem zero5 {v : Value} (hv : v ∈ [nilS, nilS, nilS, .int .i64 0, .bool false]) : v.oneCell' = true := by simp at hv; rcases hv with rfl | rfl | rfl <;> rfl
theorem box5 (w : World) (vs : List Value) (h1 : ∀ v ∈ vs, v.oneCell' = true) (hl : vs.length = 5) :
    VC.stOK (w.alloc (.cells #[nilS, nilS, nilS, .int .i64 0, .bool false] 47)) ⟨w.heap.size, 0, none⟩ 0 vs ∧ Box (VC.stW (w.alloc (.cells #[nilS, nilS, nilS, .int .i64 0, .bool false] 47)) ⟨w.heap.size, 0, none⟩ 0 vs) w.heap.size vs ∧ Below w.heap.size w (VC.stW (w.alloc (.cells #[nilS, nilS, nilS, .int .i64 0, .bool false] 47)) ⟨w.heap.size, 0, none⟩ 0 vs) := by
  obtain ⟨h2, h3⟩ := (Box.new w [nilS, nilS, nilS, .int .i64 0, .bool false] 47).stAll (vs := vs) hl h1
  exact ⟨h2, h3, (stW_agree (X := fun j => j = w.heap.size) rfl vs _ 0).to_below (below_box (Below.refl _ _) _) (by simp) fun j hj => by omega⟩
/-- A variable that is made and set at once. -/
theorem boxSt (w : World) (z vs : List Value) (t : TypeId) (hl : vs.length = z.length) (h1 : ∀ v ∈ vs, v.oneCell' = true) :
    VC.stOK (w.alloc (.cells z.toArray t)) ⟨w.heap.size, 0, none⟩ 0 vs ∧ Box (VC.stW (w.alloc (.cells z.toArray t)) ⟨w.heap.size, 0, none⟩ 0 vs) w.heap.size vs ∧ Below w.heap.size w (VC.stW (w.alloc (.cells z.toArray t)) ⟨w.heap.size, 0, none⟩ 0 vs) := by
  obtain ⟨h2, h3⟩ := (Box.new w z t).stAll (vs := vs) hl h1
  exact ⟨h2, h3, (stW_agree (X := fun j => j = w.heap.size) rfl vs _ 0).to_below (below_box (Below.refl _ _) _) (by simp) fun j hj => by omega⟩
theorem wrap64 {x : Int} {a : Nat} (h : x = a) (ha : a ≤ 1000000) : IntKind.i64.wrap x = a := by
  rw [h]; exact fits_wrap (fits_i64 (by omega) (by omega))
theorem qdoes_done {x y : Nat} {kind : Int} {s : QS} : (qdoes x y kind s).2.done = s.done := by
  unfold qdoes
  repeat' split
  all_goals rfl
/-- All of one process's cells. -/
theorem recF {w : World} {g n x : Nat} {P : Nat → QP} {p : QP} (h : Recs w g n 4 (fun i => prL (P i))) (hx : x < n) (hp : P x = p) :
    w.cell? ⟨g, x * 4, none⟩ = some (.bool p.works) ∧ w.cell? ⟨g, x * 4 + 1, none⟩ = some (.bool p.bound) ∧ w.cell? ⟨g, x * 4 + 2, none⟩ = some (.int .i64 p.to) ∧ w.cell? ⟨g, x * 4 + 3, none⟩ = some (.int .i64 p.owes) ∧
    (w.cell? ⟨g, x * 4, none⟩).isSome = true ∧ (w.cell? ⟨g, x * 4 + 1, none⟩).isSome = true ∧ (w.cell? ⟨g, x * 4 + 2, none⟩).isSome = true ∧ (w.cell? ⟨g, x * 4 + 3, none⟩).isSome = true ∧
    w.frozen? ⟨g, x * 4, none⟩ = false ∧ w.frozen? ⟨g, x * 4 + 1, none⟩ = false ∧ w.frozen? ⟨g, x * 4 + 2, none⟩ = false ∧ w.frozen? ⟨g, x * 4 + 3, none⟩ = false ∧ g < w.heap.size := by
  subst hp
  have t0 := h.at (i := x) (j := 0) hx (by omega) rfl
  have t1 := h.at (i := x) (j := 1) hx (by omega) rfl
  have t2 := h.at (i := x) (j := 2) hx (by omega) rfl
  have t3 := h.at (i := x) (j := 3) hx (by omega) rfl
  have f0 := h.soft (i := x) (j := 0) hx (by omega)
  have f1 := h.soft (i := x) (j := 1) hx (by omega)
  have f2 := h.soft (i := x) (j := 2) hx (by omega)
  have f3 := h.soft (i := x) (j := 3) hx (by omega)
  simp only [Nat.add_zero] at t0 f0
  exact ⟨t0, t1, t2, t3, by rw [t0]; rfl, by rw [t1]; rfl, by rw [t2]; rfl, by rw [t3]; rfl, f0, f1, f2, f3, h.1⟩
theorem tabF {w : World} {g n a b : Nat} {m : Nat → Nat → Nat} (h : Recs w g n n (fun i => rowL n (m i))) (ha : a < n) (hb : b < n) :
    w.cell? ⟨g, a * n + b, none⟩ = some (.int .i64 (m a b)) ∧ (w.cell? ⟨g, a * n + b, none⟩).isSome = true ∧ w.frozen? ⟨g, a * n + b, none⟩ = false ∧ g < w.heap.size := by
  have ta := h.at (i := a) (j := b) ha hb (rowL_at hb)
  exact ⟨ta, by rw [ta]; rfl, h.soft ha hb, h.1⟩
end Go.Proofs.Ytelfmhiaafkimaa
