/- Keys that are structs or arrays of ints. Over any program. -/
import Derived.Test.YtelfmhiaafkimaaMapR
import Derived.DeepKeys4
namespace Go.VC
open Go Go.RowKit Go.Maps
set_option linter.unusedVariables false
set_option linter.unusedSimpArgs false

def isI64 (P : Program) (t : TypeId) : Bool := match P.underlying t with | some (.int .i64) => true | _ => false
theorem isI64_of {P : Program} {t : TypeId} (h : isI64 P t = true) : P.underlying t = some (.int .i64) := by
  unfold isI64 at h
  split at h
  · assumption
  · cases h
/-- k is a struct, or an array, of c ints. -/
def aggIB (P : Program) (k : TypeId) (c : Nat) : Bool :=
  decide (P.types.size + 2 ≤ 10000) && decide (k < P.types.size) && P.keyType k && (P.cellsOf k == c) && match P.underlying k with
  | some (.struct fs) => fs.toList.length == c && (fs.all (·.name != "_")) && (List.range c).all fun i => match fs.toList[i]? with | some f => f.offset == i && P.cellsOf f.type == 1 && isI64 P f.type | none => false
  | some (.array n e) => n == c && P.cellsOf e == 1 && isI64 P e
  | _ => false
theorem mapM_of {α β : Type} {f : α → Option β} : ∀ (l : List α) (r : List β), l.length = r.length → (∀ (i : Nat) (a : α) (b : β), l[i]? = some a → r[i]? = some b → f a = some b) → l.mapM f = some r
  | [], [], _, _ => by simp
  | a :: l, b :: r, hl, h => by
    have h0 := h 0 a b rfl rfl
    have ih := mapM_of l r (by simpa using hl) fun i a b h1 h2 => h (i + 1) a b (by simpa using h1) (by simpa using h2)
    simp [List.mapM_cons, h0, ih]
theorem mapM_inv {α β : Type} {f : α → Option β} : ∀ (l : List α) (r : List β), l.mapM f = some r → ∀ (i : Nat) (a : α), l[i]? = some a → ∃ b, f a = some b
  | [], r, _, i, a, hi => by cases hi
  | a0 :: l, r, h, i, a, hi => by
    simp only [List.mapM_cons, Option.bind_eq_bind, Option.bind_eq_some_iff] at h
    obtain ⟨b, hb, r', hr', _⟩ := h
    cases i with
    | zero => cases hi; exact ⟨b, hb⟩
    | succ i => exact mapM_inv l r' hr' i a (by simpa using hi)
section
variable {P : Program} {k : TypeId} {c : Nat}
theorem keyLits_one {t : TypeId} (h : isI64 P t = true) (m : Nat) {x : Int} (hx : fits .i64 x) : P.keyLits (m + 1) t [.int .i64 x] = some [.int .i64 x] := by
  unfold Program.keyLits
  rw [isI64_of h]
  simp [wf_of hx]
theorem keyLits_one_inv {t : TypeId} (h : isI64 P t = true) (m : Nat) {v : Value} {l : List Lit} (hl : P.keyLits (m + 1) t [v] = some l) : ∃ x, fits .i64 x ∧ v = .int .i64 x := by
  unfold Program.keyLits at hl
  rw [isI64_of h] at hl
  cases v <;> simp at hl
  obtain ⟨⟨rfl, hw⟩, _⟩ := hl
  exact ⟨_, by simpa [Lit.wf, fits] using hw, rfl⟩
theorem drop_take_one {α : Type} {l : List α} {i : Nat} {a : α} (h : l[i]? = some a) : (l.drop i).take 1 = [a] := by
  obtain ⟨hi, he⟩ := List.getElem?_eq_some_iff.1 h
  rw [List.drop_eq_getElem_cons hi, he]; rfl
theorem keyLits_agg (h : aggIB P k c = true) (m : Nat) {l : List Int} (hl : l.length = c) (hf : ∀ x ∈ l, fits .i64 x) : ∃ r, P.keyLits (m + 2) k (l.map (Value.int .i64)) = some r := by
  unfold aggIB at h
  simp only [Bool.and_eq_true, decide_eq_true_eq, beq_iff_eq] at h
  obtain ⟨⟨⟨_, _⟩, hc⟩, hu⟩ := h
  have hat : ∀ (t : TypeId) (i : Nat), i < c → isI64 P t = true → P.keyLits (m + 1) t (((l.map (Value.int .i64)).drop i).take 1) = some [.int .i64 (l.getD i 0)] := by
    intro t i hi ht
    have hil : i < l.length := by omega
    rw [drop_take_one (a := .int .i64 (l.getD i 0)) (by simp [List.getD, hil])]
    exact keyLits_one ht m (hf _ (by simp [List.getD, hil]))
  split at hu
  · rename_i fs hfs
    simp only [Bool.and_eq_true, beq_iff_eq] at hu
    obtain ⟨⟨h1, h2⟩, h3⟩ := hu
    refine ⟨((List.range c).map fun i => [Lit.int .i64 (l.getD i 0)]).flatten, ?_⟩
    unfold Program.keyLits
    rw [hfs]
    simp only [List.length_map, hl, hc, h2, true_and, if_true]
    rw [mapM_of fs.toList ((List.range c).map fun i => [Lit.int .i64 (l.getD i 0)]) (by simpa using h1) fun i f b hi hb => ?_]
    · rfl
    · have hic : i < c := by have := (List.getElem?_eq_some_iff.1 hi).1; omega
      have h4 := List.all_eq_true.1 h3 i (List.mem_range.2 hic)
      rw [hi] at h4
      simp only [Bool.and_eq_true, beq_iff_eq] at h4
      obtain ⟨⟨h5, h6⟩, h7⟩ := h4
      rw [h5, h6, hat _ _ hic h7]
      simpa [hic] using hb
  · rename_i n e hfs
    simp only [Bool.and_eq_true, beq_iff_eq] at hu
    obtain ⟨⟨rfl, h2⟩, h3⟩ := hu
    refine ⟨((List.range n).map fun i => [Lit.int .i64 (l.getD i 0)]).flatten, ?_⟩
    unfold Program.keyLits
    rw [hfs]
    simp only [List.length_map, hl, hc, if_true]
    rw [mapM_of (List.range n) ((List.range n).map fun i => [Lit.int .i64 (l.getD i 0)]) (by simp) fun i j b hi hb => ?_]
    · rfl
    · obtain ⟨hin, rfl⟩ : i < n ∧ i = j := by
        have := List.getElem?_eq_some_iff.1 hi
        obtain ⟨h8, h9⟩ := this
        simp at h8 h9; exact ⟨h8, h9⟩
      rw [h2, Nat.mul_one, hat _ _ hin h3]
      simpa [hin] using hb
  · cases hu
theorem list_of_cells (cs : List Value) (h : ∀ (i : Nat) (v : Value), cs[i]? = some v → ∃ x, fits .i64 x ∧ v = Value.int .i64 x) : ∃ l : List Int, cs = l.map (Value.int .i64) ∧ ∀ x ∈ l, fits .i64 x := by
  induction cs with
  | nil => exact ⟨[], rfl, fun x hx => by cases hx⟩
  | cons v cs ih =>
    obtain ⟨x, hx, rfl⟩ := h 0 v rfl
    obtain ⟨l, rfl, hl⟩ := ih fun i v hi => h (i + 1) v (by simpa using hi)
    exact ⟨x :: l, rfl, fun y hy => by rcases List.mem_cons.1 hy with rfl | hy; exact hx; exact hl y hy⟩
theorem keyLits_agg_inv (h : aggIB P k c = true) (m : Nat) {cs : List Value} (hcs : cs.length = c) {r : List Lit} (hr : P.keyLits (m + 2) k cs = some r) : ∃ l : List Int, cs = l.map (Value.int .i64) ∧ ∀ x ∈ l, fits .i64 x := by
  unfold aggIB at h
  simp only [Bool.and_eq_true, decide_eq_true_eq, beq_iff_eq] at h
  obtain ⟨⟨⟨_, _⟩, hc⟩, hu⟩ := h
  refine list_of_cells cs fun i v hi => ?_
  have hic : i < c := by have := (List.getElem?_eq_some_iff.1 hi).1; omega
  split at hu
  · rename_i fs hfs
    simp only [Bool.and_eq_true, beq_iff_eq] at hu
    obtain ⟨⟨h1, h2⟩, h3⟩ := hu
    unfold Program.keyLits at hr
    rw [hfs] at hr
    simp only at hr
    split at hr
    · obtain ⟨r', hr', _⟩ := Option.map_eq_some_iff.1 hr
      have h4 := List.all_eq_true.1 h3 i (List.mem_range.2 hic)
      cases hfi : fs.toList[i]? with
      | none => rw [hfi] at h4; cases h4
      | some f =>
        rw [hfi] at h4
        simp only [Bool.and_eq_true, beq_iff_eq] at h4
        obtain ⟨⟨h5, h6⟩, h7⟩ := h4
        obtain ⟨b, hb⟩ := mapM_inv _ _ hr' i f hfi
        rw [h5, h6, drop_take_one hi] at hb
        exact keyLits_one_inv h7 m hb
    · cases hr
  · rename_i n e hfs
    simp only [Bool.and_eq_true, beq_iff_eq] at hu
    obtain ⟨⟨rfl, h2⟩, h3⟩ := hu
    unfold Program.keyLits at hr
    rw [hfs] at hr
    simp only at hr
    split at hr
    · obtain ⟨r', hr', _⟩ := Option.map_eq_some_iff.1 hr
      obtain ⟨b, hb⟩ := mapM_inv _ _ hr' i i (by simp [hic])
      rw [h2, Nat.mul_one, drop_take_one hi] at hb
      exact keyLits_one_inv h3 m hb
    · cases hr
  · cases hu
theorem aggIB_wide (h : aggIB P k c = true) : (match P.underlying k with | some (.array _ _) | some (.struct _) => true | _ => false) = true := by
  unfold aggIB at h
  simp only [Bool.and_eq_true] at h
  obtain ⟨_, hu⟩ := h
  split at hu
  · rename_i h; rw [h]
  · rename_i h; rw [h]
  · cases hu
theorem keyOf_agg {v : Value} (h : aggIB P k c = true) : keyOf P k v = if v.formed P k then (P.keyLits (P.types.size + 1) k v.cells.toList).map fun ls => .string (keyBytes ls) else none := by
  have hw := aggIB_wide h
  unfold aggIB at h
  simp only [Bool.and_eq_true] at h
  obtain ⟨⟨⟨⟨_, _⟩, hk⟩, _⟩, _⟩ := h
  unfold keyOf
  rw [hk]
  split at hw <;> simp_all
theorem formed_agg {cs : Array Value} (h : aggIB P k c = true) : (Value.agg cs).formed P k = (cs.size == c) := by
  have hw := aggIB_wide h
  unfold aggIB at h
  simp only [Bool.and_eq_true, beq_iff_eq] at h
  obtain ⟨⟨⟨⟨_, _⟩, _⟩, hc⟩, _⟩ := h
  unfold Value.formed
  split at hw <;> simp_all
theorem formed_inv {v : Value} (h : aggIB P k c = true) (hv : v.formed P k = true) : ∃ cs : Array Value, v = .agg cs ∧ cs.size = c := by
  have hw := aggIB_wide h
  cases v with
  | agg cs => exact ⟨cs, rfl, by rw [formed_agg h] at hv; simpa using hv⟩
  | tuple _ => simp [Value.formed] at hv
  | _ => unfold Value.formed at hv; split at hw <;> simp_all
/-- Keys that are made of c ints. -/
def KE.aggI {α : Type} (hl : laidOutB P = true) (h : aggIB P k c = true) (enc : α → List Int) (hlen : ∀ x, (enc x).length = c) (hinj : ∀ x y, enc x = enc y → x = y) (hsur : ∀ l : List Int, l.length = c → ∃ x, enc x = l) : KE P k α where
  K x := .agg ((enc x).map (Value.int .i64)).toArray
  ok x := ∀ i ∈ enc x, fits .i64 i
  keyed := Keyed.of_law (deep_law_laid hl (m := P.types.size + 1) (by unfold aggIB at h; simp only [Bool.and_eq_true, decide_eq_true_eq] at h; have := h.1.1.1.1; omega) (by unfold aggIB at h; simp only [Bool.and_eq_true, decide_eq_true_eq] at h; exact h.1.1.1.2) (by unfold aggIB at h; simp only [Bool.and_eq_true, decide_eq_true_eq] at h; exact h.1.1.2) (aggIB_wide h))
  has x hx := by
    rw [keyOf_agg h, formed_agg h]
    have hs : P.types.size ≠ 0 := by
      unfold aggIB at h; simp only [Bool.and_eq_true, decide_eq_true_eq] at h; exact Nat.ne_of_gt (Nat.lt_of_le_of_lt (Nat.zero_le _) h.1.1.1.2)
    obtain ⟨n, hn⟩ := Nat.exists_eq_succ_of_ne_zero hs
    obtain ⟨r, hr⟩ := keyLits_agg h n (hlen x) hx
    simp only [List.size_toArray, List.length_map, hlen, beq_self_eq_true, if_true, hn, Value.cells]
    rw [show n.succ + 1 = n + 2 from rfl]
    exact ⟨_, by rw [hr]; rfl⟩
  inv v l hv := by
    rw [keyOf_agg h] at hv
    split at hv
    · rename_i hfm
      obtain ⟨cs, rfl, hcs⟩ := formed_inv h hfm
      obtain ⟨r, hr, _⟩ := Option.map_eq_some_iff.1 hv
      have hs : P.types.size ≠ 0 := by
        unfold aggIB at h; simp only [Bool.and_eq_true, decide_eq_true_eq] at h; exact Nat.ne_of_gt (Nat.lt_of_le_of_lt (Nat.zero_le _) h.1.1.1.2)
      obtain ⟨n, hn⟩ := Nat.exists_eq_succ_of_ne_zero hs
      rw [hn] at hr
      obtain ⟨li, h1, h2⟩ := keyLits_agg_inv h n (cs := cs.toList) (by simpa using hcs) hr
      obtain ⟨x, rfl⟩ := hsur li (by have := congrArg List.length h1; simp at this; omega)
      exact ⟨x, h2, by rw [← h1]⟩
    · cases hv
  inj x y hxy := by
    have h1 : ((enc x).map (Value.int .i64)).toArray = ((enc y).map (Value.int .i64)).toArray := by injection hxy
    have h2 : (enc x).map (Value.int .i64) = (enc y).map (Value.int .i64) := by simpa using congrArg Array.toList h1
    refine hinj x y ?_
    exact (List.map_inj_right (fun a b hab => by cases hab; rfl)).1 h2
def KE.two (hl : laidOutB P = true) (h : aggIB P k 2 = true) : KE P k (Int × Int) :=
  KE.aggI hl h (fun x => [x.1, x.2]) (fun _ => rfl) (fun x y h => by obtain ⟨a, b⟩ := x; obtain ⟨c, d⟩ := y; simp at h; simp [h]) (fun l hl => by
    match l, hl with
    | [a, b], _ => exact ⟨(a, b), rfl⟩)
def KE.three (hl : laidOutB P = true) (h : aggIB P k 3 = true) : KE P k (Int × Int × Int) :=
  KE.aggI hl h (fun x => [x.1, x.2.1, x.2.2]) (fun _ => rfl) (fun x y h => by obtain ⟨a, b, e⟩ := x; obtain ⟨c, d, f⟩ := y; simp at h; simp [h]) (fun l hl => by
    match l, hl with
    | [a, b, c], _ => exact ⟨(a, b, c), rfl⟩)
end
end Go.VC
