/- Many copies as one, the document's: where all lies. -/
import Derived.Test.YtnggjekppdlaoaaRegD1
import Derived.Test.YtnggjekppdlaoaaReg2
namespace Go.Proofs.Ytnggjekppdlaoaa
open Go Go.RowKit Go.VC
set_option linter.unusedSimpArgs false
set_option linter.unusedVariables false

/-- Records side by side. -/
def seqC (P : Nat → List Value) (k : Nat) : List Value := (List.range k).flatMap P
theorem seqC_succ (P : Nat → List Value) (k : Nat) : seqC P (k + 1) = seqC P k ++ P k := by
  unfold seqC; rw [List.range_succ, List.flatMap_append]; simp
theorem seqC_congr {P Q : Nat → List Value} {k : Nat} (h : ∀ i, i < k → P i = Q i) : seqC P k = seqC Q k := flatMap_same fun i hi => h i (List.mem_range.1 hi)
theorem seqC_length {P : Nat → List Value} {K : Nat} : ∀ {k : Nat}, (∀ i, i < k → (P i).length = K) → (seqC P k).length = k * K
  | 0, _ => by simp [seqC]
  | k + 1, h => by rw [seqC_succ, List.length_append, seqC_length (fun i hi => h i (by omega)), h k (by omega), Nat.succ_mul]
theorem seqC_at {P : Nat → List Value} {K i j : Nat} : ∀ {k : Nat}, (∀ i, i < k → (P i).length = K) → i < k → j < K → (seqC P k)[i * K + j]? = (P i)[j]?
  | 0, _, hi, _ => absurd hi (Nat.not_lt_zero i)
  | k + 1, h, hi, hj => by
    have hl := seqC_length (P := P) (K := K) (k := k) fun i hi => h i (by omega)
    rw [seqC_succ]
    by_cases e : i = k
    · subst e
      rw [List.getElem?_append_right (by rw [hl]; omega), hl, Nat.add_sub_cancel_left]
    · have h1 : (i + 1) * K ≤ k * K := Nat.mul_le_mul_right K (by omega)
      rw [Nat.succ_mul] at h1
      rw [List.getElem?_append_left (by rw [hl]; omega)]
      exact seqC_at (fun i hi => h i (by omega)) (by omega) hj
theorem seqC_set {P : Nat → List Value} {K i j : Nat} {v : Value} : ∀ {k : Nat}, (∀ i, i < k → (P i).length = K) → i < k → j < K → (seqC P k).set (i * K + j) v = seqC (upd P i ((P i).set j v)) k
  | 0, _, hi, _ => absurd hi (Nat.not_lt_zero i)
  | k + 1, h, hi, hj => by
    have hl := seqC_length (P := P) (K := K) (k := k) fun i hi => h i (by omega)
    rw [seqC_succ, seqC_succ]
    by_cases e : i = k
    · subst e
      rw [List.set_append_right _ _ (by rw [hl]; omega), hl, Nat.add_sub_cancel_left, upd_same]
      exact congrArg (· ++ _) (seqC_congr fun l hl => (upd_other (by omega)).symm)
    · have h1 : (i + 1) * K ≤ k * K := Nat.mul_le_mul_right K (by omega)
      rw [Nat.succ_mul] at h1
      rw [List.set_append_left _ _ (by rw [hl]; omega), upd_other (Ne.symm e)]
      exact congrArg (· ++ _) (seqC_set (fun i hi => h i (by omega)) (by omega) hj)
theorem len_upd {P : Nat → List Value} {K i k : Nat} {c : List Value} (h : ∀ i, i < k → (P i).length = K) (hc : c.length = K) : ∀ j, j < k → (upd P i c j).length = K := fun j hj => by
  unfold upd; split
  · exact hc
  · exact h j hj
theorem OwnK.cellS {w : World} {B : Nat} {e : TypeId} {K k g c : Nat} {P : Nat → List Value} (h : OwnK w B e K k (.slice (some ⟨g, 0, none⟩) k c) (seqC P k)) (hK : ∀ i, i < k → (P i).length = K) {i j : Nat} (hi : i < k) (hj : j < K) {v : Value} (hv : (P i)[j]? = some v) :
    w.cell? ⟨g, i * K + j, none⟩ = some v ∧ w.frozen? ⟨g, i * K + j, none⟩ = false := by
  have h1 : (i + 1) * K ≤ k * K := Nat.mul_le_mul_right K (by omega)
  rw [Nat.succ_mul] at h1
  have h2 := h.at (j := i * K + j) (by omega)
  rw [seqC_at hK hi hj, hv] at h2
  exact h2
/-- A field of one record of a slice is set. -/
theorem setSeq {B : Nat} {L : List Ob} {w : World} {e : TypeId} {K k g c : Nat} {P : Nat → List Value} (h : Hp B L w) (l : Nat) (hl : L[l]? = some (oOwn e K k (.slice (some ⟨g, 0, none⟩) k c) (seqC P k))) (hK : ∀ i, i < k → (P i).length = K) {i j : Nat} (hi : i < k) (hj : j < K) (v : Value) :
    St B L w (L.set l (oOwn e K k (.slice (some ⟨g, 0, none⟩) k c) (seqC (upd P i ((P i).set j v)) k))) (w.setCell ⟨g, i * K + j, none⟩ v) := by
  have := h.setOwn l hl (i * K + j) v
  rw [seqC_set hK hi hj] at this
  exact this

/-- A slice in a row of slices has grown. -/
theorem growRow {B : Nat} {L : List Ob} {w w' : World} (h : Hp B L w) (i j : Nat) {g n x : Nat} {P : Nat → List Value} {e : TypeId} {size m : Nat} {v : Value} {xs : List Value} (hi : L[i]? = some (oRecs g n 1 P)) (hj : L[j]? = some (oOwn e size m v xs)) (hij : i ≠ j)
    {m' : Nat} {v' : Value} {xs' : List Value} {B' : Nat} (ho : OwnK w' B' e size m' v' xs') (hg : w.grownBy w' v.ownBlock) (hs : Stays w v v') (hx : x < n) {u : Value} (hl : P x = [u]) :
    ((w'.cell? ⟨g, x, none⟩).isSome = true ∧ w'.frozen? ⟨g, x, none⟩ = false) ∧ St B L w ((L.set j (oOwn e size m' v' xs')).set i (oRecs g n 1 (upd P x [v']))) (w'.setCell ⟨g, x, none⟩ v') := by
  have h1 := h.grown j hj ho hg hs
  have hi' : (L.set j (oOwn e size m' v' xs'))[i]? = some (oRecs g n 1 P) := by rw [List.getElem?_set_ne (Ne.symm hij)]; exact hi
  have hr : Recs w' g n 1 P := h1.hp.get i hi'
  have hc := hr.at (i := x) (j := 0) (v := u) hx (by omega) (by rw [hl]; rfl)
  have hf := hr.soft (i := x) (j := 0) hx (by omega)
  have st := h1.hp.setRec (en := id) (P := P) i hi' hx (j := 0) (by omega) (by rw [hl]; rfl) (v := v') (p := [v']) (by rw [hl]; rfl)
  simp only [Nat.mul_one, Nat.add_zero] at hc hf st
  exact ⟨⟨by rw [hc]; rfl, hf⟩, h1.trans st⟩
/-- A slice in a field of a record has grown. -/
theorem growSeq {B : Nat} {L : List Ob} {w w' : World} (h : Hp B L w) (i j : Nat) {e0 : TypeId} {K k g c x y : Nat} {P : Nat → List Value} {e : TypeId} {size m : Nat} {v : Value} {xs : List Value} (hi : L[i]? = some (oOwn e0 K k (.slice (some ⟨g, 0, none⟩) k c) (seqC P k))) (hj : L[j]? = some (oOwn e size m v xs)) (hij : i ≠ j)
    {m' : Nat} {v' : Value} {xs' : List Value} {B' : Nat} (ho : OwnK w' B' e size m' v' xs') (hg : w.grownBy w' v.ownBlock) (hs : Stays w v v') (hK : ∀ i, i < k → (P i).length = K) (hx : x < k) (hy : y < K) {u : Value} (hu : (P x)[y]? = some u) :
    ((w'.cell? ⟨g, x * K + y, none⟩).isSome = true ∧ w'.frozen? ⟨g, x * K + y, none⟩ = false) ∧ St B L w ((L.set j (oOwn e size m' v' xs')).set i (oOwn e0 K k (.slice (some ⟨g, 0, none⟩) k c) (seqC (upd P x ((P x).set y v')) k))) (w'.setCell ⟨g, x * K + y, none⟩ v') := by
  have h1 := h.grown j hj ho hg hs
  have hi' : (L.set j (oOwn e size m' v' xs'))[i]? = some (oOwn e0 K k (.slice (some ⟨g, 0, none⟩) k c) (seqC P k)) := by rw [List.getElem?_set_ne (Ne.symm hij)]; exact hi
  have hr : OwnK w' 0 e0 K k (.slice (some ⟨g, 0, none⟩) k c) (seqC P k) := h1.hp.get i hi'
  obtain ⟨hc, hf⟩ := OwnK.cellS hr hK hx hy hu
  exact ⟨⟨by rw [hc]; rfl, hf⟩, h1.trans (setSeq h1.hp i hi' hK hx hy v')⟩

structure DA where
  mb : Nat
  gs : Nat
  sv : Nat → Value
  vo : Value
  vu : Value
  uv : Nat → Value
abbrev shelfC (n : Nat) (a : DA) : List Value := [.slice (some ⟨a.gs, 0, none⟩) n n, a.vo, a.vu]
abbrev unC (v : Value) (o : OpS) : List Value := [.int .i64 o.b.n, .int .i64 o.b.who, .int .i64 o.b.val, .int .i64 (if o.second = true then 2 else 1), v, .int .i64 0]
def stB (a : DA) (st : Nat → List Sto) (i : Nat) : Ob := oOwn 187 3 (st i).length (a.sv i) ((st i).flatMap stL)
abbrev snL (l : List Nat) : List Value := l.map fun x => .int .i64 (x : Nat)
def snB (a : DA) (sn : Nat → List Nat) (i : Nat) : Ob := oOwn 3 1 (sn i).length (a.uv i) (snL (sn i))
abbrev opsP (s : RS) (i : Nat) : List Value := apC (s.op i)
abbrev unsP (a : DA) (s : RS) (i : Nat) : List Value := unC (a.uv i) (s.op i)
abbrev DHead (n : Nat) (a : DA) (s : RS) : List Ob := [oBox a.mb (shelfC n a), oRecs a.gs n 1 (fun i => [a.sv i]), oOwn 145 6 s.k a.vo (seqC (opsP s) s.k), oOwn 189 6 s.k a.vu (seqC (unsP a s) s.k)]
def DObs (n : Nat) (a : DA) (s : RS) (st : Nat → List Sto) (sn : Nat → List Nat) : List Ob := DHead n a s ++ ((List.range n).map (stB a st) ++ (List.range s.k).map (snB a sn))
def dRest (n : Nat) (a : DA) (s : RS) (st : Nat → List Sto) (sn : Nat → List Nat) (x i : Nat) : List Ob := ((List.range n).erase x).map (stB a st) ++ ((List.range s.k).erase i).map (snB a sn)
/-- How things stand while copy x and op i are worked on. -/
abbrev DMid (n : Nat) (a : DA) (s : RS) (st : Nat → List Sto) (sn : Nat → List Nat) (x i : Nat) (v1 : Value) (l1 : List Sto) (co cu : List Value) (v2 : Value) (l2 : List Nat) : List Ob :=
  [oBox a.mb (shelfC n a), oRecs a.gs n 1 (upd (fun i => [a.sv i]) x [v1]), oOwn 145 6 s.k a.vo (seqC (upd (opsP s) i co) s.k), oOwn 189 6 s.k a.vu (seqC (upd (unsP a s) i cu) s.k),
    oOwn 187 3 l1.length v1 (l1.flatMap stL), oOwn 3 1 l2.length v2 (snL l2)] ++ dRest n a s st sn x i
theorem map_front {α β : Type} [BEq α] [LawfulBEq α] (f : α → β) {l : List α} {x : α} (hx : x ∈ l) : (l.map f).Perm (f x :: (l.erase x).map f) := (List.perm_cons_erase hx).map f
theorem perm_six {R S : List Ob} {o1 o2 : Ob} {H : List Ob} : (H ++ ((o1 :: R) ++ (o2 :: S))).Perm (H ++ [o1, o2] ++ (R ++ S)) := by
  rw [List.append_assoc]
  refine List.Perm.append_left H ?_
  show (o1 :: (R ++ o2 :: S)).Perm (o1 :: o2 :: (R ++ S))
  exact List.Perm.cons _ List.perm_middle
section
variable {n : Nat} {a : DA} {s : RS} {st : Nat → List Sto} {sn : Nat → List Nat}
theorem dmid_start {x i : Nat} (hx : x < n) (hi : i < s.k) : (DObs n a s st sn).Perm (DMid n a s st sn x i (a.sv x) (st x) (opsP s i) (unsP a s i) (a.uv i) (sn i)) := by
  unfold DMid
  have e : upd (fun i => [a.sv i]) x [a.sv x] = fun i => [a.sv i] := upd_self (fun i => [a.sv i]) x
  rw [e, upd_self (opsP s), upd_self (unsP a s)]
  exact (List.Perm.append_left (DHead n a s) ((map_front (stB a st) (List.mem_range.2 hx)).append (map_front (snB a sn) (List.mem_range.2 hi)))).trans perm_six
theorem dmid_end {x i : Nat} (hx : x < n) (hi : i < s.k) {v1 v2 : Value} {l1 : List Sto} {l2 : List Nat} {o' : OpS} {cp' : Nat → Sto} {now' : Nat → Option Nat} :
    (DMid n a s st sn x i v1 l1 (apC o') (unC v2 o') v2 l2).Perm (DObs n { a with sv := upd a.sv x v1, uv := upd a.uv i v2 } { s with cp := cp', op := upd s.op i o', now := now' } (upd st x l1) (upd sn i l2)) := by
  have h := dmid_start (n := n) (a := { a with sv := upd a.sv x v1, uv := upd a.uv i v2 }) (s := { s with cp := cp', op := upd s.op i o', now := now' }) (st := upd st x l1) (sn := upd sn i l2) hx hi
  have e0 : dRest n { a with sv := upd a.sv x v1, uv := upd a.uv i v2 } { s with cp := cp', op := upd s.op i o', now := now' } (upd st x l1) (upd sn i l2) x i = dRest n a s st sn x i := by
    unfold dRest
    refine congr (congrArg _ (List.map_congr_left fun j hj => ?_)) (List.map_congr_left fun j hj => ?_)
    · unfold stB; show oOwn _ 3 _ (upd a.sv x v1 j) _ = _; rw [upd_other (mem_rest hj).1, upd_other (f := a.sv) (mem_rest hj).1]
    · unfold snB; show oOwn _ 1 _ (upd a.uv i v2 j) _ = _; rw [upd_other (mem_rest hj).1, upd_other (f := a.uv) (mem_rest hj).1]
  have e1 : upd (fun j => [upd a.sv x v1 j]) x [upd a.sv x v1 x] = upd (fun j => [a.sv j]) x [v1] := by
    funext j; unfold upd; simp only [if_true]; split <;> rfl
  have e2 : upd (opsP { s with cp := cp', op := upd s.op i o', now := now' }) i (opsP { s with cp := cp', op := upd s.op i o', now := now' } i) = upd (opsP s) i (apC o') := by
    funext j; unfold upd opsP; simp only [if_true]; split <;> rfl
  have e3 : upd (unsP { a with sv := upd a.sv x v1, uv := upd a.uv i v2 } { s with cp := cp', op := upd s.op i o', now := now' }) i (unsP { a with sv := upd a.sv x v1, uv := upd a.uv i v2 } { s with cp := cp', op := upd s.op i o', now := now' } i) = upd (unsP a s) i (unC v2 o') := by
    funext j; unfold upd unsP; simp only [if_true]; split <;> rfl
  unfold DMid at h
  rw [e0, e1, e2, e3] at h
  simp only [upd_same] at h
  exact h.symm
end
def DPost (B n t : Nat) (a : DA) (s : RS) (st : Nat → List Sto) (sn : Nat → List Nat) (w : World) (r : Int × RS) (e : Ending) (w' : World) : Prop :=
  e = .returned (.int .i64 r.1) ∧ ∃ a' st' sn', a'.mb = a.mb ∧ St B (DObs n a s st sn) w (DObs n a' r.2 st' sn') w' ∧ DRel (t + 1) r.2 st' sn'
section
variable {B n t : Nat} {a : DA} {s : RS} {st : Nat → List Sto} {sn : Nat → List Nat} {w : World}
theorem DPost.same (h : Hp B (DObs n a s st sn) w) (hd : DRel t s st sn) {w' : World} (hB : Below w.heap.size w w') {x : Int} {r : Int × RS} (hr : r = (x, s)) : DPost B n t a s st sn w r (.returned (.int .i64 x)) w' := by
  subst hr
  exact ⟨rfl, a, st, sn, rfl, h.below_st hB, hd.up⟩
theorem DPost.lift {w2 w' : World} {r : Int × RS} {e : Ending} (h : Hp B (DObs n a s st sn) w) (hB : Below w.heap.size w w2) (k : DPost B n t a s st sn w2 r e w') : DPost B n t a s st sn w r e w' := by
  obtain ⟨h1, a', st', sn', h2, h3, h4⟩ := k
  exact ⟨h1, a', st', sn', h2, (h.below_st hB).trans h3, h4⟩
theorem DPost.mid {x i : Nat} (hx : x < n) (hi : i < s.k) {v1 v2 : Value} {l1 : List Sto} {l2 : List Nat} {o' : OpS} {cp' : Nat → Sto} {now' : Nat → Option Nat} {w' : World} {r : Int × RS}
    (h : St B (DMid n a s st sn x i (a.sv x) (st x) (opsP s i) (unsP a s i) (a.uv i) (sn i)) w (DMid n a s st sn x i v1 l1 (apC o') (unC v2 o') v2 l2) w')
    (hr : r = (0, { s with cp := cp', op := upd s.op i o', now := now' })) (hd : DRel (t + 1) r.2 (upd st x l1) (upd sn i l2)) : DPost B n t a s st sn w r (.returned (.int .i64 0)) w' := by
  subst hr
  exact ⟨rfl, { a with sv := upd a.sv x v1, uv := upd a.uv i v2 }, _, _, rfl, h.perm (dmid_start hx hi).symm (dmid_end hx hi), hd⟩
end
end Go.Proofs.Ytnggjekppdlaoaa
