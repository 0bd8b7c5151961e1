/- One in at a time, the document's: what lies in memory. -/
import Derived.Test.YtelfmhiaafkimaaFa
import Derived.Test.YtelfmhiaafkimaaFamHp2
import Derived.Test.YtelfmhiaafkimaaTbl
import Derived.Test.YtelfmhiaafkimaaMx7
import Derived.Test.YtelfmhiaafkimaaMxD1
namespace Go.VC
open Go Go.RowKit
theorem flat_set {α : Type} {f : α → List Value} {K : Nat} (hK : ∀ x, (f x).length = K) : ∀ {l : List α} {i j : Nat} (hi : i < l.length) {v : Value} {y : α}, j < K → f y = (f l[i]).set j v → (l.flatMap f).set (i * K + j) v = (l.set i y).flatMap f
  | [], i, j, hi, _, _, _, _ => absurd hi (Nat.not_lt_zero i)
  | x :: l, 0, j, hi, v, y, hj, h => by
    have h : f y = (f x).set j v := h
    rw [List.set_cons_zero, List.flatMap_cons, List.flatMap_cons, h, Nat.zero_mul, Nat.zero_add, List.set_append_left _ _ (by rw [hK]; exact hj)]
  | x :: l, i + 1, j, hi, v, y, hj, h => by
    rw [List.set_cons_succ, List.flatMap_cons, List.flatMap_cons, List.set_append_right _ _ (by rw [hK, Nat.succ_mul]; omega), hK, show (i + 1) * K + j - K = i * K + j by rw [Nat.succ_mul]; omega]
    exact congrArg _ (flat_set hK (Nat.lt_of_succ_lt_succ hi) hj h)
end Go.VC
namespace Go.Proofs.Ytelfmhiaafkimaa
open Go Go.RowKit Go.VC
set_option linter.unusedSimpArgs false
set_option linter.unusedVariables false
theorem mst_nd {n : Nat} (f : Nat → MoveC) : ∀ k, NoDoor n (mst n f k)
  | 0 => fun i hh => by have h2 : (0 : Int) = 1 := hh.1; omega
  | k + 1 => noDoor_step (mst_nd f k)
abbrev apL (p : MP) (wv : Value) : List Value := [iV p.n, iV p.how, iV p.key, iV p.yes, wv]
abbrev ltL (x : Letter) : List Value := [iV x.fr, iV x.to, iV x.what, .bool x.come]
structure DX where
  n : Nat
  gl : Nat
  ob : Nat
  rb : Nat
structure DV where
  vi : Value
  pv : Value
  wv : Nat → Value
noncomputable abbrev dWaits (n : Nat) (pr : Nat → MP) (wv : Nat → Value) : List Ob := fam n fun i => oOwn 3 1 (pr i).waits.length (wv i) (natL (pr i).waits)
noncomputable abbrev DAll (d : DX) (k : Nat) (codes : List Value) (vc : Value) (s : MxS) (P : List Letter) (v : DV) : List Ob :=
  [oBox d.ob [vc, v.vi, nilS, iV 0], oOwn 24 1 k vc codes, oOwn 3 1 s.inn.length v.vi (natL s.inn), oBox d.rb [nilS, nilS, nilS, iV 0], oRecs d.gl d.n 5 (fun i => apL (s.pr i) (v.wv i)), oOwn 200 4 P.length v.pv (P.flatMap ltL)] ++ dWaits d.n s.pr v.wv
section
variable {B k : Nat} {d : DX} {codes : List Value} {vc : Value} {s : MxS} {P : List Letter} {v : DV} {w w' : World}
theorem dWaits_at {L : List Ob} {n i : Nat} {pr : Nat → MP} {wv : Nat → Value} (h : Hp B (L ++ dWaits n pr wv) w) (hi : i < n) : OwnK w 0 3 1 (pr i).waits.length (wv i) (natL (pr i).waits) := by
  have h2 : Hp B (L ++ (dWaits n pr wv ++ [])) w := by rw [List.append_nil]; exact h
  exact h2.fget hi
theorem dWaits_same {n : Nat} {pr pr' : Nat → MP} {wv : Nat → Value} (h : ∀ i, i < n → (pr' i).waits = (pr i).waits) : dWaits n pr' wv = dWaits n pr wv := fam_congr fun i hi => by rw [h i hi]
/-- A field of a process is set. -/
theorem DAll.field (h : Hp B (DAll d k codes vc s P v) w) {x j : Nat} (hx : x < d.n) (hj : j < 5) (u : Value) (p' : MP) (hp : apL p' (v.wv x) = (apL (s.pr x) (v.wv x)).set j u) (hw : p'.waits = (s.pr x).waits) :
    St B (DAll d k codes vc s P v) w (DAll d k codes vc { s with pr := upd s.pr x p' } P v) (w.setCell ⟨d.gl, x * 5 + j, none⟩ u) := by
  have hR : Recs w d.gl d.n 5 (fun i => apL (s.pr i) (v.wv i)) := h.get 4 rfl
  have h1 := hR.set hx hj rfl u
  have e1 : upd (fun i => apL (s.pr i) (v.wv i)) x ((apL (s.pr x) (v.wv x)).set j u) = fun i => apL (upd s.pr x p' i) (v.wv i) := by
    funext i
    by_cases e : i = x
    · subst e; rw [upd_same, upd_same, hp]
    · rw [upd_other e, upd_other e]
  rw [e1] at h1
  have st := h.st 4 rfl (o' := oRecs d.gl d.n 5 fun i => apL (upd s.pr x p' i) (v.wv i)) h1 (Agree.setCell w u rfl) (Or.inl rfl)
  have e2 : dWaits d.n (upd s.pr x p') v.wv = dWaits d.n s.pr v.wv := dWaits_same fun i _ => by
    by_cases e : i = x
    · subst e; rw [upd_same, hw]
    · rw [upd_other e]
  unfold DAll
  rw [e2]
  exact st
/-- A letter more. -/
theorem DAll.letter (h : Hp B (DAll d k codes vc s P v) w) {v' : Value} {x : Letter} {B' : Nat} (ho : OwnK w' B' 200 4 (P.length + 1) v' (P.flatMap ltL ++ ltL x)) (hg : w.grownBy w' v.pv.ownBlock) (hs : Stays w v.pv v') :
    St B (DAll d k codes vc s P v) w (DAll d k codes vc s (P ++ [x]) { v with pv := v' }) w' := by
  have e : (P ++ [x]).flatMap ltL = P.flatMap ltL ++ ltL x := by rw [List.flatMap_append]; simp
  have e2 : (P ++ [x]).length = P.length + 1 := by simp
  have st := h.grown 5 rfl ho hg hs
  unfold DAll
  rw [e, e2]
  exact st
/-- A letter has come. -/
theorem DAll.come (h : Hp B (DAll d k codes vc s P v) w) {t g c : Nat} (hv : v.pv = .slice (some ⟨g, 0, none⟩) P.length c) (ht : t < P.length) :
    St B (DAll d k codes vc s P v) w (DAll d k codes vc s (P.set t (comeL P[t])) v) (w.setCell ⟨g, t * 4 + 3, none⟩ (.bool true)) := by
  have h2 : Hp B ([oBox d.ob [vc, v.vi, nilS, iV 0], oOwn 24 1 k vc codes, oOwn 3 1 s.inn.length v.vi (natL s.inn), oBox d.rb [nilS, nilS, nilS, iV 0], oRecs d.gl d.n 5 (fun i => apL (s.pr i) (v.wv i)), oOwn 200 4 P.length (.slice (some ⟨g, 0, none⟩) P.length c) (P.flatMap ltL)] ++ dWaits d.n s.pr v.wv) w := by rw [← hv]; exact h
  have st := h2.setOwn 5 rfl (t * 4 + 3) (.bool true)
  rw [flat_set (f := ltL) (K := 4) (j := 3) (v := .bool true) (fun _ => rfl) (y := comeL P[t]) ht (by omega) rfl] at st
  unfold DAll
  rw [List.length_set, hv]
  exact st
/-- Who waits has grown, or is emptied: another slice in the field. -/
theorem DAll.waits (h : Hp B (DAll d k codes vc s P v) w) {x : Nat} (hx : x < d.n) (l : List Nat) {v' : Value} {B' : Nat} (ho : OwnK w' B' 3 1 l.length v' (natL l)) (hg : w.grownBy w' (v.wv x).ownBlock) (hs : Stays w (v.wv x) v') :
    ((w'.cell? ⟨d.gl, x * 5 + 4, none⟩).isSome = true ∧ w'.frozen? ⟨d.gl, x * 5 + 4, none⟩ = false) ∧
    St B (DAll d k codes vc s P v) w (DAll d k codes vc { s with pr := upd s.pr x { s.pr x with waits := l } } P { v with wv := upd v.wv x v' }) (w'.setCell ⟨d.gl, x * 5 + 4, none⟩ v') := by
  obtain ⟨L6, hL6⟩ : ∃ L6, L6 = [oBox d.ob [vc, v.vi, nilS, iV 0], oOwn 24 1 k vc codes, oOwn 3 1 s.inn.length v.vi (natL s.inn), oBox d.rb [nilS, nilS, nilS, iV 0], oRecs d.gl d.n 5 (fun i => apL (s.pr i) (v.wv i)), oOwn 200 4 P.length v.pv (P.flatMap ltL)] := ⟨_, rfl⟩
  have h2 : Hp B (L6 ++ (fam d.n (fun i => oOwn 3 1 ((fun i => (s.pr i).waits.length) i) (v.wv i) ((fun i => natL (s.pr i).waits) i)) ++ [])) w := by rw [List.append_nil, hL6]; exact h
  have st1 := h2.fown (e := 3) (ns := fun i => (s.pr i).waits.length) (vs := v.wv) (xs := fun i => natL (s.pr i).waits) hx ho hg hs
  have e1 : fam d.n (fun i => oOwn 3 1 (upd (fun i => (s.pr i).waits.length) x l.length i) (upd v.wv x v' i) (upd (fun i => natL (s.pr i).waits) x (natL l) i)) = dWaits d.n (upd s.pr x { s.pr x with waits := l }) (upd v.wv x v') := fam_congr fun i _ => by
    by_cases e : i = x
    · subst e; simp only [upd_same]
    · simp only [upd_other e]
  rw [e1, List.append_nil, List.append_nil] at st1
  subst hL6
  have hR : Recs w' d.gl d.n 5 (fun i => apL (s.pr i) (v.wv i)) := st1.hp.get 4 rfl
  have h1 := hR.set hx (show 4 < 5 by omega) rfl v'
  have e2 : upd (fun i => apL (s.pr i) (v.wv i)) x ((apL (s.pr x) (v.wv x)).set 4 v') = fun i => apL (upd s.pr x { s.pr x with waits := l } i) (upd v.wv x v' i) := by
    funext i
    by_cases e : i = x
    · subst e; rw [upd_same, upd_same, upd_same]; rfl
    · rw [upd_other e, upd_other e, upd_other e]
  rw [e2] at h1
  refine ⟨⟨by rw [hR.at hx (show 4 < 5 by omega) rfl]; rfl, hR.soft hx (by omega)⟩, st1.trans ?_⟩
  exact st1.hp.st 4 rfl (o' := oRecs d.gl d.n 5 fun i => apL (upd s.pr x { s.pr x with waits := l } i) (upd v.wv x v' i)) h1 (Agree.setCell w' v' rfl) (Or.inl rfl)
/-- One more is in. -/
theorem DAll.enters (h : Hp B (DAll d k codes vc s P v) w) {v' : Value} {x B' : Nat} (ho : OwnK w' B' 3 1 (s.inn.length + 1) v' (natL s.inn ++ [iV x])) (hg : w.grownBy w' v.vi.ownBlock) (hs : Stays w v.vi v') :
    ((w'.cell? ⟨d.ob, 1, none⟩).isSome = true ∧ w'.frozen? ⟨d.ob, 1, none⟩ = false) ∧ St B (DAll d k codes vc s P v) w (DAll d k codes vc { s with inn := s.inn ++ [x] } P { v with vi := v' }) (w'.setCell ⟨d.ob, 1, none⟩ v') := by
  have h1 := h.growField 0 2 rfl rfl (by decide) ho hg hs 1 (by show 1 < 4; omega)
  have e : natL (s.inn ++ [x]) = natL s.inn ++ [iV x] := List.map_append
  have e2 : (s.inn ++ [x]).length = s.inn.length + 1 := by simp
  refine ⟨h1.1, ?_⟩
  unfold DAll
  rw [e, e2]
  exact h1.2
end
end Go.Proofs.Ytelfmhiaafkimaa
