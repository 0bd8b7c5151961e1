/- A picture of what moves, the document's: what lies in memory. -/
import Derived.Test.YtelfmhiaafkimaaSnap8
namespace Go.Proofs.Ytelfmhiaafkimaa
open Go Go.RowKit Go.VC
set_option linter.unusedSimpArgs false
set_option linter.unusedVariables false
structure DA where
  ob : Nat
  gm : Nat
  cm : Nat
  go : Nat
  co : Nat
  gl : Nat
/-- The document's state, ways by their number. -/
structure DP where
  money : Nat → Int
  own : Nat → Int
  lt : Nat → Lin
def dOf (n : Nat) (s : SnS) : DP := ⟨s.money, s.own, fun t => s.ln (t / n) (t % n)⟩
abbrev linL (lt : Nat → Lin) (sv : Nat → Value) (t : Nat) : List Value := [sv t, iV ((lt t).come : Nat), iV ((lt t).noted : Nat)]
noncomputable abbrev senF (lt : Nat → Lin) (sv : Nat → Value) (t : Nat) : Ob := oOwn 3 1 (lt t).sent.length (sv t) ((lt t).sent.map iV)
noncomputable abbrev headD (n : Nat) (a : DA) (p : DP) (sv : Nat → Value) (vc bv : Value) (dn : Bool) : List Ob := [oBox a.ob [vc, .slice (some ⟨a.gm, 0, none⟩) n a.cm, .slice (some ⟨a.go, 0, none⟩) n a.co, bv, .bool dn], oBox a.gm ((List.range n).map fun i => iV (p.money i)), oBox a.go ((List.range n).map fun i => iV (p.own i)), oRecs a.gl (n * n) 3 (linL p.lt sv)]
noncomputable abbrev DObs (n : Nat) (a : DA) (p : DP) (sv : Nat → Value) (vc bv : Value) (dn : Bool) : List Ob := headD n a p sv vc bv dn ++ fam (n * n) (senF p.lt sv)
structure DEq (n : Nat) (p p' : DP) : Prop where
  money : p.money = p'.money
  own : p.own = p'.own
  lt : ∀ t, t < n * n → p.lt t = p'.lt t
theorem upd_iV (f : Nat → Int) (i : Nat) (x : Int) : upd (fun k => iV (f k)) i (iV x) = fun k => iV (upd f i x k) := by
  funext k
  by_cases e : k = i
  · subst e; rw [upd_same, upd_same]
  · rw [upd_other e, upd_other e]
section
variable {B n t : Nat} {a : DA} {p : DP} {sv : Nat → Value} {vc bv : Value} {dn : Bool} {w w' : World}
theorem recs_congr {g n K : Nat} {P P' : Nat → List Value} (h : ∀ i, i < n → P i = P' i) {B : Nat} {L R : List Ob} (hL : Hp B (L ++ (oRecs g n K P :: R)) w) : Hp B (L ++ (oRecs g n K P' :: R)) w := by
  have hi : (L ++ (oRecs g n K P :: R))[L.length]? = some (oRecs g n K P) := by rw [List.getElem?_append_right (Nat.le_refl _), Nat.sub_self]; rfl
  have hr : Recs w g n K P := hL.get _ hi
  have := hL.reword L.length hi (o' := oRecs g n K P') ⟨hr.1, fun i hin j hj => by rw [← h i hin]; exact hr.2 i hin j hj⟩ rfl
  rwa [List.set_append_right _ _ (Nat.le_refl _), Nat.sub_self] at this
/-- Only the ways that there are count. -/
theorem DEq.hp {p' : DP} (h : DEq n p p') (hH : Hp B (DObs n a p sv vc bv dn) w) : Hp B (DObs n a p' sv vc bv dn) w := by
  obtain ⟨m, o, l⟩ := p
  obtain ⟨m', o', l'⟩ := p'
  have h1 := h.money
  have h2 := h.own
  have h3 := h.lt
  simp only at h1 h2 h3
  subst h1; subst h2
  have hf : fam (n * n) (senF l sv) = fam (n * n) (senF l' sv) := fam_congr fun t ht => by unfold senF; rw [h3 t ht]
  show Hp B ([_, _, _] ++ (oRecs a.gl (n * n) 3 (linL l' sv) :: fam (n * n) (senF l' sv))) w
  rw [← hf]
  exact recs_congr (P := linL l sv) (fun i hi => by unfold linL; rw [h3 i hi]) hH
theorem DObs.pay (h : Hp B (DObs n a p sv vc bv dn) w) {i : Nat} (hi : i < n) (x : Int) : St B (DObs n a p sv vc bv dn) w (DObs n a { p with money := upd p.money i x } sv vc bv dn) (w.setCell ⟨a.gm, i, none⟩ (iV x)) := by
  have := h.setBox 1 rfl i (iV x)
  rw [map_set hi, upd_iV] at this
  exact this
theorem DObs.mine (h : Hp B (DObs n a p sv vc bv dn) w) {i : Nat} (hi : i < n) (x : Int) : St B (DObs n a p sv vc bv dn) w (DObs n a { p with own := upd p.own i x } sv vc bv dn) (w.setCell ⟨a.go, i, none⟩ (iV x)) := by
  have := h.setBox 2 rfl i (iV x)
  rw [map_set hi, upd_iV] at this
  exact this
theorem linL_upd {l' : Lin} {u : List Value} (hu : u = [sv t, iV (l'.come : Nat), iV (l'.noted : Nat)]) : (fun x => id (upd (linL p.lt sv) t u x)) = linL (upd p.lt t l') sv := by
  funext x
  show upd (linL p.lt sv) t u x = linL (upd p.lt t l') sv x
  by_cases e : x = t
  · subst e; rw [upd_same, hu]; unfold linL; rw [upd_same]
  · rw [upd_other e]; unfold linL; rw [upd_other e]
theorem DObs.line (h : Hp B (DObs n a p sv vc bv dn) w) (ht : t < n * n) {j : Nat} (hj : j < 3) {u : Value} {l' : Lin} (hs : (linL p.lt sv t).set j u = [sv t, iV (l'.come : Nat), iV (l'.noted : Nat)]) (hsent : l'.sent = (p.lt t).sent) :
    St B (DObs n a p sv vc bv dn) w (DObs n a { p with lt := upd p.lt t l' } sv vc bv dn) (w.setCell ⟨a.gl, t * 3 + j, none⟩ u) := by
  have := h.setRec (en := id) (P := linL p.lt sv) 3 rfl ht hj rfl (v := u) (p := (linL p.lt sv t).set j u) rfl
  rw [linL_upd hs] at this
  have hf : fam (n * n) (senF p.lt sv) = fam (n * n) (senF (upd p.lt t l') sv) := fam_congr fun i hi => by
    unfold senF
    by_cases e : i = t
    · subst e; rw [upd_same, hsent]
    · rw [upd_other e]
  show St B (DObs n a p sv vc bv dn) w ([_, _, _, _] ++ fam (n * n) (senF (upd p.lt t l') sv)) _
  rw [← hf]
  exact this
theorem DObs.get (h : Hp B (DObs n a p sv vc bv dn) w) (ht : t < n * n) : OwnK w 0 3 1 (p.lt t).sent.length (sv t) ((p.lt t).sent.map iV) := by
  have h' : Hp B (headD n a p sv vc bv dn ++ (fam (n * n) (senF p.lt sv) ++ [])) w := by rw [List.append_nil]; exact h
  exact h'.fget ht
theorem DObs.fs (ht : t < n * n) {g : Nat} (hg : (sv t).ownBlock = some g) : foot (DObs n a p sv vc bv dn) g := by
  have := foot_at (fam_at (L := headD n a p sv vc bv dn) (R := []) (F := senF p.lt sv) ht) hg
  rw [List.append_nil] at this
  exact this
/-- One more was sent on a way. -/
theorem DObs.sent (h : Hp B (DObs n a p sv vc bv dn) w) (ht : t < n * n) {x : Int} {v7 : Value} {B' : Nat} (ho : OwnK w' B' 3 1 ((p.lt t).sent ++ [x]).length v7 (((p.lt t).sent ++ [x]).map iV)) (hg : w.grownBy w' (sv t).ownBlock) (hs : Stays w (sv t) v7) :
    ((w'.cell? ⟨a.gl, t * 3, none⟩).isSome = true ∧ w'.frozen? ⟨a.gl, t * 3, none⟩ = false) ∧ St B (DObs n a p sv vc bv dn) w (DObs n a { p with lt := upd p.lt t { p.lt t with sent := (p.lt t).sent ++ [x] } } (upd sv t v7) vc bv dn) (w'.setCell ⟨a.gl, t * 3, none⟩ v7) := by
  have h' : Hp B (headD n a p sv vc bv dn ++ (fam (n * n) (senF p.lt sv) ++ [])) w := by rw [List.append_nil]; exact h
  have s1 := h'.fst ht (o' := oOwn 3 1 ((p.lt t).sent ++ [x]).length v7 (((p.lt t).sent ++ [x]).map iV)) (ho.mono (Nat.zero_le _)) (Agree.grown hg fun k hk => hk) (hs.imp id fun ⟨g, h1, h2⟩ => fun g' h3 => by rw [show (oOwn 3 1 ((p.lt t).sent ++ [x]).length v7 (((p.lt t).sent ++ [x]).map iV)).blk = v7.ownBlock from rfl, h1] at h3; cases h3; exact h2)
  rw [fam_turn (G := senF (upd p.lt t { p.lt t with sent := (p.lt t).sent ++ [x] }) (upd sv t v7)) (by show oOwn 3 1 (upd p.lt t { p.lt t with sent := (p.lt t).sent ++ [x] } t).sent.length (upd sv t v7 t) ((upd p.lt t { p.lt t with sent := (p.lt t).sent ++ [x] } t).sent.map iV) = _; rw [upd_same, upd_same]) (fun i _ hi => by show oOwn 3 1 (upd p.lt t _ i).sent.length (upd sv t v7 i) ((upd p.lt t _ i).sent.map iV) = _; rw [upd_other hi, upd_other hi])] at s1
  rw [List.append_nil, List.append_nil] at s1
  have hr : Recs w' a.gl (n * n) 3 (linL p.lt sv) := s1.hp.get 3 rfl
  have c0 := hr.at ht (j := 0) (by omega) rfl
  have d0 := hr.soft ht (j := 0) (by omega)
  rw [Nat.add_zero] at c0 d0
  refine ⟨⟨by rw [c0]; rfl, d0⟩, ?_⟩
  have s2 := s1.hp.setRec (en := id) (P := linL p.lt sv) 3 rfl ht (j := 0) (by omega) rfl (v := v7) (p := [v7, iV ((p.lt t).come : Nat), iV ((p.lt t).noted : Nat)]) rfl
  have e : (fun x => id (upd (linL p.lt sv) t [v7, iV ((p.lt t).come : Nat), iV ((p.lt t).noted : Nat)] x)) = linL (upd p.lt t { p.lt t with sent := (p.lt t).sent ++ [x] }) (upd sv t v7) := by
    funext y
    show upd (linL p.lt sv) t [v7, iV ((p.lt t).come : Nat), iV ((p.lt t).noted : Nat)] y = linL (upd p.lt t { p.lt t with sent := (p.lt t).sent ++ [x] }) (upd sv t v7) y
    by_cases ey : y = t
    · subst ey; rw [upd_same]; unfold linL; rw [upd_same, upd_same]
    · rw [upd_other ey]; unfold linL; rw [upd_other ey, upd_other ey]
  rw [e, Nat.add_zero] at s2
  exact s1.trans s2
end
end Go.Proofs.Ytelfmhiaafkimaa
