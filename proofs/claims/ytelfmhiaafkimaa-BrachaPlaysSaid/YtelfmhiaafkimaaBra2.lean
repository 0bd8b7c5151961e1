/- One word for all: a message comes. -/
import Derived.Test.YtelfmhiaafkimaaBra1
import Derived.Test.YtelfmhiaafkimaaAway
namespace Go.Proofs.Ytelfmhiaafkimaa
open Go Go.RowKit Go.VC
set_option linter.unusedSimpArgs false
set_option linter.unusedVariables false
section
variable {B n f liars sender : Nat} {a : BA} {s : BS} {va : Value} {w : World}
theorem BObs_congr {s s' : BS} (h1 : s'.all = s.all) (h2 : s'.started = s.started) (h3 : ∀ i, (∀ b, prL (s'.mi i) b = prL (s.mi i) b) ∧ (s'.mi i).cnt = (s.mi i).cnt) : BObs n f liars sender a s' va = BObs n f liars sender a s va := by
  have e1 : (fun x => prL (s'.mi x) (a.mb x)) = fun x => prL (s.mi x) (a.mb x) := by funext x; exact (h3 x).1 _
  have e2 : (fun x => oMap EF (a.mb x) (s'.mi x).cnt.length (heardM (s'.mi x).cnt)) = fun x => oMap EF (a.mb x) (s.mi x).cnt.length (heardM (s.mi x).cnt) := by funext x; rw [(h3 x).2]
  unfold BObs BHead
  rw [e2, e1, h1, h2]
/-- A message of the list is set. -/
theorem br_setAll (h : Hp B (BObs n f liars sender a s va) w) {k g c : Nat} (hk : k < s.all.length) (e : va = .slice (some ⟨g, 0, none⟩) s.all.length c) :
    St B (BObs n f liars sender a s va) w (BObs n f liars sender a { s with all := s.all.set k (arr (s.all.getD k note0)) } va) (w.setCell ⟨g, k * 5 + 4, none⟩ (.bool true)) := by
  subst e
  have st := h.setOwn 1 rfl (k * 5 + 4) (.bool true)
  have e1 : s.all.getD k note0 = s.all[k] := by simp [List.getD, hk]
  rw [flat_setK noteL_len hk (j := 4) (y := arr (s.all.getD k note0)) (by omega) (by rw [e1]; rfl)] at st
  have e2 : (s.all.set k (arr (s.all.getD k note0))).length = s.all.length := List.length_set ..
  unfold BObs BHead
  show St B (BObs n f liars sender a s (.slice (some ⟨g, 0, none⟩) s.all.length c)) w ((oBox a.wb (worldC n f liars sender a (.slice (some ⟨g, 0, none⟩) s.all.length c) s.started) :: oOwn 226 5 (s.all.set k (arr (s.all.getD k note0))).length (.slice (some ⟨g, 0, none⟩) s.all.length c) ((s.all.set k (arr (s.all.getD k note0))).flatMap noteL) :: _)) _
  rw [e2]
  exact st
/-- A field of one's record is set. -/
theorem br_setRec (h : Hp B (BObs n f liars sender a s va) w) {i j : Nat} (hi : i < n) (hj : j < 5) {M : MindS} {v : Value} (hM : prL M (a.mb i) = (prL (s.mi i) (a.mb i)).set j v) (hc : M.cnt = (s.mi i).cnt) :
    St B (BObs n f liars sender a s va) w (BObs n f liars sender a { s with mi := upd s.mi i M } va) (w.setCell ⟨a.pg, i * 5 + j, none⟩ v) := by
  have st := h.setRec (en := fun (x : MindS × Nat) => prL x.1 x.2) (P := fun i => (s.mi i, a.mb i)) 2 rfl hi hj rfl (v := v) (p := (M, a.mb i)) hM
  have e1 : (fun x => prL ((upd (fun i => (s.mi i, a.mb i)) i (M, a.mb i)) x).1 ((upd (fun i => (s.mi i, a.mb i)) i (M, a.mb i)) x).2) = fun x => prL (upd s.mi i M x) (a.mb x) := by
    funext x
    by_cases e : x = i
    · subst e; rw [upd_same, upd_same]
    · rw [upd_other e, upd_other e]
  have e2 : fam n (fun x => oMap EF (a.mb x) (upd s.mi i M x).cnt.length (heardM (upd s.mi i M x).cnt)) = fam n (fun x => oMap EF (a.mb x) (s.mi x).cnt.length (heardM (s.mi x).cnt)) := fam_congr fun x _ => by
    by_cases e : x = i
    · subst e; rw [upd_same, hc]
    · rw [upd_other e]
  unfold BObs BHead
  show St B (BObs n f liars sender a s va) w (oBox a.wb (worldC n f liars sender a va s.started) :: oOwn 226 5 s.all.length va (s.all.flatMap noteL) :: (oRecs a.pg n 5 fun x => prL (upd s.mi i M x) (a.mb x)) :: (fam n (fun x => oMap EF (a.mb x) (upd s.mi i M x).cnt.length (heardM (upd s.mi i M x).cnt)) ++ [])) _
  rw [e2, ← e1]
  exact st
/-- One's map has turned. -/
theorem br_setMap (h : Hp B (BObs n f liars sender a s va) w) {i : Nat} (hi : i < n) {M : MindS} {w' : World} (hM : ∀ mb, prL M mb = prL (s.mi i) mb) (ho : MapV Try.prog EF w' (a.mb i) M.cnt.length (heardM M.cnt)) (ht : w.mapTurned w' (a.mb i)) :
    St B (BObs n f liars sender a s va) w (BObs n f liars sender a { s with mi := upd s.mi i M } va) w' := by
  have st := Hp.fst (L := BHead n f liars sender a s va) (R := []) h hi (o' := oMap EF (a.mb i) M.cnt.length (heardM M.cnt)) (w' := w') ho (mapTurned_agree ht rfl) (Or.inl rfl)
  have e0 : fam n (upd (fun x => oMap EF (a.mb x) (s.mi x).cnt.length (heardM (s.mi x).cnt)) i (oMap EF (a.mb i) M.cnt.length (heardM M.cnt))) = fam n (fun x => oMap EF (a.mb x) (upd s.mi i M x).cnt.length (heardM (upd s.mi i M x).cnt)) := fam_congr fun x _ => by
    by_cases e : x = i
    · subst e; rw [upd_same, upd_same]
    · rw [upd_other e, upd_other e]
  rw [e0] at st
  have e1 : (fun x => prL (upd s.mi i M x) (a.mb x)) = fun x => prL (s.mi x) (a.mb x) := by
    funext x
    by_cases e : x = i
    · subst e; rw [upd_same, hM]
    · rw [upd_other e]
  unfold BObs BHead
  show St B (BObs n f liars sender a s va) w (oBox a.wb (worldC n f liars sender a va s.started) :: oOwn 226 5 s.all.length va (s.all.flatMap noteL) :: (oRecs a.pg n 5 fun x => prL (upd s.mi i M x) (a.mb x)) :: (fam n (fun x => oMap EF (a.mb x) (upd s.mi i M x).cnt.length (heardM (upd s.mi i M x).cnt)) ++ [])) _
  rw [e1]
  exact st
theorem heardM_known {l : List Note} {x : Note} : (heardM l (x.fr, x.what)).isSome = knownB l x := by unfold heardM; rw [Option.isSome_map, heardF_known]
theorem heardM_snoc {l : List Note} {x : Note} (h : knownB l x = false) : updV (heardM l) (x.fr, x.what) (iV x.n) = heardM (l ++ [x]) := by
  funext k
  unfold updV heardM
  rw [heardF_snoc h k]
  split <;> rfl
end
end Go.Proofs.Ytelfmhiaafkimaa
