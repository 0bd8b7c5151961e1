/- Transactions in an order: the maps of who must stand ahead. -/
import Derived.Test.YtelfmhiaafkimaaFamHp2
import Derived.Test.YtelfmhiaafkimaaMapR
import Derived.Test.YtelfmhiaafkimaaSerial1
import Derived.Test.YtelfmhiaafkimaaOrderPlain
namespace Go.Proofs.Ytelfmhiaafkimaa
open Go Go.RowKit Go.VC
set_option linter.unusedSimpArgs false
set_option linter.unusedVariables false
noncomputable abbrev EI : KE Try.prog 3 Int := KE.int (by kernel_rfl)
noncomputable abbrev dumO : Ob := oOwn 3 1 0 (.slice none 0 0) []
noncomputable def eO (p : Nat → Bool) (ib cn : Nat → Nat) (em : Nat → Int → Option Value) (t : Nat) : Ob := if p t = true then oMap EI (ib t) (cn t) (em t) else dumO
noncomputable def outM (p : Nat → Bool) (ib : Nat → Nat) : Int → Option Value := fun x => if (0 ≤ x ∧ x < 6) ∧ p x.toNat = true then some (.map (some (ib x.toNat))) else none
def b2n (b : Bool) : Nat := if b = true then 1 else 0
def cntP (p : Nat → Bool) : Nat := b2n (p 0) + b2n (p 1) + b2n (p 2) + b2n (p 3) + b2n (p 4) + b2n (p 5)
theorem cntP_upd (p : Nat → Bool) {t : Nat} (ht : t < 6) (b : Bool) : cntP (upd p t b) + b2n (p t) = cntP p + b2n b := by
  unfold cntP
  rcases (by omega : t = 0 ∨ t = 1 ∨ t = 2 ∨ t = 3 ∨ t = 4 ∨ t = 5) with rfl | rfl | rfl | rfl | rfl | rfl <;> simp [upd] <;> omega
theorem cntP_le (p : Nat → Bool) : cntP p ≤ 6 := by
  have h : ∀ b, b2n b ≤ 1 := fun b => by unfold b2n; split <;> omega
  have := h (p 0); have := h (p 1); have := h (p 2); have := h (p 3); have := h (p 4); have := h (p 5)
  unfold cntP; omega
theorem cntP_congr {p q : Nat → Bool} (h : ∀ t, t < 6 → p t = q t) : cntP p = cntP q := by
  unfold cntP
  rw [h 0 (by omega), h 1 (by omega), h 2 (by omega), h 3 (by omega), h 4 (by omega), h 5 (by omega)]
theorem outM_at {p : Nat → Bool} {ib : Nat → Nat} {t : Nat} (ht : t < 6) : outM p ib (t : Int) = if p t = true then some (.map (some (ib t))) else none := by
  unfold outM
  rw [Int.toNat_natCast]
  by_cases h : p t = true
  · rw [if_pos ⟨⟨by omega, by omega⟩, h⟩, if_pos h]
  · rw [if_neg (fun hh => h hh.2), if_neg h]
theorem outM_upd {p : Nat → Bool} {ib : Nat → Nat} {t nb : Nat} (ht : t < 6) : outM (upd p t true) (upd ib t nb) = updV (outM p ib) (t : Int) (.map (some nb)) := by
  funext x
  by_cases e : x = t
  · subst e; rw [updV_same, outM_at ht, upd_same, upd_same, if_pos rfl]
  · rw [updV_other e]
    unfold outM
    by_cases h : 0 ≤ x ∧ x < 6
    · have : x.toNat ≠ t := by omega
      rw [upd_other this, upd_other this]
    · rw [if_neg (fun hh => h hh.1), if_neg (fun hh => h hh.1)]
theorem outM_del {p : Nat → Bool} {ib : Nat → Nat} {t : Nat} (ht : t < 6) : outM (upd p t false) ib = delV (outM p ib) (t : Int) := by
  funext x
  by_cases e : x = t
  · subst e; rw [delV_same, outM_at ht, upd_same]; rfl
  · rw [delV_other e]
    unfold outM
    by_cases h : 0 ≤ x ∧ x < 6
    · have : x.toNat ≠ t := by omega
      rw [upd_other this]
    · rw [if_neg (fun hh => h hh.1), if_neg (fun hh => h hh.1)]
noncomputable abbrev MObs (p : Nat → Bool) (ib cn : Nat → Nat) (em : Nat → Int → Option Value) (mb : Nat) : List Ob := [oMap EI mb (cntP p) (outM p ib)] ++ (fam 6 (eO p ib cn em) ++ [])
section
variable {B mb t : Nat} {p : Nat → Bool} {ib cn : Nat → Nat} {em : Nat → Int → Option Value} {w w' : World}
theorem eO_on (hp : p t = true) : eO p ib cn em t = oMap EI (ib t) (cn t) (em t) := if_pos hp
theorem MObs.inn (h : Hp B (MObs p ib cn em mb) w) (ht : t < 6) (hp : p t = true) : MapV Try.prog EI w (ib t) (cn t) (em t) := by
  have := h.fget (L := [oMap EI mb (cntP p) (outM p ib)]) ht
  rw [eO_on hp] at this
  exact this
theorem MObs.out (h : Hp B (MObs p ib cn em mb) w) : MapV Try.prog EI w mb (cntP p) (outM p ib) := h.get 0 rfl
theorem MObs.turn (h : Hp B (MObs p ib cn em mb) w) (ht : t < 6) (hp : p t = true) {n' : Nat} {m' : Int → Option Value} (hM : MapV Try.prog EI w' (ib t) n' m') (hT : w.mapTurned w' (ib t)) :
    St B (MObs p ib cn em mb) w (MObs p ib (upd cn t n') (upd em t m') mb) w' := by
  have := h.fst (L := [oMap EI mb (cntP p) (outM p ib)]) ht (o' := oMap EI (ib t) n' m') hM (by rw [eO_on hp]; exact mapTurned_agree hT rfl) (Or.inl (by rw [eO_on hp]; rfl))
  have e : upd (eO p ib cn em) t (oMap EI (ib t) n' m') = eO p ib (upd cn t n') (upd em t m') := by
    funext i
    by_cases hi : i = t
    · subst hi; rw [upd_same, eO_on hp, upd_same, upd_same]
    · unfold eO; rw [upd_other hi, upd_other hi, upd_other hi]
  rw [e] at this
  exact this
theorem MObs.more (h : Hp B (MObs p ib cn em mb) w) (ht : t < 6) (hp : p t = false) {w1 : World} (hB : Below w.heap.size w w1) (hM1 : MapV Try.prog EI w1 w.heap.size 0 (fun _ => none)) (hM : MapV Try.prog EI w' mb (cntP p + 1) (updV (outM p ib) (t : Int) (.map (some w.heap.size)))) (hT : w1.mapTurned w' mb) :
    St B (MObs p ib cn em mb) w (MObs (upd p t true) (upd ib t w.heap.size) (upd cn t 0) (upd em t fun _ => none) mb) w' := by
  have s1 := h.fst (L := [oMap EI mb (cntP p) (outM p ib)]) ht (o' := oMap EI w.heap.size 0 (fun _ => none)) hM1 (Agree.of_below hB) (Or.inr fun g hg => by cases hg; exact Nat.le_refl _)
  have e : upd (eO p ib cn em) t (oMap EI w.heap.size 0 (fun _ => none)) = eO (upd p t true) (upd ib t w.heap.size) (upd cn t 0) (upd em t fun _ => none) := by
    funext i
    by_cases hi : i = t
    · subst hi; rw [upd_same, eO_on (upd_same ..), upd_same, upd_same, upd_same]
    · unfold eO; rw [upd_other hi, upd_other hi, upd_other hi, upd_other hi, upd_other hi]
  rw [e] at s1
  have hc := cntP_upd p ht true
  rw [hp] at hc
  have hc : cntP (upd p t true) = cntP p + 1 := hc
  have s2 := s1.hp.turned 0 rfl (n' := cntP p + 1) (m' := updV (outM p ib) (t : Int) (.map (some w.heap.size))) hM hT
  have s3 := s1.trans s2
  rw [← hc, ← outM_upd ht] at s3
  exact s3
theorem MObs.less (h : Hp B (MObs p ib cn em mb) w) (ht : t < 6) (hp : p t = true) (hM : MapV Try.prog EI w' mb (cntP p - 1) (delV (outM p ib) (t : Int))) (hT : w.mapTurned w' mb) :
    St B (MObs p ib cn em mb) w (MObs (upd p t false) ib cn em mb) w' := by
  have s1 := h.turned 0 rfl (n' := cntP p - 1) (m' := delV (outM p ib) (t : Int)) hM hT
  have s2 := Hp.fst (L := [oMap EI mb (cntP p - 1) (delV (outM p ib) (t : Int))]) (N := 6) (F := eO p ib cn em) (R := []) s1.hp ht (o' := dumO) (w' := w') (OwnK.nil _ _ _ _) (Agree.refl _ _) (Or.inr fun g hg => by cases hg)
  have e : upd (eO p ib cn em) t dumO = eO (upd p t false) ib cn em := by
    funext i
    by_cases hi : i = t
    · subst hi; rw [upd_same]; unfold eO; rw [upd_same]; rfl
    · unfold eO; rw [upd_other hi, upd_other hi]
  have hc := cntP_upd p ht false
  rw [hp] at hc
  have hc : cntP (upd p t false) + 1 = cntP p := hc
  rw [e] at s2
  have s3 := s1.trans s2
  rw [show cntP p - 1 = cntP (upd p t false) by omega, ← outM_del ht] at s3
  exact s3
end
/-- Who must stand ahead, within an act. -/
def edJ (K T I : Nat → Int) (k j : Nat) (t u : Int) : Bool := edgeB K T I k t u || (decide (T k = t) && (List.range j).any fun j => decide (T j = u) && clashB K T I j k)
theorem edJ_zero {K T I : Nat → Int} {k : Nat} {t u : Int} : edJ K T I k 0 t u = edgeB K T I k t u := by
  unfold edJ; rw [show (List.range 0).any (fun j => decide (T j = u) && clashB K T I j k) = false from rfl, Bool.and_false, Bool.or_false]
theorem edJ_all {K T I : Nat → Int} {k : Nat} {t u : Int} : edJ K T I k k t u = edgeB K T I (k + 1) t u := by
  unfold edJ edgeB
  rw [List.range_succ, List.any_append]
  simp
theorem edJ_succ {K T I : Nat → Int} {k j : Nat} {t u : Int} : edJ K T I k (j + 1) t u = (edJ K T I k j t u || (decide (T k = t) && (decide (T j = u) && clashB K T I j k))) := by
  unfold edJ
  rw [List.range_succ, List.any_append]
  simp only [List.any_cons, List.any_nil, Bool.or_false]
  cases edgeB K T I k t u <;> cases decide (T k = t) <;> simp
theorem presB_succ {T : Nat → Int} {k : Nat} {t : Int} : presB T (k + 1) t = (presB T k t || decide (T k = t)) := by
  unfold presB
  rw [List.range_succ, List.any_append]
  simp
theorem presB_none {T : Nat → Int} {k : Nat} {t : Int} (h : presB T k t = false) {K I : Nat → Int} {u : Int} : edgeB K T I k t u = false := by
  unfold presB at h
  unfold edgeB
  rw [List.any_eq_false] at h ⊢
  intro i hi hh
  rw [Bool.and_eq_true] at hh
  exact h i hi hh.1
end Go.Proofs.Ytelfmhiaafkimaa
