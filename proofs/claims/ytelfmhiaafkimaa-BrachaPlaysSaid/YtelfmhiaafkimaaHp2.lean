/- Things apart: a whole record is stored; the order of the things is free. -/
import Derived.Test.YtelfmhiaafkimaaHp
set_option linter.unusedSimpArgs false
set_option linter.unusedVariables false
namespace Go.VC
open Go Go.RowKit
theorem foot_perm {L M : List Ob} (h : L.Perm M) {g : Nat} : foot L g ↔ foot M g := by
  unfold foot
  exact ⟨fun ⟨o, h1, h2⟩ => ⟨o, h.mem_iff.1 h1, h2⟩, fun ⟨o, h1, h2⟩ => ⟨o, h.mem_iff.2 h1, h2⟩⟩
theorem St.perm {B : Nat} {L L' M M' : List Ob} {w w' : World} (h : St B L w L' w') (p : L.Perm M) (p' : L'.Perm M') : St B M w M' w' :=
  ⟨h.1.perm p', h.2.mono fun g _ hg => (foot_perm p).1 hg, fun g hg => (h.3 g ((foot_perm p').2 hg)).imp_left fun h => (foot_perm p).1 h⟩
theorem stW_consO (w : World) (g o j : Nat) (v : Value) (vs : List Value) : stW w ⟨g, o, none⟩ j (v :: vs) = stW (w.setCell ⟨g, o + j, none⟩ v) ⟨g, o, none⟩ (j + 1) vs := by
  show stW (w.setCell ((⟨g, o, none⟩ : Addr).add j) v) _ _ _ = _
  rw [add_mk]
theorem stW_agreeO {X : Nat → Prop} {g o : Nat} (hg : X g) : ∀ (vs : List Value) (w : World) (i : Nat), Agree X w (stW w ⟨g, o, none⟩ i vs)
  | [], w, i => Agree.refl _ _
  | v :: vs, w, i => by rw [stW_consO]; exact (Agree.setCell w v (a := ⟨g, o + i, none⟩) hg).trans (stW_agreeO hg vs _ _)
theorem take_set_succ {α : Type} : ∀ (l : List α) (j : Nat) (v : α), j < l.length → (l.set j v).take (j + 1) = l.take j ++ [v]
  | [], j, v, h => absurd h (Nat.not_lt_zero j)
  | x :: l, 0, v, h => by simp
  | x :: l, j + 1, v, h => by
    rw [List.set_cons_succ, List.take_succ_cons, take_set_succ l j v (by simpa using h)]; rfl
theorem Recs.okAll {w : World} {g n K a : Nat} {P : Nat → List Value} (hr : Recs w g n K P) (ha : a < n) (hl : (P a).length = K) : ∀ (vs : List Value) (j : Nat), j + vs.length = K → (∀ v ∈ vs, v.oneCell' = true) → stOK w ⟨g, a * K, none⟩ j vs
  | [], _, _, _ => trivial
  | v :: vs, j, hj, h1 => by
    have hj' : j + (vs.length + 1) = K := hj
    have hget : w.cell? ⟨g, a * K + j, none⟩ = some ((P a)[j]'(by omega)) := hr.at ha (by omega) (List.getElem?_eq_getElem (by omega))
    show (w.cell? ((⟨g, a * K, none⟩ : Addr).add j)).isSome = true ∧ w.frozen? ((⟨g, a * K, none⟩ : Addr).add j) = false ∧ v.oneCell' = true ∧ stOK w _ _ _
    rw [add_mk]
    exact ⟨by rw [hget]; rfl, hr.soft ha (by omega), h1 v (by simp), hr.okAll ha hl vs (j + 1) (by omega) fun u hu => h1 u (by simp [hu])⟩
theorem Hp.recFrom {B i g n K a : Nat} (ha : a < n) : ∀ (vs : List Value) (w : World) (L : List Ob) (P : Nat → List Value) (j : Nat), Hp B L w → L[i]? = some (oRecs g n K P) → (P a).length = K → j + vs.length = K →
    St B L w (L.set i (oRecs g n K (upd P a ((P a).take j ++ vs)))) (stW w ⟨g, a * K, none⟩ j vs)
  | [], w, L, P, j, h, hi, hl, hj => by
    have hj : j = K := hj
    have e : L.set i (oRecs g n K (upd P a ((P a).take j ++ []))) = L := by
      rw [List.append_nil, hj, ← hl, List.take_length, upd_self]
      refine List.ext_getElem? fun k => ?_
      rw [List.getElem?_set]
      split
      · rename_i hk; subst hk
        split
        · rw [hi, hl]
        · rename_i h2; rw [List.getElem?_eq_none (Nat.le_of_not_lt h2)]
      · rfl
    rw [e]
    exact St.refl h
  | v :: vs, w, L, P, j, h, hi, hl, hj => by
    have hj' : j + (vs.length + 1) = K := hj
    have hlt : i < L.length := by
      rcases Nat.lt_or_ge i L.length with h' | h'
      · exact h'
      · rw [List.getElem?_eq_none h'] at hi; cases hi
    have st1 := h.setRec (en := id) (P := P) i hi ha (j := j) (by omega) hl (v := v) (p := (P a).set j v) rfl
    have hi1 : (L.set i (oRecs g n K fun x => id (upd P a ((P a).set j v) x)))[i]? = some (oRecs g n K (upd P a ((P a).set j v))) := by
      rw [List.getElem?_set_self hlt]; rfl
    have hl1 : (upd P a ((P a).set j v) a).length = K := by rw [upd_same, List.length_set]; exact hl
    have st2 := Hp.recFrom ha vs (w.setCell ⟨g, a * K + j, none⟩ v) _ _ (j + 1) st1.hp hi1 hl1 (by omega)
    rw [List.set_set, upd_upd, upd_same, take_set_succ _ _ _ (by omega), List.append_assoc] at st2
    rw [stW_consO]
    exact st1.trans st2
/-- A whole record is stored. -/
theorem Hp.recAll {B i g n K a : Nat} {w : World} {L : List Ob} {P : Nat → List Value} {vs : List Value} (h : Hp B L w) (hi : L[i]? = some (oRecs g n K P)) (ha : a < n) (hl : (P a).length = K) (hj : vs.length = K) (h1 : ∀ v ∈ vs, v.oneCell' = true) :
    stOK w ⟨g, a * K, none⟩ 0 vs ∧ St B L w (L.set i (oRecs g n K (upd P a vs))) (stW w ⟨g, a * K, none⟩ 0 vs) := by
  have st := Hp.recFrom ha vs w L P 0 h hi hl (by omega)
  rw [List.take_zero, List.nil_append] at st
  exact ⟨(h.get i hi : Recs w g n K P).okAll ha hl vs 0 (by omega) h1, st⟩
end Go.VC
