/- Mends keep what they shall. Plain. -/
import Derived.Test.YtdcjacloejhmlaaCuts4
namespace Go.Proofs.Ytdcjacloejhmlaa
open Go Go.RowKit Go.VC
set_option linter.unusedSimpArgs false
set_option linter.unusedVariables false

theorem sum_le {f g : Nat → Nat} : ∀ n, (∀ p, p < n → f p ≤ g p) → ((List.range n).map f).sum ≤ ((List.range n).map g).sum
  | 0, _ => Nat.le_refl _
  | n + 1, h => by
    rw [List.range_succ, List.map_append, List.map_append, List.sum_append, List.sum_append]
    have := sum_le n fun p hp => h p (by omega)
    have := h n (by omega)
    simp; omega
theorem sum_lt {f g : Nat → Nat} : ∀ n, (∀ p, p < n → f p ≤ g p) → (∃ p, p < n ∧ f p < g p) → ((List.range n).map f).sum < ((List.range n).map g).sum
  | 0, _, ⟨p, hp, _⟩ => absurd hp (by omega)
  | n + 1, h, ⟨p, hp, hlt⟩ => by
    rw [List.range_succ, List.map_append, List.map_append, List.sum_append, List.sum_append]
    have h1 := sum_le n fun p hp => h p (by omega)
    have h2 := h n (by omega)
    by_cases hpn : p = n
    · subst hpn; simp; omega
    · have h3 := sum_lt n (fun p hp => h p (by omega)) ⟨p, by omega, hlt⟩
      simp; omega
theorem getD_upd {ds : List Int} {q p : Nat} {v : Int} (hq : q < ds.length) : (ds.set q v).getD p 0 = if p = q then v else ds.getD p 0 := by
  by_cases h : q = p
  · subst h; simp [List.getD_eq_getElem?_getD, hq]
  · rw [if_neg fun e => h e.symm]; simp [List.getD_eq_getElem?_getD, List.getElem?_set_ne h]
theorem rk_cnt {W : Nat → Int} {len y p : Nat} (hy : y < len) (hp : W y = p) : 1 ≤ rk W y ∧ rk W y ≤ (evL W len p).length := by
  rw [rk_eq hp]
  obtain ⟨t, ht⟩ := evL_pre (W := W) (p := p) len (show y + 1 ≤ len by omega)
  rw [ht, evL_hit hp, List.length_append, List.length_append]
  simp only [List.length_cons, List.length_nil]
  omega
theorem list_is {ds : List Int} {n : Nat} (hl : ds.length = n) {f : Nat → Int} (h : ∀ p, p < n → ds.getD p 0 = f p) : ds = (List.range n).map f := by
  refine List.ext_getElem (by simpa using hl) fun i h1 h2 => ?_
  have := h i (by omega)
  rw [List.getD_eq_getElem?_getD, List.getElem?_eq_getElem h1, Option.getD_some] at this
  simpa using this

section
variable {K W O : Nat → Int} {len n : Nat} {ct : List Int}
structure InvG (K W O : Nat → Int) (len n : Nat) (ct ds : List Int) : Prop where
  size : ds.length = n
  lim : ∀ p, p < n → (0 ≤ ds.getD p 0 ∧ ds.getD p 0 ≤ (evL W len p).length) ∧ ct.getD p 0 ≤ ds.getD p 0
  up : ∀ z, z < len → inC W (fun p => ds.getD p 0) z → upB K W O len (fun p => ct.getD p 0) z = true
def muG (n : Nat) (ds : List Int) : Nat := ((List.range n).map fun p => (60 - ds.getD p 0).toNat).sum
structure InvS (K W O : Nat → Int) (len n : Nat) (ct ds : List Int) : Prop where
  size : ds.length = n
  lim : ∀ p, p < n → (0 ≤ ds.getD p 0 ∧ ds.getD p 0 ≤ (evL W len p).length) ∧ ds.getD p 0 ≤ ct.getD p 0
  dn : ∀ z, z < len → dnB K W O len (fun p => ct.getD p 0) z = true → inC W (fun p => ds.getD p 0) z
def muS (n : Nat) (ds : List Int) : Nat := ((List.range n).map fun p => (ds.getD p 0).toNat).sum

theorem InvG.start (hl : ct.length = n) (hct : ∀ p, p < n → 0 ≤ ct.getD p 0 ∧ ct.getD p 0 ≤ (evL W len p).length) : InvG K W O len n ct ct :=
  ⟨hl, fun p hp => ⟨hct p hp, Int.le_refl _⟩, fun z hz h => upB_iff.2 (.inl h)⟩
theorem InvS.start (hl : ct.length = n) (hct : ∀ p, p < n → 0 ≤ ct.getD p 0 ∧ ct.getD p 0 ≤ (evL W len p).length) : InvS K W O len n ct ct :=
  ⟨hl, fun p hp => ⟨hct p hp, Int.le_refl _⟩, fun z hz h => (dnB_iff.1 h).1⟩
theorem InvG.step (hE : EvOk K W O len n) (h60 : len ≤ 60) {ds : List Int} {i : Nat} (h : InvG K W O len n ct ds) (hi : i < len) (hb : badC K W O (fun p => ds.getD p 0) i) :
    InvG K W O len n ct (ds.set (W (O i).toNat).toNat (rk W (O i).toNat)) ∧ muG n (ds.set (W (O i).toNat).toNat (rk W (O i).toNat)) < muG n ds := by
  obtain ⟨b1, b2, b3⟩ := id hb
  obtain ⟨o1, o2, _⟩ := hE.of i hi b1
  obtain ⟨w1, w2⟩ := hE.wh (O i).toNat (by omega)
  have hq : (W (O i).toNat).toNat < ds.length := by rw [h.size]; omega
  obtain ⟨r1, r2⟩ := rk_cnt (W := W) (len := len) (y := (O i).toNat) (p := (W (O i).toNat).toNat) (by omega) (by omega)
  have hfun : (fun p => (ds.set (W (O i).toNat).toNat (rk W (O i).toNat)).getD p 0) = moreC W O (fun p => ds.getD p 0) i := by
    funext p; rw [getD_upd hq]; rfl
  have hle : ∀ p, (evL W len p).length ≤ 60 := fun p => by have := evL_le (W := W) (i := len) (p := p); omega
  have hb3 : ds.getD (W (O i).toNat).toNat 0 < (rk W (O i).toNat : Int) := b3
  refine ⟨⟨by rw [List.length_set]; exact h.size, fun p hp => ?_, ?_⟩, ?_⟩
  · obtain ⟨⟨l1, l2⟩, l3⟩ := h.lim p hp
    rw [getD_upd hq]
    by_cases e : p = (W (O i).toNat).toNat
    · rw [if_pos e]; subst e; omega
    · rw [if_neg e]; exact ⟨⟨l1, l2⟩, l3⟩
  · rw [hfun]; exact up_more hE hi hb h.up
  · refine sum_lt n (fun p hp => ?_) ⟨(W (O i).toNat).toNat, by omega, ?_⟩
    · rw [getD_upd hq]
      by_cases e : p = (W (O i).toNat).toNat
      · rw [if_pos e]; subst e; omega
      · rw [if_neg e]; exact Nat.le_refl _
    · rw [getD_upd hq, if_pos rfl]
      have := hle (W (O i).toNat).toNat
      omega
theorem InvS.step (hE : EvOk K W O len n) {ds : List Int} {i : Nat} (h : InvS K W O len n ct ds) (hi : i < len) (hb : badC K W O (fun p => ds.getD p 0) i) :
    InvS K W O len n ct (ds.set (W i).toNat ((rk W i : Int) - 1)) ∧ muS n (ds.set (W i).toNat ((rk W i : Int) - 1)) < muS n ds := by
  obtain ⟨b1, b2, b3⟩ := id hb
  obtain ⟨w1, w2⟩ := hE.wh i hi
  have hq : (W i).toNat < ds.length := by rw [h.size]; omega
  obtain ⟨r1, r2⟩ := rk_cnt (W := W) (len := len) (y := i) (p := (W i).toNat) hi (by omega)
  have hfun : (fun p => (ds.set (W i).toNat ((rk W i : Int) - 1)).getD p 0) = lessC W (fun p => ds.getD p 0) i := by
    funext p; rw [getD_upd hq]; rfl
  have hb2 : (rk W i : Int) ≤ ds.getD (W i).toNat 0 := b2
  refine ⟨⟨by rw [List.length_set]; exact h.size, fun p hp => ?_, ?_⟩, ?_⟩
  · obtain ⟨⟨l1, l2⟩, l3⟩ := h.lim p hp
    rw [getD_upd hq]
    by_cases e : p = (W i).toNat
    · rw [if_pos e]; subst e; omega
    · rw [if_neg e]; exact ⟨⟨l1, l2⟩, l3⟩
  · rw [hfun]; exact dn_less hE hi hb h.dn
  · refine sum_lt n (fun p hp => ?_) ⟨(W i).toNat, by omega, ?_⟩
    · rw [getD_upd hq]
      by_cases e : p = (W i).toNat
      · rw [if_pos e]; subst e; omega
      · rw [if_neg e]; exact Nat.le_refl _
    · rw [getD_upd hq, if_pos rfl]
      omega
theorem InvG.fin (hE : EvOk K W O len n) {ds : List Int} (h : InvG K W O len n ct ds) (hno : ∀ i, i < len → ¬ badC K W O (fun p => ds.getD p 0) i) : ds = (List.range n).map fun p => (ctN W (upB K W O len fun p => ct.getD p 0) len p : Int) :=
  list_is h.size fun p hp => cut_is (d := fun p => ds.getD p 0) (h.lim p hp).1 fun z hz => up_end hE h.up (fun p hp => (h.lim p hp).2) hno hz
theorem InvS.fin (hE : EvOk K W O len n) {ds : List Int} (h : InvS K W O len n ct ds) (hno : ∀ i, i < len → ¬ badC K W O (fun p => ds.getD p 0) i) : ds = (List.range n).map fun p => (ctN W (dnB K W O len fun p => ct.getD p 0) len p : Int) :=
  list_is h.size fun p hp => cut_is (d := fun p => ds.getD p 0) (h.lim p hp).1 fun z hz => dn_end hE h.dn (fun p hp => (h.lim p hp).2) hno hz
end
end Go.Proofs.Ytdcjacloejhmlaa
