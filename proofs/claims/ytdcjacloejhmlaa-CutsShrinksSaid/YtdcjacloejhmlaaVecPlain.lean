/- How many events of each process stand before each. Plain. -/
import Derived.Test.YtdcjacloejhmlaaClocksPlain
namespace Go.Proofs.Ytdcjacloejhmlaa
open Go Go.RowKit Go.VC
set_option linter.unusedSimpArgs false
set_option linter.unusedVariables false

def rowL (n : Nat) (f : Nat → Int) : List Int := (List.range n).map f
theorem rowL_length (n : Nat) (f : Nat → Int) : (rowL n f).length = n := by simp [rowL]
theorem rowL_get {n p : Nat} {f : Nat → Int} (h : p < n) : (rowL n f)[p]? = some (f p) := by simp [rowL, h]
theorem rowL_getD {n p : Nat} {f : Nat → Int} (h : p < n) : (rowL n f).getD p 0 = f p := by rw [List.getD_eq_getElem?_getD, rowL_get h]; rfl
theorem rowL_congr {n : Nat} {f g : Nat → Int} (h : ∀ p, p < n → f p = g p) : rowL n f = rowL n g := List.map_congr_left fun x hx => h x (List.mem_range.1 hx)
theorem rowL_set {n : Nat} {f : Nat → Int} (x : Nat) (v : Int) : (rowL n f).set x v = rowL n fun p => if p = x then v else f p := by
  apply List.ext_getElem
  · simp [rowL]
  · intro k h1 h2
    rw [List.getElem_set]
    simp only [rowL, List.getElem_map, List.getElem_range]
    by_cases h : x = k
    · subst h; simp
    · rw [if_neg h, if_neg (fun e => h e.symm)]
theorem rowL_zero (n : Nat) : rowL n (fun _ => 0) = List.replicate n 0 := by simp [rowL, List.map_const']

def maxF (g : Nat → Int) : List Int → Int → Int
  | [], x => x
  | j :: l, x => maxF g l (max x (g j.toNat))
theorem maxF_congr {g g' : Nat → Int} : ∀ (l : List Int) (x : Int), (∀ j ∈ l, g j.toNat = g' j.toNat) → maxF g l x = maxF g' l x
  | [], x, _ => rfl
  | j :: l, x, h => by
    show maxF g l _ = maxF g' l _
    rw [h j (by simp), maxF_congr l _ fun k hk => h k (by simp [hk])]
theorem maxF_app (g : Nat → Int) (a : Int) : ∀ (l : List Int) (x : Int), maxF g (l ++ [a]) x = max (maxF g l x) (g a.toNat)
  | [], x => rfl
  | j :: l, x => maxF_app g a l _
theorem maxF_take (g : Nat → Int) (l : List Int) {j : Nat} (hj : j < l.length) (x : Int) : maxF g (l.take (j + 1)) x = max (maxF g (l.take j) x) (g (l.getD j 0).toNat) := by
  rw [List.take_succ_eq_append_getElem hj, maxF_app]
  simp [hj]
theorem maxF_ge (g : Nat → Int) : ∀ (l : List Int) (x : Int), x ≤ maxF g l x ∧ ∀ j ∈ l, g j.toNat ≤ maxF g l x
  | [], x => ⟨Int.le_refl _, fun j h => by cases h⟩
  | k :: l, x => by
    obtain ⟨h1, h2⟩ := maxF_ge g l (max x (g k.toNat))
    refine ⟨by show x ≤ maxF g l _; omega, fun j hj => ?_⟩
    show _ ≤ maxF g l _
    rcases List.mem_cons.1 hj with rfl | hj
    · omega
    · exact h2 j hj
theorem maxF_le (g : Nat → Int) (b : Int) : ∀ (l : List Int) (x : Int), x ≤ b → (∀ j ∈ l, g j.toNat ≤ b) → maxF g l x ≤ b
  | [], x, h, _ => h
  | k :: l, x, h, h2 => maxF_le g b l _ (by have := h2 k (by simp); omega) fun j hj => h2 j (by simp [hj])

section
variable (K W O : Nat → Int)
def vecS : Nat → Nat → Nat → Int
  | 0 => fun _ _ => 0
  | i + 1 => fun j => if j = i then fun p => maxF (fun m => vecS i m p) (fromL K W O i) 0 + (if W i = p then 1 else 0) else vecS i j
/-- The numbers of an event, as the program reckons them. -/
def vec (j : Nat) : Nat → Int := vecS K W O (j + 1) j
/-- How many of the first t are of process p. -/
def Np (p : Nat) : Nat → Int
  | 0 => 0
  | t + 1 => Np p t + (if W t = p then 1 else 0)
/-- How many of the first t are of process p and marked. -/
def cntB (b : Nat → Bool) (p : Nat) : Nat → Int
  | 0 => 0
  | t + 1 => cntB b p t + (if b t = true ∧ W t = p then 1 else 0)
end
variable {K W O : Nat → Int}
theorem vecS_eq {j : Nat} : ∀ {i : Nat}, j < i → vecS K W O i j = vec K W O j
  | 0, h => absurd h (by omega)
  | i + 1, h => by
    by_cases hj : j = i
    · subst hj; rfl
    · have e : vecS K W O (i + 1) j = vecS K W O i j := by
        show (if j = i then _ else _) = _
        rw [if_neg hj]
      rw [e]; exact vecS_eq (by omega)
theorem vec_eq {len : Nat} (hO : ∀ j, j < len → K j = 3 → 0 ≤ O j ∧ O j < j) {j : Nat} (hj : j < len) (p : Nat) :
    vec K W O j p = maxF (fun m => vec K W O m p) (fromL K W O j) 0 + (if W j = p then 1 else 0) := by
  have e : vec K W O j p = maxF (fun m => vecS K W O j m p) (fromL K W O j) 0 + (if W j = p then 1 else 0) := by
    show vecS K W O (j + 1) j p = _
    simp only [vecS, if_true]
  rw [e, maxF_congr _ _ fun x hx => ?_]
  obtain ⟨m, rfl, hm, _⟩ := fromL_mem hO hj hx
  rw [Int.toNat_natCast, vecS_eq hm]

theorem befTo_lt : ∀ {k i j : Nat}, befTo K W O k i j = true → i < j
  | 0, i, j, h => by unfold befTo at h; simp only [Bool.and_eq_true, decide_eq_true_eq] at h; exact h.1
  | k + 1, i, j, h => by
    unfold befTo at h
    simp only [Bool.and_eq_true, Bool.or_eq_true, decide_eq_true_eq] at h
    rcases h with h | ⟨⟨⟨h1, h2⟩, h3⟩, h4⟩
    · exact befTo_lt h
    · omega
theorem befTo_succ {k i j : Nat} : befTo K W O (k + 1) i j = true ↔ befTo K W O k i j = true ∨ (befTo K W O k i k = true ∧ befTo K W O k k j = true) := by
  rw [befTo]
  simp only [Bool.and_eq_true, Bool.or_eq_true, decide_eq_true_eq]
  constructor
  · rintro (h | ⟨⟨_, h3⟩, h4⟩)
    · exact .inl h
    · exact .inr ⟨h3, h4⟩
  · rintro (h | ⟨h3, h4⟩)
    · exact .inl h
    · exact .inr ⟨⟨⟨befTo_lt h3, befTo_lt h4⟩, h3⟩, h4⟩
theorem befTo_mono {i j : Nat} : ∀ {k l : Nat}, k ≤ l → befTo K W O k i j = true → befTo K W O l i j = true
  | k, 0, h, hb => by obtain rfl : k = 0 := by omega
                      exact hb
  | k, l + 1, h, hb => by
    by_cases hk : k = l + 1
    · rw [← hk]; exact hb
    · exact befTo_succ.2 (.inl (befTo_mono (by omega) hb))
theorem befTo_trans : ∀ {k m i j : Nat}, m < k → befTo K W O k i m = true → befTo K W O k m j = true → befTo K W O k i j = true
  | 0, m, i, j, h, _, _ => absurd h (by omega)
  | k + 1, m, i, j, h, h1, h2 => by
    have h1' : befTo K W O k i m = true := by
      rcases befTo_succ.1 h1 with h1 | ⟨_, h3⟩
      · exact h1
      · have := befTo_lt h3; omega
    by_cases hm : m = k
    · subst hm
      rcases befTo_succ.1 h2 with h2 | ⟨h3, _⟩
      · exact befTo_succ.2 (.inr ⟨h1', h2⟩)
      · have := befTo_lt h3; omega
    · rcases befTo_succ.1 h2 with h2 | ⟨h3, h4⟩
      · exact befTo_succ.2 (.inl (befTo_trans (by omega) h1' h2))
      · exact befTo_succ.2 (.inr ⟨befTo_trans (by omega) h1' h3, h4⟩)
/-- What stands last on a way. -/
theorem bef_last {len : Nat} : ∀ {k i j : Nat}, k ≤ len → befTo K W O k i j = true → ∃ m, m < j ∧ dirB K W O m j = true ∧ (i = m ∨ befTo K W O len i m = true)
  | 0, i, j, _, h => by
    unfold befTo at h
    simp only [Bool.and_eq_true, decide_eq_true_eq] at h
    exact ⟨i, h.1, h.2, .inl rfl⟩
  | k + 1, i, j, hk, h => by
    rcases befTo_succ.1 h with h | ⟨h1, h2⟩
    · exact bef_last (by omega) h
    · obtain ⟨m, m1, m2, m3⟩ := bef_last (len := len) (by omega) h2
      have h1' := befTo_mono (l := len) (by omega) h1
      refine ⟨m, m1, m2, .inr ?_⟩
      rcases m3 with rfl | m3
      · exact h1'
      · exact befTo_trans (by omega) h1' m3

/-- i stands in the past of j, or is j. -/
def Past (K W O : Nat → Int) (len i j : Nat) : Prop := i = j ∨ befTo K W O len i j = true
theorem past_le {len i j : Nat} (h : Past K W O len i j) : i ≤ j := by
  rcases h with rfl | h
  · exact Nat.le_refl _
  · exact Nat.le_of_lt (befTo_lt h)
theorem past_dir {len i j m : Nat} (hm : m < len) (h : Past K W O len i m) (hmj : m < j) (hd : dirB K W O m j = true) : Past K W O len i j := by
  have h2 := befTo_dir len m j hmj hd
  rcases h with rfl | h
  · exact .inr h2
  · exact .inr (befTo_trans hm h h2)
theorem past_from {len : Nat} (hO : ∀ j, j < len → K j = 3 → 0 ≤ O j ∧ O j < j) {i j : Nat} (hj : j < len) (hij : i ≠ j) : Past K W O len i j ↔ ∃ x ∈ fromL K W O j, Past K W O len i x.toNat := by
  constructor
  · rintro (h | h)
    · exact absurd h hij
    · obtain ⟨m, m1, m2, m3⟩ := bef_last (Nat.le_refl len) h
      have hp : Past K W O len i m := m3
      unfold dirB at m2
      simp only [Bool.or_eq_true, Bool.and_eq_true, decide_eq_true_eq] at m2
      rcases m2 with hd | ⟨h3, hd⟩
      · have hs := lastI_spec (W := W) j (W j)
        cases hl : lastI W j (W j) with
        | none => rw [hl] at hs; exact absurd hd (hs m m1)
        | some k =>
          rw [hl] at hs
          obtain ⟨q, q1, q2, q3, q4⟩ := hs
          have hmem : (q : Int) ∈ fromL K W O j := by
            have : (q : Int) ∈ lastL W j := by unfold lastL; rw [hl]; simp [q1]
            unfold fromL; split
            · exact List.mem_append_left _ this
            · exact this
          refine ⟨q, hmem, ?_⟩
          rw [Int.toNat_natCast]
          rcases Nat.lt_trichotomy m q with h | h | h
          · exact past_dir (by omega) hp h (by unfold dirB; simp [hd, q3])
          · rw [← h]; exact hp
          · exact absurd hd (q4 m h m1)
      · refine ⟨m, ?_, by rw [Int.toNat_natCast]; exact hp⟩
        unfold fromL; rw [if_pos h3]
        exact List.mem_append_right _ (by simp [hd])
  · rintro ⟨x, hx, hp⟩
    obtain ⟨m, rfl, hm, hd⟩ := fromL_mem hO hj hx
    rw [Int.toNat_natCast] at hp
    exact past_dir (by omega) hp hm hd

theorem Np_mono (p : Nat) {a b : Nat} (h : a ≤ b) : Np W p a ≤ Np W p b := by
  induction b with
  | zero => obtain rfl : a = 0 := by omega
            exact Int.le_refl _
  | succ b ih =>
    by_cases ha : a = b + 1
    · rw [ha]; exact Int.le_refl _
    · have := ih (by omega)
      show _ ≤ Np W p b + _
      split <;> omega
theorem Np_none (p : Nat) {a : Nat} : ∀ {b : Nat}, a ≤ b → (∀ q, a ≤ q → q < b → W q ≠ p) → Np W p b = Np W p a
  | 0, h, _ => by obtain rfl : a = 0 := by omega
                  rfl
  | b + 1, h, hq => by
    by_cases ha : a = b + 1
    · rw [ha]
    · show Np W p b + _ = _
      rw [if_neg (hq b (by omega) (by omega)), Np_none p (by omega) fun q h1 h2 => hq q h1 (by omega)]
      omega
theorem Np_le (p : Nat) : ∀ t, 0 ≤ Np W p t ∧ Np W p t ≤ t
  | 0 => ⟨Int.le_refl _, Int.le_refl _⟩
  | t + 1 => by
    have := Np_le p t
    unfold Np
    split <;> omega
theorem Np_max (p a b : Nat) : Np W p (max a b) = max (Np W p a) (Np W p b) := by
  rcases Nat.le_total a b with h | h
  · have := Np_mono (W := W) p h
    rw [Nat.max_eq_right h]; omega
  · have := Np_mono (W := W) p h
    rw [Nat.max_eq_left h]; omega

/-- Where the past of j ends, among the events of p. -/
theorem vec_cut {len : Nat} (hO : ∀ j, j < len → K j = 3 → 0 ≤ O j ∧ O j < j) (p : Nat) : ∀ j, j < len → ∃ t, t ≤ j + 1 ∧ (∀ i, W i = p → (Past K W O len i j ↔ i < t)) ∧ vec K W O j p = Np W p t := by
  intro j
  induction j using Nat.strongRecOn with
  | _ j ih =>
    intro hj
    have hmem : ∀ x ∈ fromL K W O j, ∃ m : Nat, x = m ∧ m < j := fun x hx => by
      obtain ⟨m, h1, h2, _⟩ := fromL_mem hO hj hx
      exact ⟨m, h1, h2⟩
    rw [vec_eq hO hj p]
    by_cases hp : W j = p
    · rw [if_pos hp]
      refine ⟨j + 1, Nat.le_refl _, fun i hi => ⟨fun h => by have := past_le h; omega, fun h => ?_⟩, ?_⟩
      · by_cases hij : i = j
        · exact .inl hij
        · exact .inr (befTo_dir len i j (by omega) (by unfold dirB; simp [hi, hp]))
      · have e : Np W p (j + 1) = Np W p j + 1 := by show Np W p j + _ = _; rw [if_pos hp]
        rw [e]
        have h0 := (Np_le (W := W) p j).1
        have h1 : maxF (fun m => vec K W O m p) (fromL K W O j) 0 ≤ Np W p j := by
          refine maxF_le _ _ _ _ h0 fun x hx => ?_
          obtain ⟨m, rfl, hm⟩ := hmem x hx
          obtain ⟨t, t1, _, t3⟩ := ih m hm (by omega)
          rw [Int.toNat_natCast, t3]
          exact Np_mono p (by omega)
        obtain ⟨g1, g2⟩ := maxF_ge (fun m => vec K W O m p) (fromL K W O j) 0
        have h2 : Np W p j ≤ maxF (fun m => vec K W O m p) (fromL K W O j) 0 := by
          have hs := lastI_spec (W := W) j (W j)
          cases hl : lastI W j (W j) with
          | none =>
            rw [hl] at hs
            rw [Np_none (a := 0) p (by omega) fun q _ hq => by rw [← hp]; exact hs q hq]
            exact g1
          | some k =>
            rw [hl] at hs
            obtain ⟨q, q1, q2, q3, q4⟩ := hs
            have hmq : (q : Int) ∈ fromL K W O j := by
              have : (q : Int) ∈ lastL W j := by unfold lastL; rw [hl]; simp [q1]
              unfold fromL; split
              · exact List.mem_append_left _ this
              · exact this
            have := g2 _ hmq
            rw [Int.toNat_natCast] at this
            obtain ⟨t, t1, t2, t3⟩ := ih q q2 (by omega)
            have hqt := (t2 q (by omega)).1 (.inl rfl)
            rw [Np_none (a := q + 1) p (by omega) fun r h1 h2 => by rw [← hp]; exact q4 r (by omega) h2]
            have h5 := Np_mono (W := W) p (show q + 1 ≤ t by omega)
            omega
        omega
    · rw [if_neg hp]
      have go : ∀ (l : List Int) (t0 : Nat), (∀ x ∈ l, ∃ m : Nat, x = m ∧ m < j) → t0 ≤ j → ∃ t, t ≤ j ∧ (∀ i, W i = p → ((i < t0 ∨ ∃ x ∈ l, Past K W O len i x.toNat) ↔ i < t)) ∧ maxF (fun m => vec K W O m p) l (Np W p t0) = Np W p t := by
        intro l
        induction l with
        | nil => exact fun t0 _ h0 => ⟨t0, h0, fun i _ => by simp, rfl⟩
        | cons x l ihl =>
          intro t0 hl h0
          obtain ⟨m, rfl, hm⟩ := hl _ (List.mem_cons_self ..)
          obtain ⟨t, t1, t2, t3⟩ := ih m hm (by omega)
          obtain ⟨s, s1, s2, s3⟩ := ihl (max t0 t) (fun y hy => hl y (by simp [hy])) (by omega)
          refine ⟨s, s1, fun i hi => ?_, ?_⟩
          · rw [← s2 i hi]
            simp only [List.mem_cons, exists_eq_or_imp, Int.toNat_natCast]
            rw [t2 i hi]
            constructor
            · rintro (h | h | h)
              · left; omega
              · left; omega
              · exact .inr h
            · rintro (h | h)
              · by_cases h1 : i < t0
                · exact .inl h1
                · right; left; omega
              · exact .inr (.inr h)
          · rw [← s3]
            show maxF _ l (max _ (vec K W O ((m : Nat) : Int).toNat p)) = _
            rw [Int.toNat_natCast, t3, Np_max]
      obtain ⟨t, t1, t2, t3⟩ := go (fromL K W O j) 0 hmem (by omega)
      refine ⟨t, by omega, fun i hi => ?_, ?_⟩
      · rw [← t2 i hi, past_from hO hj fun e => hp (by rw [← e]; exact hi)]
        simp
      · have : Np W p 0 = 0 := rfl
        rw [this] at t3
        rw [t3]; omega

theorem cntB_cut {b : Nat → Bool} {p t : Nat} (h : ∀ i, W i = p → (b i = true ↔ i < t)) : ∀ n, cntB W b p n = Np W p (min n t)
  | 0 => by rw [Nat.zero_min]; rfl
  | n + 1 => by
    unfold cntB
    rw [cntB_cut h n]
    by_cases hn : n < t
    · rw [Nat.min_eq_left (by omega), Nat.min_eq_left (by omega)]
      show _ = Np W p n + _
      congr 1
      by_cases hw : W n = p
      · rw [if_pos ⟨(h n hw).2 hn, hw⟩, if_pos hw]
      · rw [if_neg fun h => hw h.2, if_neg hw]
    · rw [Nat.min_eq_right (by omega), Nat.min_eq_right (by omega), if_neg]
      · omega
      · rintro ⟨h1, h2⟩; exact hn ((h n h2).1 h1)
/-- THE DOCUMENT's NUMBER IS THE PROGRAM's. -/
theorem vec_doc {len : Nat} (hO : ∀ j, j < len → K j = 3 → 0 ≤ O j ∧ O j < j) {j : Nat} (hj : j < len) (p : Nat) : cntB W (fun i => decide (i = j) || befTo K W O len i j) p len = vec K W O j p := by
  obtain ⟨t, t1, t2, t3⟩ := vec_cut (W := W) hO p j hj
  rw [cntB_cut (t := t) (fun i hi => ?_), t3, Nat.min_eq_right (by omega)]
  rw [← t2 i hi]
  simp only [Bool.or_eq_true, decide_eq_true_eq]; exact Iff.rfl
theorem vec_le {len : Nat} (hO : ∀ j, j < len → K j = 3 → 0 ≤ O j ∧ O j < j) {j : Nat} (hj : j < len) (p : Nat) : 0 ≤ vec K W O j p ∧ vec K W O j p ≤ j + 1 := by
  obtain ⟨t, t1, t2, t3⟩ := vec_cut (W := W) hO p j hj
  have := Np_le (W := W) p t
  omega
theorem cntB_le (b : Nat → Bool) (p : Nat) : ∀ t, 0 ≤ cntB W b p t ∧ cntB W b p t ≤ t
  | 0 => ⟨Int.le_refl _, Int.le_refl _⟩
  | t + 1 => by
    have := cntB_le b p t
    unfold cntB
    split <;> omega
/-- 'i is before j', by what they know. -/
theorem vec_before {len : Nat} (hO : ∀ j, j < len → K j = 3 → 0 ≤ O j ∧ O j < j) {i j p : Nat} (hi : i < len) (hj : j < len) (hij : i ≠ j) (hp : W i = p) : (vec K W O i p ≤ vec K W O j p) ↔ befTo K W O len i j = true := by
  obtain ⟨t, t1, t2, t3⟩ := vec_cut (W := W) hO p i hi
  obtain ⟨s, s1, s2, s3⟩ := vec_cut (W := W) hO p j hj
  have hit := (t2 i hp).1 (.inl rfl)
  obtain rfl : t = i + 1 := by omega
  have hb : Past K W O len i j ↔ befTo K W O len i j = true := ⟨fun h => h.resolve_left hij, .inr⟩
  rw [← hb, s2 i hp, t3, s3]
  constructor
  · intro h
    by_cases hs : i < s
    · exact hs
    · have h1 := Np_mono (W := W) p (show s ≤ i by omega)
      have h2 : Np W p (i + 1) = Np W p i + 1 := by show Np W p i + _ = _; rw [if_pos hp]
      omega
  · intro h
    exact Np_mono p (by omega)
end Go.Proofs.Ytdcjacloejhmlaa
