/- Paths in a chain of blocks: plain. -/
import Derived.Test.YtnggjekppdlaoaaChainA
namespace Go.Proofs.Ytnggjekppdlaoaa
set_option linter.unusedSimpArgs false
set_option linter.unusedVariables false

def pathF (p : Nat → Int) : Nat → Nat → List Int
  | 0, b => [(b : Int)]
  | f + 1, b => if b = 0 then [0] else pathF p f (p b).toNat ++ [(b : Int)]
def Up (n : Nat) (p : Nat → Int) : Prop := ∀ i, 0 < i → i < n → 0 ≤ p i ∧ p i < i
def path (p : Nat → Int) (b : Nat) : List Int := pathF p b b

theorem pathF_eq {n : Nat} {p : Nat → Int} (h : Up n p) : ∀ (b f : Nat), b < n → b ≤ f → pathF p f b = path p b := by
  intro b
  induction b using Nat.strongRecOn with
  | _ b ih =>
    intro f hb hf
    unfold path
    by_cases h0 : b = 0
    · subst h0
      cases f <;> simp [pathF]
    · obtain ⟨f, rfl⟩ : ∃ k, f = k + 1 := ⟨f - 1, by omega⟩
      obtain ⟨g, hg⟩ : ∃ k, b = k + 1 := ⟨b - 1, by omega⟩
      have := h b (by omega) hb
      conv => rhs; rw [hg]
      simp only [pathF]
      rw [if_neg h0, if_neg (by omega), ← hg, ih (p b).toNat (by omega) f (by omega) (by omega), ih (p b).toNat (by omega) g (by omega) (by omega)]
theorem path_zero (p : Nat → Int) : path p 0 = [0] := rfl
theorem path_succ {n : Nat} {p : Nat → Int} (h : Up n p) {b : Nat} (h0 : 0 < b) (hb : b < n) : path p b = path p (p b).toNat ++ [(b : Int)] := by
  obtain ⟨g, rfl⟩ : ∃ k, b = k + 1 := ⟨b - 1, by omega⟩
  have := h (g + 1) h0 hb
  unfold path
  simp only [pathF]
  rw [if_neg (by omega), pathF_eq h _ g (by omega) (by omega)]
  rfl
theorem path_length {n : Nat} {p : Nat → Int} (h : Up n p) : ∀ b, b < n → (path p b).length ≤ b + 1 := by
  intro b
  induction b using Nat.strongRecOn with
  | _ b ih =>
    intro hb
    by_cases h0 : b = 0
    · subst h0; simp [path_zero]
    · have := h b (by omega) hb
      rw [path_succ h (by omega) hb, List.length_append]
      have := ih (p b).toNat (by omega) (by omega)
      simp; omega
theorem path_mem {n : Nat} {p : Nat → Int} (h : Up n p) : ∀ b, b < n → ∀ x ∈ path p b, 0 ≤ x ∧ x ≤ b := by
  intro b
  induction b using Nat.strongRecOn with
  | _ b ih =>
    intro hb x hx
    by_cases h0 : b = 0
    · subst h0; simp [path_zero] at hx; subst hx; simp
    · have := h b (by omega) hb
      rw [path_succ h (by omega) hb, List.mem_append, List.mem_singleton] at hx
      rcases hx with hx | rfl
      · have := ih (p b).toNat (by omega) (by omega) x hx
        omega
      · omega
theorem path_self {n : Nat} {p : Nat → Int} (h : Up n p) {b : Nat} (hb : b < n) : (b : Int) ∈ path p b := by
  by_cases h0 : b = 0
  · subst h0; simp [path_zero]
  · rw [path_succ h (by omega) hb]; simp
theorem path_ne {n : Nat} {p : Nat → Int} (h : Up n p) {b : Nat} (hb : b < n) : path p b ≠ [] := fun e => by
  have := path_self h hb; rw [e] at this; cases this

/-- The document's meeting place: the last one of the second path that is in the first. -/
def lastIn (l : List Int) (best : Int) (q : List Int) : Int := q.foldl (fun z x => if x ∈ l then x else z) best
def meetR (p : Nat → Int) (a b : Nat) : Int := lastIn (path p a) 0 (path p b)

theorem lastIn_congr {l l' : List Int} (best : Int) : ∀ (q : List Int), (∀ x ∈ q, x ∈ l ↔ x ∈ l') → lastIn l best q = lastIn l' best q := by
  intro q
  induction q generalizing best with
  | nil => intro _; rfl
  | cons x q ih =>
    intro h
    have hx := h x (by simp)
    simp only [lastIn, List.foldl_cons] at ih ⊢
    simp only [hx]
    exact ih _ fun y hy => h y (by simp [hy])
theorem lastIn_append (l : List Int) (best : Int) (q q' : List Int) : lastIn l best (q ++ q') = lastIn l (lastIn l best q) q' := by simp [lastIn]

theorem meetR_self {n : Nat} {p : Nat → Int} (h : Up n p) {a : Nat} (ha : a < n) : meetR p a a = a := by
  unfold meetR
  by_cases h0 : a = 0
  · subst h0; simp [path_zero, lastIn]
  · rw [path_succ h (by omega) ha, lastIn_append]
    simp [lastIn]
theorem meetR_left {n : Nat} {p : Nat → Int} (h : Up n p) {a b : Nat} (ha : a < n) (hb : b < n) (hab : b < a) : meetR p a b = meetR p (p a).toNat b := by
  unfold meetR
  refine lastIn_congr _ _ fun x hx => ?_
  have hxb := path_mem h b hb x hx
  rw [path_succ h (by omega) ha, List.mem_append, List.mem_singleton]
  constructor
  · rintro (h1 | h1)
    · exact h1
    · omega
  · exact .inl
theorem meetR_right {n : Nat} {p : Nat → Int} (h : Up n p) {a b : Nat} (ha : a < n) (hb : b < n) (hab : a < b) : meetR p a b = meetR p a (p b).toNat := by
  unfold meetR
  rw [path_succ h (by omega : 0 < b) hb, lastIn_append]
  have hnb : ¬ (b : Int) ∈ path p a := fun hm => by
    have := path_mem h a ha _ hm; omega
  simp [lastIn, hnb]

theorem up_of {n : Nat} {p r : Nat → Int} (h : BlkOK n p r) : Up n p := fun i h0 hi => by
  have := h.2.2 i h0 hi
  unfold badB at this
  omega
theorem blkCode_ok {n : Nat} {p r : Nat → Int} (h : blkCode n p r = 0) : n ≤ 40 ∧ 0 < n ∧ BlkOK n p r := by
  unfold blkCode at h
  split at h
  · cases h
  · split at h
    · cases h
    · split at h
      · rename_i h1 h2 h3; exact ⟨by omega, by omega, h3⟩
      · cases h
end Go.Proofs.Ytnggjekppdlaoaa
