/- The least whole cut above, the greatest below. Plain. -/
import Derived.Test.YtdcjacloejhmlaaCutsPlain
import Derived.Test.YtdcjacloejhmlaaVecPlain
namespace Go.Proofs.Ytdcjacloejhmlaa
open Go Go.RowKit Go.VC
set_option linter.unusedSimpArgs false
set_option linter.unusedVariables false

section
variable (K W O : Nat → Int) (len : Nat) (c : Nat → Int)
def inC (i : Nat) : Prop := (rk W i : Int) ≤ c (W i).toNat
instance (i : Nat) : Decidable (inC W c i) := inferInstanceAs (Decidable ((rk W i : Int) ≤ c (W i).toNat))
def upB (i : Nat) : Bool := decide (inC W c i) || (List.range len).any fun j => decide (inC W c j) && befTo K W O len i j
def dnB (i : Nat) : Bool := decide (inC W c i) && (List.range len).all fun j => decide (inC W c j) || !befTo K W O len j i
end
/-- Events as they may be. -/
structure EvOk (K W O : Nat → Int) (len n : Nat) : Prop where
  wh : ∀ i, i < len → 0 ≤ W i ∧ W i < n
  of : ∀ i, i < len → K i = 3 → 0 ≤ O i ∧ O i < i ∧ K (O i).toNat = 2
variable {K W O : Nat → Int} {len n : Nat} {c d : Nat → Int}
theorem upB_iff {i : Nat} : upB K W O len c i = true ↔ inC W c i ∨ ∃ j, j < len ∧ inC W c j ∧ befTo K W O len i j = true := by
  unfold upB
  simp only [Bool.or_eq_true, decide_eq_true_eq, List.any_eq_true, List.mem_range, Bool.and_eq_true]
theorem dnB_iff {i : Nat} : dnB K W O len c i = true ↔ inC W c i ∧ ∀ j, j < len → befTo K W O len j i = true → inC W c j := by
  unfold dnB
  simp only [Bool.and_eq_true, decide_eq_true_eq, List.all_eq_true, List.mem_range, Bool.or_eq_true, Bool.not_eq_true']
  constructor
  · rintro ⟨h1, h2⟩
    refine ⟨h1, fun j hj hb => ?_⟩
    rcases h2 j hj with h | h
    · exact h
    · rw [hb] at h; cases h
  · rintro ⟨h1, h2⟩
    refine ⟨h1, fun j hj => ?_⟩
    cases hb : befTo K W O len j i with
    | true => exact .inl (h2 j hj hb)
    | false => exact .inr rfl

theorem rk_lt (hE : EvOk K W O len n) {i j : Nat} (hij : i < j) (hj : j < len) (h : W i = W j) : rk W i < rk W j := by
  obtain ⟨p, hp⟩ : ∃ p : Nat, W j = p := ⟨(W j).toNat, by have := hE.wh j hj; omega⟩
  rw [rk_eq hp, rk_eq (h.trans hp)]
  obtain ⟨t, ht⟩ := evL_pre (W := W) (p := p) j (show i + 1 ≤ j by omega)
  rw [ht, evL_hit (h.trans hp), List.length_append, List.length_append]
  simp only [List.length_cons, List.length_nil]
  omega
theorem rk_le (hE : EvOk K W O len n) {i j : Nat} (hi : i < len) (h : W i = W j) (hr : rk W i ≤ rk W j) : i ≤ j := by
  rcases Nat.lt_or_ge j i with h' | h'
  · have := rk_lt hE h' hi h.symm; omega
  · exact h'
theorem bef_same (hE : EvOk K W O len n) {i j : Nat} (hij : i < j) (h : W i = W j) : befTo K W O len i j = true := befTo_dir _ _ _ hij (by unfold dirB; simp [h])
theorem bef_take (hE : EvOk K W O len n) {j : Nat} (hj : j < len) (h : K j = 3) : befTo K W O len (O j).toNat j = true := by
  obtain ⟨h1, h2, _⟩ := hE.of j hj h
  refine befTo_dir _ _ _ (by omega) ?_
  simp only [dirB, Bool.or_eq_true, Bool.and_eq_true, decide_eq_true_eq]
  exact .inr ⟨h, by omega⟩
/-- What is whole has all that is before what is in it. -/
theorem whole_closed (hE : EvOk K W O len n) (hno : ∀ i, i < len → ¬ badC K W O d i) : ∀ (k i j : Nat), j < len → befTo K W O k i j = true → inC W d j → inC W d i
  | 0, i, j, hj, hb, hin => by
    unfold befTo dirB at hb
    simp only [Bool.and_eq_true, Bool.or_eq_true, decide_eq_true_eq] at hb
    obtain ⟨hij, hw | ⟨hk, ho⟩⟩ := hb
    · have := rk_lt hE hij hj hw
      unfold inC at hin ⊢
      rw [hw]; omega
    · have h := hno j hj
      unfold inC at hin ⊢
      rcases Int.lt_or_le (d (W i).toNat) (rk W i) with h2 | h2
      · refine absurd ⟨hk, hin, ?_⟩ h
        rw [ho, Int.toNat_natCast]; exact h2
      · exact h2
  | k + 1, i, j, hj, hb, hin => by
    rcases befTo_succ.1 hb with hb | ⟨h1, h2⟩
    · exact whole_closed hE hno k i j hj hb hin
    · have hkj := befTo_lt h2
      exact whole_closed hE hno k i k (by omega) h1 (whole_closed hE hno k k j hj h2 hin)

def moreC (W O : Nat → Int) (d : Nat → Int) (i p : Nat) : Int := if p = (W (O i).toNat).toNat then rk W (O i).toNat else d p
def lessC (W : Nat → Int) (d : Nat → Int) (i p : Nat) : Int := if p = (W i).toNat then (rk W i : Int) - 1 else d p
theorem up_more (hE : EvOk K W O len n) {i : Nat} (hi : i < len) (hbad : badC K W O d i) (hs : ∀ z, z < len → inC W d z → upB K W O len c z = true) : ∀ z, z < len → inC W (moreC W O d i) z → upB K W O len c z = true := by
  intro z hz hin
  obtain ⟨h1, h2, h3⟩ := hbad
  obtain ⟨o1, o2, _⟩ := hE.of i hi h1
  obtain ⟨y, hy⟩ : ∃ y : Nat, O i = y := ⟨(O i).toNat, by omega⟩
  unfold inC moreC at hin
  rw [hy, Int.toNat_natCast] at hin
  rw [hy] at o2
  by_cases hw : (W z).toNat = (W y).toNat
  · rw [if_pos hw] at hin
    have hwz : W z = W y := by have := hE.wh z hz; have := hE.wh y (by omega); omega
    have hzy := rk_le hE hz hwz (by omega)
    have hyi : befTo K W O len y i = true := by have := bef_take hE hi h1; rwa [hy, Int.toNat_natCast] at this
    have hzi : befTo K W O len z i = true := by
      rcases Nat.lt_or_ge z y with h | h
      · exact befTo_trans (by omega) (bef_same hE h hwz) hyi
      · obtain rfl : z = y := by omega
        exact hyi
    rw [upB_iff]
    right
    rcases upB_iff.1 (hs i hi h2) with h | ⟨j, hj, hjc, hjb⟩
    · exact ⟨i, hi, h, hzi⟩
    · exact ⟨j, hj, hjc, befTo_trans hi hzi hjb⟩
  · rw [if_neg hw] at hin
    exact hs z hz hin
theorem dn_less (hE : EvOk K W O len n) {i : Nat} (hi : i < len) (hbad : badC K W O d i) (hs : ∀ z, z < len → dnB K W O len c z = true → inC W d z) : ∀ z, z < len → dnB K W O len c z = true → inC W (lessC W d i) z := by
  intro z hz hdn
  obtain ⟨h1, h2, h3⟩ := hbad
  obtain ⟨o1, o2, _⟩ := hE.of i hi h1
  unfold inC lessC
  by_cases hw : (W z).toNat = (W i).toNat
  · rw [if_pos hw]
    have hwz : W i = W z := by have := hE.wh z hz; have := hE.wh i hi; omega
    rcases Nat.lt_or_ge z i with h | h
    · have := rk_lt hE h hi hwz.symm; omega
    · exfalso
      have hyi := bef_take hE hi h1
      have hyz : befTo K W O len (O i).toNat z = true := by
        rcases Nat.lt_or_ge i z with h' | h'
        · exact befTo_trans hi hyi (bef_same hE h' hwz)
        · obtain rfl : z = i := by omega
          exact hyi
      obtain ⟨_, hall⟩ := dnB_iff.1 hdn
      have hyl : (O i).toNat < len := by omega
      have hy : inC W d (O i).toNat := hs _ hyl (dnB_iff.2 ⟨hall _ hyl hyz, fun j hj hb => hall j hj (befTo_trans hyl hb hyz)⟩)
      unfold inC at hy
      omega
  · rw [if_neg hw]
    exact hs z hz hdn
theorem up_end (hE : EvOk K W O len n) (hs : ∀ z, z < len → inC W d z → upB K W O len c z = true) (hle : ∀ p, p < n → c p ≤ d p) (hno : ∀ i, i < len → ¬ badC K W O d i) {z : Nat} (hz : z < len) : inC W d z ↔ upB K W O len c z = true := by
  have mono : ∀ z, z < len → inC W c z → inC W d z := fun z hz h => by
    have h1 := hE.wh z hz
    have := hle (W z).toNat (by omega)
    unfold inC at h ⊢; omega
  refine ⟨hs z hz, fun h => ?_⟩
  rcases upB_iff.1 h with h | ⟨j, hj, hjc, hjb⟩
  · exact mono z hz h
  · exact whole_closed hE hno _ z j hj hjb (mono j hj hjc)
theorem dn_end (hE : EvOk K W O len n) (hs : ∀ z, z < len → dnB K W O len c z = true → inC W d z) (hle : ∀ p, p < n → d p ≤ c p) (hno : ∀ i, i < len → ¬ badC K W O d i) {z : Nat} (hz : z < len) : inC W d z ↔ dnB K W O len c z = true := by
  have mono : ∀ z, z < len → inC W d z → inC W c z := fun z hz h => by
    have h1 := hE.wh z hz
    have := hle (W z).toNat (by omega)
    unfold inC at h ⊢; omega
  refine ⟨fun h => dnB_iff.2 ⟨mono z hz h, fun j hj hb => mono j hj (whole_closed hE hno _ j z hz hb h)⟩, hs z hz⟩

theorem filter_len {α : Type} (P : α → Bool) : ∀ (l : List α) (m : Nat), m ≤ l.length → (∀ k (h : k < l.length), P l[k] = decide (k < m)) → (l.filter P).length = m
  | [], m, hm, _ => by simp at hm; simp [hm]
  | a :: l, 0, _, h => by
    have h0 := h 0 (by simp)
    simp at h0
    have ih := filter_len P l 0 (by simp) fun k hk => by have := h (k + 1) (by simpa using hk); simpa using this
    rw [List.filter_cons_of_neg (by simp [h0])]; exact ih
  | a :: l, m + 1, hm, h => by
    have h0 := h 0 (by simp)
    simp at h0
    have ih := filter_len P l m (by simpa using hm) fun k hk => by have := h (k + 1) (by simpa using hk); simpa using this
    rw [List.filter_cons_of_pos (by simpa using h0), List.length_cons, ih]
/-- A cut is told by how many of each process's events are in it. -/
theorem cut_count {p : Nat} (h : 0 ≤ d p ∧ d p ≤ (evL W len p).length) : (((List.range len).filter fun z => decide (W z = p) && decide (inC W d z)).length : Int) = d p := by
  have e : ((List.range len).filter fun z => decide (W z = p) && decide (inC W d z)) = (evL W len p).filter fun z => decide (inC W d z) := by
    unfold evL
    rw [List.filter_filter]
    refine List.filter_congr fun x _ => ?_
    rw [Bool.and_comm]
  have hl := filter_len (fun z => decide (inC W d z)) (evL W len p) (d p).toNat (by omega) (fun k hk => by
    obtain ⟨x, hx, _, hw, hr⟩ := evL_rank hk
    rw [List.getElem?_eq_getElem hk] at hx
    rw [Option.some.inj hx, Bool.eq_iff_iff, decide_eq_true_eq, decide_eq_true_eq]
    unfold inC
    rw [hw, Int.toNat_natCast, hr]
    omega)
  rw [e, hl]; omega
/-- How many of a process's first events are so. -/
def ctN (W : Nat → Int) (q : Nat → Bool) (i p : Nat) : Nat := ((List.range i).filter fun z => decide (W z = p) && q z).length
theorem ctN_hit {q : Nat → Bool} {i p : Nat} (h : W i = p) (hq : q i = true) : ctN W q (i + 1) p = ctN W q i p + 1 := by
  unfold ctN
  rw [List.range_succ, List.filter_append, List.filter_cons_of_pos (by simp [h, hq])]; simp
theorem ctN_miss {q : Nat → Bool} {i p : Nat} (h : W i ≠ p ∨ q i = false) : ctN W q (i + 1) p = ctN W q i p := by
  unfold ctN
  rw [List.range_succ, List.filter_append, List.filter_cons_of_neg]
  · simp
  · rcases h with h | h <;> simp [h]
theorem ctN_le {q : Nat → Bool} {i p : Nat} : ctN W q i p ≤ i := by
  have := List.length_filter_le (fun z => decide (W z = p) && q z) (List.range i)
  rwa [List.length_range] at this
theorem cut_is {q : Nat → Bool} {p : Nat} (h : 0 ≤ d p ∧ d p ≤ (evL W len p).length) (hq : ∀ z, z < len → (inC W d z ↔ q z = true)) : d p = ctN W q len p := by
  rw [← cut_count h]
  unfold ctN
  have e : ((List.range len).filter fun z => decide (W z = p) && decide (inC W d z)) = (List.range len).filter fun z => decide (W z = p) && q z := by
    refine List.filter_congr fun z hz => ?_
    have hz := List.mem_range.1 hz
    have e2 : decide (inC W d z) = q z := by rw [Bool.eq_iff_iff, decide_eq_true_eq, hq z hz]
    rw [e2]
  rw [e]
end Go.Proofs.Ytdcjacloejhmlaa
