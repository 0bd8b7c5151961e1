/- One bit, by a shift. Over any program. -/
import Derived.Test.YtelfmhiaafkimaaBitsPlain
import Derived.Test.YtelfmhiaafkimaaOwn
namespace Go.VC
open Go Go.RowKit
set_option linter.unusedVariables false
set_option linter.unusedSimpArgs false

theorem shr_eq64 {w n : Nat} (hn : n < 64) : (w : Int).fdiv (2 ^ shN .u64 (n : Int)) = ((w / 2 ^ n : Nat) : Int) := by
  rw [shN_lt64 hn]
  have : ((2 : Int) ^ n) = ((2 ^ n : Nat) : Int) := by simp
  rw [this, Int.fdiv_eq_ediv_of_nonneg _ (Int.natCast_nonneg _)]
  simp
theorem shr_and {w i : Nat} (hw : w < 4294967296) (hi : i < 32) : bits .and .u32 ((w : Int).fdiv (2 ^ shN .u32 (i : Int))) 1 = if w.testBit i then 1 else 0 := by
  rw [shr_eq hi]
  have h1 : w / 2 ^ i < 4294967296 := Nat.lt_of_le_of_lt (Nat.div_le_self _ _) hw
  have e := u32_and_nat (w / 2 ^ i) 1 h1 (by omega)
  rw [show ((1 : Nat) : Int) = 1 from rfl] at e
  rw [e, Nat.and_one_is_mod, Nat.testBit_eq_decide_div_mod_eq]
  have := Nat.mod_two_eq_zero_or_one (w / 2 ^ i)
  rcases this with h | h <;> simp [h]
theorem shr_and64 {w i : Nat} (hw : w < 18446744073709551616) (hi : i < 64) : bits .and .u64 ((w : Int).fdiv (2 ^ shN .u64 (i : Int))) 1 = if w.testBit i then 1 else 0 := by
  rw [shr_eq64 hi]
  have h1 : w / 2 ^ i < 18446744073709551616 := Nat.lt_of_le_of_lt (Nat.div_le_self _ _) hw
  have e := u64_and_nat (w / 2 ^ i) 1 h1 (by omega)
  rw [show ((1 : Nat) : Int) = 1 from rfl] at e
  rw [e, Nat.and_one_is_mod, Nat.testBit_eq_decide_div_mod_eq]
  have := Nat.mod_two_eq_zero_or_one (w / 2 ^ i)
  rcases this with h | h <;> simp [h]
theorem bit01_zero {b : Bool} : ((if b = true then (1 : Int) else 0) = 0) = (b = false) := by cases b <;> simp
theorem bit01_one {b : Bool} : ((if b = true then (1 : Int) else 0) = 1) = (b = true) := by cases b <;> simp
/-- '(a | b) >> n', is something there? -/
theorem or_high {a b n : Nat} (ha : a < 4294967296) (hb : b < 4294967296) (hn : n < 32) : ((bits .or .u32 (a : Int) (b : Int)).fdiv (2 ^ shN .u32 (n : Int)) = 0) = (a < 2 ^ n ∧ b < 2 ^ n) := by
  rw [u32_or_nat a b ha hb, shr_zero hn]
  exact propext ⟨fun h => ⟨Nat.lt_of_le_of_lt Nat.left_le_or h, Nat.lt_of_le_of_lt Nat.right_le_or h⟩, fun h => Nat.or_lt_two_pow h.1 h.2⟩
theorem fits_u64 {k : Int} (h0 : 0 ≤ k) (h1 : k ≤ 18446744073709551615) : fits .u64 k := by
  unfold fits; simp [IntKind.min, IntKind.max, IntKind.bits, IntKind.signed]; omega

/-- u64 numbers that came in. -/
theorem Rd.of_argU64 {w : World} {A : Option Addr} {n : Nat} (h : ArgS w A n 1 [.i .u64]) : ∃ l : List Nat, l.length = n ∧ Rd w A (l.map (fun (v : Nat) => Value.int .u64 v)) ∧ ∀ x ∈ l, x < 18446744073709551616 := by
  obtain ⟨l, hl, hr, hf⟩ := Rd.of_arg h
  have hpos : ∀ x ∈ l, 0 ≤ x ∧ x < 18446744073709551616 := fun x hx => by
    obtain ⟨h1, h2⟩ := hf x hx
    simp [IntKind.min, IntKind.max, IntKind.bits, IntKind.signed] at h1 h2
    omega
  refine ⟨l.map Int.toNat, by simpa using hl, ?_, fun x hx => ?_⟩
  · have e : (l.map Int.toNat).map (fun (v : Nat) => Value.int .u64 v) = l.map (Value.int .u64) := by
      rw [List.map_map]
      exact List.map_congr_left fun x hx => by simp only [Function.comp]; rw [Int.toNat_of_nonneg (hpos x hx).1]
    rw [e]; exact hr
  · obtain ⟨y, hy, rfl⟩ := List.mem_map.1 hx
    have := hpos y hy; omega
theorem u32_of {k : Int} (h : fits .u32 k) : ∃ v : Nat, k = v ∧ v < 4294967296 := by
  obtain ⟨h1, h2⟩ := h
  simp [IntKind.min, IntKind.max, IntKind.bits, IntKind.signed] at h1 h2
  exact ⟨k.toNat, by omega, by omega⟩

/-- What a region does, told by itself. -/
def cutQ (R : Array Value → World → Prop) : Exit → Array Value → World → Prop
  | .normal, f, w => R f w
  | _, _, _ => False
theorem WP_cut {X : Ctx} {P : Program} {n : Nat} {c : Code} {Q : Exit → Array Value → World → Prop} {f : Array Value} {w : World} (R : Array Value → Array Value → World → Prop) (h : WP X P n c (cutQ (R f)) f w) (hk : ∀ f' w', R f f' w' → Now (Q .normal f' w')) : WP X P n c Q f w := by
  refine wpIn_mono (F := X.F) h ?_
  rintro e a w' ⟨h1, h2, h3⟩
  cases e with
  | normal => exact ⟨h1, h2, hk _ _ h3⟩
  | _ => exact h3.elim

/-- A table of n entries, filled up to j. -/
def tabL {α : Type} (n : Nat) (f : Nat → α) (d : α) (j : Nat) : List α := (List.range n).map fun x => if x < j then f x else d
theorem tabL_length {α : Type} (n : Nat) (f : Nat → α) (d : α) (j : Nat) : (tabL n f d j).length = n := by simp [tabL]
theorem tabL_zero {α : Type} (n : Nat) (f : Nat → α) (d : α) : tabL n f d 0 = List.replicate n d := by simp [tabL, List.map_const']
theorem tabL_full {α : Type} (n : Nat) (f : Nat → α) (d : α) : tabL n f d n = (List.range n).map f := List.map_congr_left fun x hx => by rw [if_pos (List.mem_range.1 hx)]
theorem tabL_get {α : Type} {n : Nat} {f : Nat → α} {d : α} {j x : Nat} (h : x < n) : (tabL n f d j)[x]? = some (if x < j then f x else d) := by simp [tabL, h]
theorem tabL_set {α : Type} (n : Nat) (f : Nat → α) (d : α) (j : Nat) : (tabL n f d j).set j (f j) = tabL n f d (j + 1) := by
  apply List.ext_getElem
  · simp [tabL]
  · intro k h1 h2
    rw [List.getElem_set]
    simp only [tabL, List.getElem_map, List.getElem_range]
    by_cases h : j = k
    · subst h; rw [if_pos rfl, if_pos (by omega)]
    · rw [if_neg h]
      by_cases h3 : k < j
      · rw [if_pos h3, if_pos (by omega)]
      · rw [if_neg h3, if_neg (by omega)]
end Go.VC
