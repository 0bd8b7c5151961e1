/- slices.Compact, by the shelf. -/
import Derived.Test.YtdcjacloejhmlaaRange
import Derived.Test.YtdcjacloejhmlaaOwn3
import Derived.Test.YtdcjacloejhmlaaFa
import Derived.Shelf.Slices.CompactI
namespace Go.Proofs.Ytdcjacloejhmlaa
open Go Go.RowKit Go.VC Go.Shelf
set_option linter.unusedSimpArgs false
set_option linter.unusedVariables false

def ren : Ren := ⟨fun k => if k = 20 then 78 else k, fun t => if t = 0 then 0 else if t = 3 then 3 else if t = 4 then 4 else if t = 22 then 23 else t, fun x => x⟩
theorem laid : Lays2.n20 Try.prog ren where
  mixed := by kernel_rfl
  f20 := by kernel_rfl
  t0 := by kernel_rfl
  a0 := fun w => by kernel_rfl
  z0 := fun w => by kernel_rfl
  v0 := fun w => by kernel_rfl
  t3 := by kernel_rfl
  a3 := fun w => by kernel_rfl
  z3 := fun w => by kernel_rfl
  v3 := fun w => by kernel_rfl
  t4 := by kernel_rfl
  a4 := fun w => by kernel_rfl
  z4 := fun w => by kernel_rfl
  v4 := fun w => by kernel_rfl
  t22 := by kernel_rfl
  a22 := fun w => by kernel_rfl
  z22 := fun w => by kernel_rfl
  v22 := fun w => by kernel_rfl
  i3 := by kernel_rfl

theorem compact_len (l : List Int) : (Lib.compact l).length ≤ l.length := by
  unfold Lib.compact Lib.compactUpTo
  rw [List.length_map]
  have := List.length_filter_le (Lib.keeps l.toArray) (List.range l.length)
  rwa [List.length_range] at this
theorem compact_any (B : Nat) (v : Value) (l : List Int) (w : World) (hv : OwnV w B 3 v (l.map (Value.int .i64))) (hl : l.length ≤ 1000) :
    Calls Try.prog 78 #[v] w fun e w' => ∃ u, e = .returned u ∧ (∃ A c, u = .slice A (Lib.compact l).length c ∧ Rd w' A ((Lib.compact l).map (Value.int .i64))) ∧ Agree (fun k => B ≤ k) w w' := by
  by_cases h0 : 0 < l.length
  · obtain ⟨g, c, rfl, hg1, hg2⟩ := hv.form (by rw [List.length_map]; exact h0)
    have hcap : l.length ≤ c := by
      obtain ⟨A', c', hv1, h1, h2⟩ := hv
      rw [List.length_map] at *
      cases hv1
      rcases h2 with ⟨e, _⟩ | ⟨g', cap, cur, e, _, _, h4, _⟩
      · cases e
      · cases e; exact h4
    have hH : Sort.Holds (Value.int .i64) w g 0 l.toArray := by
      intro j hj
      have hj : j < l.length := by simpa using hj
      obtain ⟨z1, z2⟩ := hv.at (j := j) (by rw [List.length_map]; exact hj)
      refine ⟨?_, by rw [Nat.zero_add]; exact z2⟩
      rw [Nat.zero_add, z1, List.getElem?_map, List.getElem?_eq_getElem hj]
      simp [hj]
    rw [List.length_map]
    refine (Any.slices_Compact_int laid g 0 c l w hH (by omega) hcap).mono fun e w' ⟨he, q, hw⟩ => ?_
    have hsz : (Lib.compact l ++ List.replicate (l.length - (Lib.compact l).length) 0).toArray.size = l.toArray.size := by
      have := compact_len l
      simp; omega
    have hH2 := Sort.holds_putRow (Value.int .i64) (Sort.ahead w q) g 0 l.toArray (Lib.compact l ++ List.replicate (l.length - (Lib.compact l).length) 0).toArray hH hsz
    refine ⟨_, he, ⟨_, c, rfl, fun _ => ⟨g, 0, rfl, by rw [hw]; simpa using hg2, fun j hj => ?_⟩⟩, ?_⟩
    · rw [List.length_map] at hj
      have := (hH2 j (by rw [hsz]; have := compact_len l; simp; omega)).1
      rw [hw, this, List.getElem?_map, List.getElem?_eq_getElem hj]
      simp [hj, List.getElem?_append_left]
    · rw [hw]
      refine ⟨rfl, rfl, rfl, by simp, fun k hk hX => ?_⟩
      have hkg : g ≠ k := by rintro rfl; exact hX hg1
      simp [Sort.putRow, Sort.mapBlock, Array.getElem?_modify, hkg]
  · obtain rfl : l = [] := List.length_eq_zero_iff.1 (by omega)
    obtain ⟨A, c, rfl, _⟩ := hv
    refine (Any.slices_Compact_int_empty laid A c w).mono fun e w' ⟨he, hw⟩ => ?_
    subst hw
    exact ⟨_, he, ⟨A, c, rfl, Rd.nil _ _⟩, Agree.refl _ _⟩
end Go.Proofs.Ytdcjacloejhmlaa
