/- An assembly: what the program does. No program in sight. -/
import Derived.Test.YtnggjekppdlaoaaOnes
import Derived.Test.YtnggjekppdlaoaaHp
import Derived.Test.YtnggjekppdlaoaaChainPlain
namespace Go.Proofs.Ytnggjekppdlaoaa
open Go Go.RowKit Go.VC
set_option linter.unusedSimpArgs false
set_option linter.unusedVariables false

/-- A step. -/
structure Say where
  kind : Int
  who : Int
  block : Int
  round : Int
  high : Int
/-- How an assembly stands: blocks (parents, rounds), who has voted for each, up to which round each one voted, which round it knows; who gave which round up, and knew of which; how often. -/
structure MS where
  nb : Nat
  p : Nat → Int
  r : Nat → Int
  vm : Nat → Nat
  vd : Nat → Int
  kn : Nat → Int
  lt : Int × Int × Int → Prop
  gc : Int × Int → Nat
def certB (need : Nat) (s : MS) (b : Nat) : Bool := decide (b = 0) || decide (need ≤ ones (s.vm b))
open Classical in
/-- Who gave a round up, and knew of none above another one. -/
noncomputable def gaveN (s : MS) (round high : Int) (i : Nat) : Bool := decide (∃ h, h ≤ high ∧ s.lt (round, (i : Int), h))
noncomputable def passB (n need : Nat) (s : MS) (round high : Int) : Bool := decide (need ≤ (List.range n).countP (gaveN s round high))
noncomputable def agreesB (n need : Nat) (s : MS) (i b : Nat) : Bool :=
  decide (s.vd i < s.r b) && (decide (s.r (s.p b).toNat = s.r b - 1) || passB n need s (s.r b - 1) (s.r (s.p b).toNat))
def isBlk (s : MS) (b : Int) : Prop := 0 ≤ b ∧ b < s.nb
def maxI (a b : Int) : Int := if a < b then b else a
open Classical in
noncomputable def mblock (need : Nat) (c : Say) (s : MS) : Int × MS :=
  if ¬ isBlk s c.block ∨ c.round ≤ s.r c.block.toNat ∨ 1000 < c.round then (2, s)
  else if certB need s c.block.toNat = false then (6, s)
  else if s.nb = 40 then (7, s)
  else (0, { s with nb := s.nb + 1, p := upd s.p s.nb c.block, r := upd s.r s.nb c.round, vm := upd s.vm s.nb 0 })
open Classical in
noncomputable def mvote (n need liars i : Nat) (c : Say) (s : MS) : Int × MS :=
  if ¬ isBlk s c.block ∨ c.block = 0 then (2, s)
  else if (s.vm c.block.toNat).testBit i = true ∨ (liars.testBit i = false ∧ agreesB n need s i c.block.toNat = false) then (6, s)
  else if liars.testBit i = true then (0, { s with vm := upd s.vm c.block.toNat (s.vm c.block.toNat ||| 2 ^ i) })
  else (0, { s with vm := upd s.vm c.block.toNat (s.vm c.block.toNat ||| 2 ^ i), vd := upd s.vd i (s.r c.block.toNat), kn := upd s.kn i (maxI (s.kn i) (s.r (s.p c.block.toNat).toNat)) })
open Classical in
noncomputable def mlate (need liars i : Nat) (c : Say) (s : MS) : Int × MS :=
  if c.round < 1 ∨ 1000 < c.round then (2, s)
  else if liars.testBit i = true then
    (if ∃ b, b < s.nb ∧ s.r b = c.high ∧ certB need s b = true then (0, { s with lt := fun k => s.lt k ∨ k = (c.round, c.who, c.high) }) else (2, s))
  else if 0 < s.gc (c.who, c.round) then (6, { s with gc := fun k => if k = (c.who, c.round) then s.gc k + 1 else s.gc k })
  else (0, { s with gc := (fun k => if k = (c.who, c.round) then s.gc k + 1 else s.gc k), vd := upd s.vd i (maxI (s.vd i) c.round), lt := fun k => s.lt k ∨ k = (c.round, c.who, s.kn i) })
open Classical in
noncomputable def mlearn (need liars i : Nat) (c : Say) (s : MS) : Int × MS :=
  if ¬ isBlk s c.block then (2, s)
  else if certB need s c.block.toNat = false ∨ liars.testBit i = true then (6, s)
  else (0, { s with kn := upd s.kn i (maxI (s.kn i) (s.r c.block.toNat)) })
open Classical in
noncomputable def mstep (n need liars : Nat) (c : Say) (s : MS) : Int × MS :=
  if c.kind < 1 ∨ 4 < c.kind then (4, s)
  else if c.kind = 1 then mblock need c s
  else if c.who < 0 ∨ (n : Int) ≤ c.who then (2, s)
  else if c.kind = 2 then mvote n need liars c.who.toNat c s
  else if c.kind = 3 then mlate need liars c.who.toNat c s
  else mlearn need liars c.who.toNat c s
def ms0 : MS := ⟨1, fun _ => -1, fun _ => 0, fun _ => 0, fun _ => 0, fun _ => 0, fun _ => False, fun _ => 0⟩
/-- Behind k steps. -/
noncomputable def mst (n need liars : Nat) (f : Nat → Say) : Nat → MS
  | 0 => ms0
  | k + 1 => (mstep n need liars (f k) (mst n need liars f k)).2
noncomputable def mcode (n need liars : Nat) (f : Nat → Say) (k : Nat) : Int := (mstep n need liars (f k) (mst n need liars f k)).1

/-- What holds of an assembly behind t steps. -/
structure MOK (n t : Nat) (s : MS) : Prop where
  nb0 : 0 < s.nb
  nb1 : s.nb ≤ 40
  ok : BlkOK s.nb s.p s.r
  rr : ∀ b, b < s.nb → 0 ≤ s.r b ∧ s.r b ≤ 1000
  vm : ∀ b, s.vm b < 2 ^ n
  vd : ∀ i, 0 ≤ s.vd i ∧ s.vd i ≤ 1000
  kn : ∀ i, 0 ≤ s.kn i ∧ s.kn i ≤ 1000
  lt : ∀ k, s.lt k → (1 ≤ k.1 ∧ k.1 ≤ 1000) ∧ (0 ≤ k.2.1 ∧ k.2.1 < n) ∧ (0 ≤ k.2.2 ∧ k.2.2 ≤ 1000)
  gc : ∀ k, s.gc k ≤ t
theorem MOK.par {n t : Nat} {s : MS} (h : MOK n t s) {b : Nat} (h0 : 0 < b) (hb : b < s.nb) : 0 ≤ s.p b ∧ s.p b < b := up_of h.ok b h0 hb
theorem maxI_ok {a b : Int} (ha : 0 ≤ a ∧ a ≤ 1000) (hb : 0 ≤ b ∧ b ≤ 1000) : 0 ≤ maxI a b ∧ maxI a b ≤ 1000 := by unfold maxI; split <;> assumption
theorem mok0 (n : Nat) : MOK n 0 ms0 where
  nb0 := by show 0 < 1; omega
  nb1 := by show 1 ≤ 40; omega
  ok := ⟨rfl, rfl, fun i h0 hi => by have : i < 1 := hi; omega⟩
  rr := fun b _ => ⟨Int.le_refl 0, by show (0 : Int) ≤ 1000; omega⟩
  vm := fun b => Nat.pow_pos (by omega)
  vd := fun b => ⟨Int.le_refl 0, by show (0 : Int) ≤ 1000; omega⟩
  kn := fun b => ⟨Int.le_refl 0, by show (0 : Int) ≤ 1000; omega⟩
  lt := fun k h => h.elim
  gc := fun k => Nat.le_refl 0
theorem MOK.up {n t : Nat} {s : MS} (h : MOK n t s) : MOK n (t + 1) s := { h with gc := fun k => Nat.le_succ_of_le (h.gc k) }
theorem or_pow_lt {n m i : Nat} (hm : m < 2 ^ n) (hi : i < n) : m ||| 2 ^ i < 2 ^ n := Nat.or_lt_two_pow hm (Nat.pow_lt_pow_right (by omega) hi)
theorem mok_block {n t need : Nat} {s : MS} {c : Say} (h : MOK n t s) : MOK n t (mblock need c s).2 := by
  unfold mblock
  split
  · exact h
  rename_i h1
  rw [not_or, not_or, Classical.not_not] at h1
  obtain ⟨⟨h1, h2⟩, h3, h4⟩ := h1
  split
  · exact h
  split
  · exact h
  rename_i h5
  have hb := h.nb1
  have h0 := h.nb0
  have hlt : c.block.toNat < s.nb := by omega
  have hr := h.rr _ hlt
  refine ⟨by show 0 < s.nb + 1; omega, by show s.nb + 1 ≤ 40; omega, ⟨?_, ?_, fun i hi0 hi => ?_⟩, fun b hb => ?_, fun b => ?_, h.vd, h.kn, h.lt, h.gc⟩
  · show upd s.p s.nb c.block 0 = -1
    rw [upd_other (by omega)]; exact h.ok.1
  · show upd s.r s.nb c.round 0 = 0
    rw [upd_other (by omega)]; exact h.ok.2.1
  · show ¬ badB (upd s.p s.nb c.block) (upd s.r s.nb c.round) i
    have hi : i < s.nb + 1 := hi
    by_cases e : i = s.nb
    · subst e
      unfold badB
      rw [upd_same, upd_same, upd_other (by omega)]
      omega
    · have hok := h.ok.2.2 i hi0 (by omega)
      have hp := h.par hi0 (b := i) (by omega)
      unfold badB at hok ⊢
      rw [upd_other e, upd_other e, upd_other (by omega)]
      exact hok
  · show 0 ≤ upd s.r s.nb c.round b ∧ upd s.r s.nb c.round b ≤ 1000
    have hb : b < s.nb + 1 := hb
    by_cases e : b = s.nb
    · subst e; rw [upd_same]; omega
    · rw [upd_other e]; exact h.rr b (by omega)
  · show upd s.vm s.nb 0 b < 2 ^ n
    unfold upd; split
    · exact Nat.pow_pos (by omega)
    · exact h.vm b
theorem mok_vote {n t need liars i : Nat} {s : MS} {c : Say} (h : MOK n t s) (hi : i < n) : MOK n t (mvote n need liars i c s).2 := by
  unfold mvote
  split
  · exact h
  rename_i h1
  rw [not_or, Classical.not_not] at h1
  obtain ⟨⟨h1, h2⟩, h3⟩ := h1
  have hvm : ∀ b, upd s.vm c.block.toNat (s.vm c.block.toNat ||| 2 ^ i) b < 2 ^ n := fun b => by
    unfold upd; split
    · exact or_pow_lt (h.vm _) hi
    · exact h.vm b
  split
  · exact h
  split
  · exact { h with vm := hvm }
  · have hlt : c.block.toNat < s.nb := by omega
    have hp := h.par (b := c.block.toNat) (by omega) hlt
    refine { h with vm := hvm, vd := fun j => ?_, kn := fun j => ?_ }
    · show 0 ≤ upd s.vd i _ j ∧ upd s.vd i _ j ≤ 1000
      unfold upd; split
      · exact h.rr _ hlt
      · exact h.vd j
    · show 0 ≤ upd s.kn i _ j ∧ upd s.kn i _ j ≤ 1000
      unfold upd; split
      · exact maxI_ok (h.kn i) (h.rr _ (by omega))
      · exact h.kn j
theorem mok_late {n t need liars i : Nat} {s : MS} {c : Say} (h : MOK n t s) (hi : i < n) (hw : c.who = i) : MOK n (t + 1) (mlate need liars i c s).2 := by
  have hg : ∀ k, (if k = (c.who, c.round) then s.gc k + 1 else s.gc k) ≤ t + 1 := fun k => by
    have := h.gc k
    split <;> omega
  unfold mlate
  split
  · exact h.up
  rename_i h1
  split
  · split
    · rename_i hb
      obtain ⟨b, hb, hr, _⟩ := hb
      have := h.rr b hb
      refine { h.up with lt := fun k hk => hk.elim (h.lt k) ?_ }
      rintro rfl
      exact ⟨by omega, by show 0 ≤ c.who ∧ c.who < n; omega, by rw [← hr]; exact this⟩
    · exact h.up
  split
  · exact { h.up with gc := hg }
  · refine { h.up with gc := hg, vd := fun j => ?_, lt := fun k hk => hk.elim (h.lt k) ?_ }
    · show 0 ≤ upd s.vd i _ j ∧ upd s.vd i _ j ≤ 1000
      unfold upd; split
      · exact maxI_ok (h.vd i) (by omega)
      · exact h.vd j
    · rintro rfl
      exact ⟨by omega, by show 0 ≤ c.who ∧ c.who < n; omega, h.kn i⟩
theorem mok_learn {n t need liars i : Nat} {s : MS} {c : Say} (h : MOK n t s) : MOK n t (mlearn need liars i c s).2 := by
  unfold mlearn
  split
  · exact h
  rename_i h1
  rw [Classical.not_not] at h1
  obtain ⟨h1, h2⟩ := h1
  split
  · exact h
  · refine { h with kn := fun j => ?_ }
    show 0 ≤ upd s.kn i _ j ∧ upd s.kn i _ j ≤ 1000
    unfold upd; split
    · exact maxI_ok (h.kn i) (h.rr _ (by omega))
    · exact h.kn j
theorem mok_step {n t need liars : Nat} {s : MS} {c : Say} (h : MOK n t s) : MOK n (t + 1) (mstep n need liars c s).2 := by
  unfold mstep
  split
  · exact h.up
  split
  · exact (mok_block h).up
  split
  · exact h.up
  rename_i h2
  have hi : c.who.toNat < n := by omega
  split
  · exact (mok_vote h hi).up
  split
  · exact mok_late h hi (by omega)
  · exact (mok_learn h).up
theorem mok (n need liars : Nat) (f : Nat → Say) : ∀ t, MOK n t (mst n need liars f t)
  | 0 => mok0 n
  | t + 1 => mok_step (mok n need liars f t)
end Go.Proofs.Ytnggjekppdlaoaa
