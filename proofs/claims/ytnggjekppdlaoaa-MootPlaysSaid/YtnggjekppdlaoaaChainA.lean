/- Blocks: what is wrong with them; the program's check. -/
import Derived.Test.YtnggjekppdlaoaaFa
import Derived.Test.YtnggjekppdlaoaaOwn
namespace Go.Proofs.Ytnggjekppdlaoaa
open Go Go.RowKit Go.VC
set_option linter.unusedSimpArgs false
set_option linter.unusedVariables false

/-- A slice of n blocks: parents p, rounds r. -/
def RdBlk (w : World) (A : Option Addr) (n : Nat) (p r : Nat → Int) : Prop :=
  0 < n → ∃ b o, A = some ⟨b, o, none⟩ ∧ b < w.heap.size ∧ ∀ i, i < n → w.cell? ⟨b, o + i * 2, none⟩ = some (.int .i64 (p i)) ∧ w.cell? ⟨b, o + i * 2 + 1, none⟩ = some (.int .i64 (r i)) ∧ fits .i64 (p i) ∧ fits .i64 (r i)

theorem RdBlk.of_arg {w : World} {A : Option Addr} {n : Nat} (h : ArgS w A n 2 [.i .i64, .i .i64]) : ∃ p r, RdBlk w A n p r := by
  by_cases h0 : 0 < n
  · obtain ⟨b, o, rfl, hb, hc⟩ := h h0
    refine ⟨fun i => rdI w ⟨b, o + i * 2, none⟩, fun i => rdI w ⟨b, o + i * 2 + 1, none⟩, fun _ => ⟨b, o, rfl, hb, fun i hi => ?_⟩⟩
    obtain ⟨h1, n1, h1', h1f⟩ := hc i hi 0 _ rfl
    obtain ⟨h2, n2, h2', h2f⟩ := hc i hi 1 _ rfl
    simp only [rdK, Value.int.injEq, true_and] at h1' h2'
    rw [h1'.symm] at h1f; rw [h2'.symm] at h2f
    exact ⟨h1, h2, h1f, h2f⟩
  · exact ⟨fun _ => 0, fun _ => 0, fun h => absurd h h0⟩

theorem RdBlk.below {w w' : World} {A : Option Addr} {n : Nat} {p r : Nat → Int} (h : RdBlk w A n p r) (hb : Below w.heap.size w w') : RdBlk w' A n p r := by
  intro h0
  obtain ⟨b, o, rfl, hlt, hc⟩ := h h0
  exact ⟨b, o, rfl, Nat.lt_of_lt_of_le hlt hb.size, fun i hi => ⟨(hb.cell (p := ⟨b, _, none⟩) hlt).trans (hc i hi).1, (hb.cell (p := ⟨b, _, none⟩) hlt).trans (hc i hi).2.1, (hc i hi).2.2⟩⟩

def badB (p r : Nat → Int) (i : Nat) : Prop := p i < 0 ∨ (i : Int) ≤ p i ∨ r i ≤ r (p i).toNat
def BlkOK (n : Nat) (p r : Nat → Int) : Prop := p 0 = -1 ∧ r 0 = 0 ∧ ∀ i, 0 < i → i < n → ¬ badB p r i
open Classical in
noncomputable def blkCode (n : Nat) (p r : Nat → Int) : Int := if 40 < n then 1 else if n = 0 then 5 else if BlkOK n p r then 0 else 3

theorem blkCode_1 {n : Nat} {p r : Nat → Int} (h : 40 < n) : blkCode n p r = 1 := by unfold blkCode; rw [if_pos h]
theorem blkCode_5 {n : Nat} {p r : Nat → Int} (h : n = 0) : blkCode n p r = 5 := by unfold blkCode; rw [if_neg (by omega), if_pos h]
theorem blkCode_0 {n : Nat} {p r : Nat → Int} (h1 : ¬ 40 < n) (h2 : ¬ n = 0) (h : BlkOK n p r) : blkCode n p r = 0 := by unfold blkCode; rw [if_neg h1, if_neg h2, if_pos h]
theorem blkCode_3 {n : Nat} {p r : Nat → Int} (h1 : ¬ 40 < n) (h2 : ¬ n = 0) (h : ¬ BlkOK n p r) : blkCode n p r = 3 := by unfold blkCode; rw [if_neg h1, if_neg h2, if_neg h]


set_option maxHeartbeats 1000000 in
theorem chainCheck_any (A : Option Addr) (n c : Nat) (p r : Nat → Int) (w : World) (hr : RdBlk w A n p r) :
    Calls Try.prog 73 #[.slice A n c] w fun e w' => e = .returned (.int .i64 (blkCode n p r)) ∧ Below w.heap.size w w' := by
  by_cases h0 : n = 0
  · refine calls_vc (rs := [.tmp 2]) Fa.mix Try.func73 rfl Try.ntmps73 rfl (by kernel_rfl) (Nat.le_of_ble_eq_true rfl) ?_
    simp -dsimp only [Fa.F73, VC.Now, VC.vc, VC.lib, VC.regQ, VC.loopK, VC.reg, VC.opP, VC.pv, VC.thenF, VC.blkF, VC.retF, VC.resV, VC.oneV, VC.evo, VC.bin, VC.binI, VC.cmpI, VC.arithI, VC.ldv, VC.slv, VC.pickP, VC.holds, VC.chainOf, VC.look, VC.junk, VC.put, VC.eff, VC.callee, VC.pureB, VC.rdK, VC.rdKs, VC.okKs, VC.eqKs, VC.fillL, VC.putL, VC.stW, VC.stOK, VC.mixF, VC.setAll, Nat.reduceAdd, Nat.reduceSub, Nat.reduceMul, if_true, if_false, ↓reduceIte, forall_const, implies_true, reduceCtorEq, ne_eq, Nat.reduceBNe, Nat.reduceBEq, IntKind.signed, Nat.reduceEqDiff, Nat.reduceLeDiff, Nat.reduceLT, eq_self, Int.reduceEq, Int.reduceLT, Int.reduceLE, Int.reduceAdd, Int.reduceSub, VC.regC_nil, VC.regC_cons, VC.regCK_eq, VC.callQ, VC.tailQ, VC.goCall, VC.chStep]
    refine ⟨fun h => absurd h (by omega), fun _ => ⟨fun _ => ⟨ret_int (blkCode_5 h0).symm, Below.refl _ _⟩, fun h => absurd h (by omega)⟩⟩
  obtain ⟨b, o, rfl, hb, hc⟩ := hr (by omega)
  refine calls_vc (rs := [.tmp 2]) Fa.mix Try.func73 rfl Try.ntmps73 rfl (by kernel_rfl) (Nat.le_of_ble_eq_true rfl) ?_
  simp -dsimp only [Fa.F73, VC.Now, VC.vc, VC.lib, VC.regQ, VC.loopK, VC.reg, VC.opP, VC.pv, VC.thenF, VC.blkF, VC.retF, VC.resV, VC.oneV, VC.evo, VC.bin, VC.binI, VC.cmpI, VC.arithI, VC.ldv, VC.slv, VC.pickP, VC.holds, VC.chainOf, VC.look, VC.junk, VC.put, VC.eff, VC.callee, VC.pureB, VC.rdK, VC.rdKs, VC.okKs, VC.eqKs, VC.fillL, VC.putL, VC.stW, VC.stOK, VC.mixF, VC.setAll, Nat.reduceAdd, Nat.reduceSub, Nat.reduceMul, if_true, if_false, ↓reduceIte, forall_const, implies_true, reduceCtorEq, ne_eq, Nat.reduceBNe, Nat.reduceBEq, IntKind.signed, Nat.reduceEqDiff, Nat.reduceLeDiff, Nat.reduceLT, eq_self, Int.reduceEq, Int.reduceLT, Int.reduceLE, Int.reduceAdd, Int.reduceSub, VC.regC_nil, VC.regC_cons, VC.regCK_eq, VC.callQ, VC.tailQ, VC.goCall, VC.chStep]
  refine ⟨fun h => ⟨ret_int (blkCode_1 (by omega)).symm, Below.refl _ _⟩, fun h1 => ⟨fun h => absurd h (by omega), fun h2 => ?_⟩⟩
  refine loop_slots Fa.mix [13] [2, 3, 4, 14, 15, 16, 17, 18, 19, 20, 21, 22, 23, 24, 25, 26, 27, 28, 29, 30, 31, 32, 33, 34, 35, 36, 37, 38, 39, 40, 41, 42, 43, 44, 45, 46, 47, 48, 49, 50, 51] (fun m vs wr => ∃ k : Nat, k + m = n ∧ vs = [.int .i64 k] ∧ Below w.heap.size w wr ∧ (0 < k → p 0 = -1 ∧ r 0 = 0) ∧ ∀ j, 0 < j → j < k → ¬ badB p r j) n (by kernel_rfl) rfl
      ⟨0, by omega, rfl, Below.refl _ _, fun h => absurd h (by omega), fun j h1 h2 => absurd h2 (by omega)⟩ ?_
  rintro m vs u wr ⟨k, hkm, rfl, hB, h00, hbad⟩
  by_cases hk : k < n
  · obtain ⟨hpk, hrk, _, _⟩ := hc k hk
    rw [← hB.cell (p := ⟨b, _, none⟩) hb] at hpk hrk
    have hq : ¬ (p k < 0 ∨ (k : Int) ≤ p k) → wr.cell? ⟨b, o + (p k).toNat * 2 + 1, none⟩ = some (.int .i64 (r (p k).toNat)) :=
        fun h => (hB.cell (p := ⟨b, _, none⟩) hb).trans (hc (p k).toNat (by omega)).2.1
    have hbw : b < wr.heap.size := Nat.lt_of_lt_of_le hb hB.size
    simp -dsimp only [Fa.F73, rdI_of hpk, rdI_of hrk, hpk, hrk, hbw, VC.Now, VC.vc, VC.lib, VC.regQ, VC.loopK, VC.reg, VC.opP, VC.pv, VC.thenF, VC.blkF, VC.retF, VC.resV, VC.oneV, VC.evo, VC.bin, VC.binI, VC.cmpI, VC.arithI, VC.ldv, VC.slv, VC.pickP, VC.holds, VC.chainOf, VC.look, VC.junk, VC.put, VC.eff, VC.callee, VC.pureB, VC.rdK, VC.rdKs, VC.okKs, VC.eqKs, VC.fillL, VC.putL, VC.stW, VC.stOK, VC.mixF, VC.setAll, Nat.reduceAdd, Nat.reduceSub, Nat.reduceMul, if_true, if_false, ↓reduceIte, forall_const, implies_true, reduceCtorEq, ne_eq, Nat.reduceBNe, Nat.reduceBEq, IntKind.signed, Nat.reduceEqDiff, Nat.reduceLeDiff, Nat.reduceLT, eq_self, Int.reduceEq, Int.reduceLT, Int.reduceLE, Int.reduceAdd, Int.reduceSub, VC.regC_nil, VC.regC_cons, VC.regCK_eq, VC.callQ, VC.tailQ, VC.goCall, VC.chStep]
    have hf : Below w.heap.size w (wr.alloc (.cells #[.int .i64 (p k), .int .i64 (r k)] 116)) := below_box hB _
    refine ⟨fun _ => ⟨⟨by omega, by omega⟩, fun _ => by omega, fun h => ?_, fun u' d => ⟨fun h => ?_, fun h => ?_⟩⟩, fun h => absurd h (by omega)⟩
    · have := hq (by omega)
      rw [rdI_of this]; exact this
    · refine ⟨ret_int (blkCode_3 (by omega) h0 ?_).symm, below_drewN hf d⟩
      rintro ⟨ha, hb0, hall⟩
      rcases h with ⟨h1, h2⟩ | ⟨h1, h2⟩
      · obtain rfl : k = 0 := by omega
        exact h2 ha hb0
      · refine hall k (by omega) hk ?_
        by_cases hc1 : p k < 0 ∨ (k : Int) ≤ p k
        · exact hc1.elim .inl (fun h => .inr (.inl h))
        · rw [rdI_of (hq hc1)] at h2
          exact .inr (.inr (h2.resolve_left hc1))
    · have h3 : k = 0 → p k = -1 ∧ r k = 0 := fun hk0 => Classical.byContradiction fun hn => h (.inl ⟨by omega, fun h1 h2 => hn ⟨h1, h2⟩⟩)
      have h4 : 0 < k → ¬((p k < 0 ∨ (k : Int) ≤ p k) ∨ r k ≤ rdI wr ⟨b, o + (p k).toNat * 2 + 1, none⟩) := fun hk0 hh => h (.inr ⟨by omega, hh⟩)
      refine ⟨fits_i64_nat (by omega), SAME.intro (by kernel_rfl), m - 1, by omega, k + 1, by omega, rfl, below_drewN hf d, fun _ => ?_, fun j h1 h2 => ?_⟩
      · by_cases hk0 : k = 0
        · subst hk0; exact h3 rfl
        · exact h00 (by omega)
      · by_cases hjk : j = k
        · subst hjk
          have h5 := h4 (by omega)
          rw [rdI_of (hq (by omega))] at h5
          unfold badB
          omega
        · exact hbad j h1 (by omega)
  · obtain rfl : k = n := by omega
    simp -dsimp only [Fa.F73, VC.Now, VC.vc, VC.lib, VC.regQ, VC.loopK, VC.reg, VC.opP, VC.pv, VC.thenF, VC.blkF, VC.retF, VC.resV, VC.oneV, VC.evo, VC.bin, VC.binI, VC.cmpI, VC.arithI, VC.ldv, VC.slv, VC.pickP, VC.holds, VC.chainOf, VC.look, VC.junk, VC.put, VC.eff, VC.callee, VC.pureB, VC.rdK, VC.rdKs, VC.okKs, VC.eqKs, VC.fillL, VC.putL, VC.stW, VC.stOK, VC.mixF, VC.setAll, Nat.reduceAdd, Nat.reduceSub, Nat.reduceMul, if_true, if_false, ↓reduceIte, forall_const, implies_true, reduceCtorEq, ne_eq, Nat.reduceBNe, Nat.reduceBEq, IntKind.signed, Nat.reduceEqDiff, Nat.reduceLeDiff, Nat.reduceLT, eq_self, Int.reduceEq, Int.reduceLT, Int.reduceLE, Int.reduceAdd, Int.reduceSub, VC.regC_nil, VC.regC_cons, VC.regCK_eq, VC.callQ, VC.tailQ, VC.goCall, VC.chStep]
    exact ⟨ret_int (blkCode_0 (by omega) h0 ⟨(h00 (by omega)).1, (h00 (by omega)).2, hbad⟩).symm, hB⟩

end Go.Proofs.Ytnggjekppdlaoaa
