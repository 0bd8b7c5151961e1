/- Acts: the checks; the rules of locks. -/
import Derived.Test.YtelfmhiaafkimaaRd3
import Derived.Test.YtelfmhiaafkimaaMapI
namespace Go.Proofs.Ytelfmhiaafkimaa
open Go Go.RowKit Go.VC
set_option linter.unusedSimpArgs false
set_option linter.unusedVariables false

def acBad (K T I : Nat → Int) (i : Nat) : Int := if K i < 1 ∨ 4 < K i then 4 else if T i < 0 ∨ 6 ≤ T i ∨ I i < 0 ∨ 4 ≤ I i then 2 else 0
open Classical in
noncomputable def acCode (K T I : Nat → Int) (len : Nat) : Int := if 60 < len then 1 else firstNZ (acBad K T I) len

set_option maxRecDepth 8000 in
set_option maxHeartbeats 1000000 in
theorem serialCheck_any (A : Option Addr) (len c : Nat) (K T I : Nat → Int) (w : World) (hr : Rd3 w A len K T I) :
    Calls Try.prog 42 #[.slice A len c] w fun e w' => e = .returned (.int .i64 (acCode K T I len)) ∧ Below w.heap.size w w' := by
  refine calls_vc (rs := [.tmp 2]) Fa.mix Try.func42 rfl Try.ntmps42 rfl (by kernel_rfl) (Nat.le_of_ble_eq_true rfl) ?_
  simp -dsimp (maxSteps := 2000000) only [Fa.F42, VC.Now, VC.vc, VC.lib, VC.mapN_drewN, VC.mapB_drewN, VC.regQ, VC.loopK, VC.reg, VC.opP, VC.opS, VC.opZ, VC.nomulB, VC.pv, VC.thenF, VC.blkF, VC.retF, VC.resV, VC.oneV, VC.evo, VC.bin, VC.binI, VC.cmpI, VC.arithI, VC.ldv, VC.slv, VC.pickP, VC.holds, VC.chainOf, VC.look, VC.junk, VC.put, VC.eff, VC.callee, VC.pureB, VC.rdK, VC.rdKs, VC.okKs, VC.eqKs, VC.fillL, VC.putL, VC.stW, VC.stOK, VC.mixF, VC.setAll, Nat.reduceAdd, Nat.reduceSub, Nat.reduceMul, if_true, if_false, ↓reduceIte, forall_const, implies_true, reduceCtorEq, ne_eq, Nat.reduceBNe, Nat.reduceBEq, IntKind.signed, Nat.reduceEqDiff, Nat.reduceLeDiff, Nat.reduceLT, eq_self, Int.reduceEq, Int.reduceLT, Int.reduceLE, Int.reduceAdd, Int.reduceSub, VC.regC_nil, VC.regC_cons, VC.regCK_eq, VC.callQ, VC.tailQ, VC.goCall, VC.chStep]
  refine ⟨fun h => ⟨ret_int (by unfold acCode; rw [if_pos (by omega)]), Below.refl _ _⟩, fun h => ?_⟩
  have hcode : acCode K T I len = firstNZ (acBad K T I) len := by unfold acCode; rw [if_neg (by omega)]
  rw [hcode]
  refine loop_slots Fa.mix [10] [2, 4, 11, 12, 13, 14, 15, 16, 17, 18, 19, 20, 21, 22, 23, 24, 25, 26, 27, 28, 29, 30, 31, 32, 33, 34, 35, 36, 37, 38, 39, 40] (fun m vs wr => ∃ k : Nat, k + m = len ∧ vs = [.int .i64 k] ∧ Below w.heap.size w wr ∧ ∀ j, j < k → acBad K T I j = 0) len (by kernel_rfl) rfl
    ⟨0, by omega, rfl, Below.refl _ _, fun j hj => absurd hj (by omega)⟩ ?_
  rintro m vs u wr ⟨k, hkm, rfl, hB, hz⟩
  by_cases hk : k < len
  · obtain ⟨b, o, rfl, hb, hc⟩ := (hr.below hB) (by omega)
    obtain ⟨h1, h2, h3, _⟩ := hc k hk
    simp -dsimp (maxSteps := 2000000) only [Fa.F42, rdI_of h1, h1, rdI_of h2, h2, rdI_of h3, h3, hb, VC.Now, VC.vc, VC.lib, VC.mapN_drewN, VC.mapB_drewN, VC.regQ, VC.loopK, VC.reg, VC.opP, VC.opS, VC.opZ, VC.nomulB, VC.pv, VC.thenF, VC.blkF, VC.retF, VC.resV, VC.oneV, VC.evo, VC.bin, VC.binI, VC.cmpI, VC.arithI, VC.ldv, VC.slv, VC.pickP, VC.holds, VC.chainOf, VC.look, VC.junk, VC.put, VC.eff, VC.callee, VC.pureB, VC.rdK, VC.rdKs, VC.okKs, VC.eqKs, VC.fillL, VC.putL, VC.stW, VC.stOK, VC.mixF, VC.setAll, Nat.reduceAdd, Nat.reduceSub, Nat.reduceMul, if_true, if_false, ↓reduceIte, forall_const, implies_true, reduceCtorEq, ne_eq, Nat.reduceBNe, Nat.reduceBEq, IntKind.signed, Nat.reduceEqDiff, Nat.reduceLeDiff, Nat.reduceLT, eq_self, Int.reduceEq, Int.reduceLT, Int.reduceLE, Int.reduceAdd, Int.reduceSub, VC.regC_nil, VC.regC_cons, VC.regCK_eq, VC.callQ, VC.tailQ, VC.goCall, VC.chStep]
    have hB0 : Below w.heap.size w (wr.alloc (.cells #[.int .i64 (K k), .int .i64 (T k), .int .i64 (I k)] 99)) := below_box hB _
    refine ⟨fun _ => ⟨by omega, fun u1 => ⟨fun h4 => ⟨ret_int ?_, hB0⟩, fun h4 u2 => ⟨fun h5 => ⟨ret_int ?_, hB0⟩, fun h5 => ⟨fits_i64_nat (by omega), SAME.intro (by kernel_rfl), m - 1, by omega, k + 1, by omega, rfl, hB0, fun j hj => ?_⟩⟩⟩⟩, fun h => absurd h (by omega)⟩
    · have h7 : acBad K T I k = 4 := by unfold acBad; rw [if_pos (by omega)]
      rw [firstNZ_hit hk hz (by omega), h7]
    · have h7 : acBad K T I k = 2 := by unfold acBad; rw [if_neg (by omega), if_pos (by omega)]
      rw [firstNZ_hit hk hz (by omega), h7]
    · by_cases hjk : j = k
      · subst hjk
        unfold acBad; rw [if_neg (by omega), if_neg (by omega)]
      · exact hz j (by omega)
  · obtain rfl : k = len := by omega
    simp -dsimp (maxSteps := 2000000) only [Fa.F42, VC.Now, VC.vc, VC.lib, VC.mapN_drewN, VC.mapB_drewN, VC.regQ, VC.loopK, VC.reg, VC.opP, VC.opS, VC.opZ, VC.nomulB, VC.pv, VC.thenF, VC.blkF, VC.retF, VC.resV, VC.oneV, VC.evo, VC.bin, VC.binI, VC.cmpI, VC.arithI, VC.ldv, VC.slv, VC.pickP, VC.holds, VC.chainOf, VC.look, VC.junk, VC.put, VC.eff, VC.callee, VC.pureB, VC.rdK, VC.rdKs, VC.okKs, VC.eqKs, VC.fillL, VC.putL, VC.stW, VC.stOK, VC.mixF, VC.setAll, Nat.reduceAdd, Nat.reduceSub, Nat.reduceMul, if_true, if_false, ↓reduceIte, forall_const, implies_true, reduceCtorEq, ne_eq, Nat.reduceBNe, Nat.reduceBEq, IntKind.signed, Nat.reduceEqDiff, Nat.reduceLeDiff, Nat.reduceLT, eq_self, Int.reduceEq, Int.reduceLT, Int.reduceLE, Int.reduceAdd, Int.reduceSub, VC.regC_nil, VC.regC_cons, VC.regCK_eq, VC.callQ, VC.tailQ, VC.goCall, VC.chStep]
    exact ⟨ret_int (firstNZ_miss hz).symm, hB⟩

set_option maxRecDepth 8000 in
set_option maxHeartbeats 1000000 in
theorem actsCheck_any (A : Option Addr) (len c : Nat) (K T I : Nat → Int) (w : World) (hr : Rd3 w A len K T I) :
    Calls Try.prog 13 #[.slice A len c] w fun e w' => e = .returned (.int .i64 (acCode K T I len)) ∧ Below w.heap.size w w' := by
  refine calls_vc (rs := [.tmp 2]) Fa.mix Try.func13 rfl Try.ntmps13 rfl (by kernel_rfl) (Nat.le_of_ble_eq_true rfl) ?_
  simp -dsimp (maxSteps := 2000000) only [Fa.F13, VC.Now, VC.vc, VC.lib, VC.mapN_drewN, VC.mapB_drewN, VC.regQ, VC.loopK, VC.reg, VC.opP, VC.opS, VC.opZ, VC.nomulB, VC.pv, VC.thenF, VC.blkF, VC.retF, VC.resV, VC.oneV, VC.evo, VC.bin, VC.binI, VC.cmpI, VC.arithI, VC.ldv, VC.slv, VC.pickP, VC.holds, VC.chainOf, VC.look, VC.junk, VC.put, VC.eff, VC.callee, VC.pureB, VC.rdK, VC.rdKs, VC.okKs, VC.eqKs, VC.fillL, VC.putL, VC.stW, VC.stOK, VC.mixF, VC.setAll, Nat.reduceAdd, Nat.reduceSub, Nat.reduceMul, if_true, if_false, ↓reduceIte, forall_const, implies_true, reduceCtorEq, ne_eq, Nat.reduceBNe, Nat.reduceBEq, IntKind.signed, Nat.reduceEqDiff, Nat.reduceLeDiff, Nat.reduceLT, eq_self, Int.reduceEq, Int.reduceLT, Int.reduceLE, Int.reduceAdd, Int.reduceSub, VC.regC_nil, VC.regC_cons, VC.regCK_eq, VC.callQ, VC.tailQ, VC.goCall, VC.chStep]
  refine ⟨fun h => ⟨ret_int (by unfold acCode; rw [if_pos (by omega)]), Below.refl _ _⟩, fun h => ?_⟩
  have hcode : acCode K T I len = firstNZ (acBad K T I) len := by unfold acCode; rw [if_neg (by omega)]
  rw [hcode]
  refine loop_slots Fa.mix [10] [2, 4, 11, 12, 13, 14, 15, 16, 17, 18, 19, 20, 21, 22, 23, 24, 25, 26, 27, 28, 29, 30, 31, 32, 33, 34, 35, 36, 37, 38, 39, 40] (fun m vs wr => ∃ k : Nat, k + m = len ∧ vs = [.int .i64 k] ∧ Below w.heap.size w wr ∧ ∀ j, j < k → acBad K T I j = 0) len (by kernel_rfl) rfl
    ⟨0, by omega, rfl, Below.refl _ _, fun j hj => absurd hj (by omega)⟩ ?_
  rintro m vs u wr ⟨k, hkm, rfl, hB, hz⟩
  by_cases hk : k < len
  · obtain ⟨b, o, rfl, hb, hc⟩ := (hr.below hB) (by omega)
    obtain ⟨h1, h2, h3, _⟩ := hc k hk
    simp -dsimp (maxSteps := 2000000) only [Fa.F13, rdI_of h1, h1, rdI_of h2, h2, rdI_of h3, h3, hb, VC.Now, VC.vc, VC.lib, VC.mapN_drewN, VC.mapB_drewN, VC.regQ, VC.loopK, VC.reg, VC.opP, VC.opS, VC.opZ, VC.nomulB, VC.pv, VC.thenF, VC.blkF, VC.retF, VC.resV, VC.oneV, VC.evo, VC.bin, VC.binI, VC.cmpI, VC.arithI, VC.ldv, VC.slv, VC.pickP, VC.holds, VC.chainOf, VC.look, VC.junk, VC.put, VC.eff, VC.callee, VC.pureB, VC.rdK, VC.rdKs, VC.okKs, VC.eqKs, VC.fillL, VC.putL, VC.stW, VC.stOK, VC.mixF, VC.setAll, Nat.reduceAdd, Nat.reduceSub, Nat.reduceMul, if_true, if_false, ↓reduceIte, forall_const, implies_true, reduceCtorEq, ne_eq, Nat.reduceBNe, Nat.reduceBEq, IntKind.signed, Nat.reduceEqDiff, Nat.reduceLeDiff, Nat.reduceLT, eq_self, Int.reduceEq, Int.reduceLT, Int.reduceLE, Int.reduceAdd, Int.reduceSub, VC.regC_nil, VC.regC_cons, VC.regCK_eq, VC.callQ, VC.tailQ, VC.goCall, VC.chStep]
    have hB0 : Below w.heap.size w (wr.alloc (.cells #[.int .i64 (K k), .int .i64 (T k), .int .i64 (I k)] 99)) := below_box hB _
    refine ⟨fun _ => ⟨by omega, fun u1 => ⟨fun h4 => ⟨ret_int ?_, hB0⟩, fun h4 u2 => ⟨fun h5 => ⟨ret_int ?_, hB0⟩, fun h5 => ⟨fits_i64_nat (by omega), SAME.intro (by kernel_rfl), m - 1, by omega, k + 1, by omega, rfl, hB0, fun j hj => ?_⟩⟩⟩⟩, fun h => absurd h (by omega)⟩
    · have h7 : acBad K T I k = 4 := by unfold acBad; rw [if_pos (by omega)]
      rw [firstNZ_hit hk hz (by omega), h7]
    · have h7 : acBad K T I k = 2 := by unfold acBad; rw [if_neg (by omega), if_pos (by omega)]
      rw [firstNZ_hit hk hz (by omega), h7]
    · by_cases hjk : j = k
      · subst hjk
        unfold acBad; rw [if_neg (by omega), if_neg (by omega)]
      · exact hz j (by omega)
  · obtain rfl : k = len := by omega
    simp -dsimp (maxSteps := 2000000) only [Fa.F13, VC.Now, VC.vc, VC.lib, VC.mapN_drewN, VC.mapB_drewN, VC.regQ, VC.loopK, VC.reg, VC.opP, VC.opS, VC.opZ, VC.nomulB, VC.pv, VC.thenF, VC.blkF, VC.retF, VC.resV, VC.oneV, VC.evo, VC.bin, VC.binI, VC.cmpI, VC.arithI, VC.ldv, VC.slv, VC.pickP, VC.holds, VC.chainOf, VC.look, VC.junk, VC.put, VC.eff, VC.callee, VC.pureB, VC.rdK, VC.rdKs, VC.okKs, VC.eqKs, VC.fillL, VC.putL, VC.stW, VC.stOK, VC.mixF, VC.setAll, Nat.reduceAdd, Nat.reduceSub, Nat.reduceMul, if_true, if_false, ↓reduceIte, forall_const, implies_true, reduceCtorEq, ne_eq, Nat.reduceBNe, Nat.reduceBEq, IntKind.signed, Nat.reduceEqDiff, Nat.reduceLeDiff, Nat.reduceLT, eq_self, Int.reduceEq, Int.reduceLT, Int.reduceLE, Int.reduceAdd, Int.reduceSub, VC.regC_nil, VC.regC_cons, VC.regCK_eq, VC.callQ, VC.tailQ, VC.goCall, VC.chStep]
    exact ⟨ret_int (firstNZ_miss hz).symm, hB⟩

theorem acCode_ok {K T I : Nat → Int} {len : Nat} (h : acCode K T I len = 0) : len ≤ 60 ∧ ∀ j, j < len → 1 ≤ K j ∧ K j ≤ 4 ∧ 0 ≤ T j ∧ T j < 6 ∧ 0 ≤ I j ∧ I j < 4 := by
  unfold acCode at h
  split at h
  · cases h
  · rename_i hl
    refine ⟨by omega, fun j hj => ?_⟩
    have := firstNZ_zero h j hj
    unfold acBad at this
    split at this
    · cases this
    · split at this
      · cases this
      · omega
end Go.Proofs.Ytelfmhiaafkimaa
