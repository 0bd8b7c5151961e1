/- A choice: is it more than half? -/
import Derived.Test.YtelfmhiaafkimaaPax1
namespace Go.Proofs.Ytelfmhiaafkimaa
open Go Go.RowKit Go.VC
set_option linter.unusedSimpArgs false
set_option linter.unusedVariables false

set_option maxRecDepth 8000 in
set_option maxHeartbeats 1000000 in
theorem most_any {w : World} {wb n : Nat} {a : Addr} {cs : List Value} (h : Box w wb (.slice (some a) n n :: cs)) (k : Nat) (hk : k ≤ 1000) :
    Calls Try.prog 117 #[ptrV wb, .int .i64 k] w fun e w' => e = .returned (.bool (decide (n < 2 * k))) ∧ Below w.heap.size w w' := by
  have m0 := h.at (i := 0) rfl
  have hml := h.1
  have hd : (decide ((n : Int) < 2 * (k : Int))) = decide (n < 2 * k) := decide_eq_decide.2 (by omega)
  refine calls_vc (rs := [.tmp 4]) Fa.mix Try.func117 rfl Try.ntmps117 rfl (by kernel_rfl) (Nat.le_of_ble_eq_true rfl) ?_
  simp -dsimp only [Fa.F117, rdSA_of m0, rdSN_of m0, rdSC_of m0, m0, hml, VC.Now, VC.vc, VC.lib, VC.mapN_drewN, VC.mapB_drewN, VC.regQ, VC.loopK, VC.reg, VC.opP, VC.pv, VC.thenF, VC.blkF, VC.retF, VC.resV, VC.oneV, VC.evo, VC.bin, VC.binI, VC.cmpI, VC.arithI, VC.ldv, VC.slv, VC.pickP, VC.holds, VC.chainOf, VC.look, VC.junk, VC.put, VC.eff, VC.callee, VC.pureB, VC.rdK, VC.rdKs, VC.okKs, VC.eqKs, VC.fillL, VC.putL, VC.stW, VC.stOK, VC.mixF, VC.setAll, Nat.reduceAdd, Nat.reduceSub, Nat.reduceMul, if_true, if_false, ↓reduceIte, forall_const, implies_true, reduceCtorEq, ne_eq, Nat.reduceBNe, Nat.reduceBEq, IntKind.signed, Nat.reduceEqDiff, Nat.reduceLeDiff, Nat.reduceLT, eq_self, Int.reduceEq, Int.reduceLT, Int.reduceLE, Int.reduceAdd, Int.reduceSub, VC.regC_nil, VC.regC_cons, VC.regCK_eq, VC.callQ, VC.tailQ, VC.goCall, VC.chStep]
  exact ⟨fits_i64 (by omega) (by omega), by rw [hd], Below.refl _ _⟩
end Go.Proofs.Ytelfmhiaafkimaa
