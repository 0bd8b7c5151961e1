/- A choice, the document's: any step. -/
import Derived.Test.YtelfmhiaafkimaaPaxD6
import Derived.Test.YtelfmhiaafkimaaPaxD8
namespace Go.Proofs.Ytelfmhiaafkimaa
open Go Go.RowKit Go.VC
set_option linter.unusedSimpArgs false
set_option linter.unusedVariables false
section
variable {B n t : Nat} {a : PD} {s : PS} {V T : List Vow} {w : World}

set_option maxRecDepth 8000 in
set_option maxHeartbeats 4000000 in
theorem dpstep_any (h : Hp B (PDObs n a (begL s) V T s.fixd) w) (hd : PRel n t s V T) (hok : POK n t s) (ht : t ≤ 120) (hn : n ≤ 5) (c : TryC) (hc : fits .i64 c.ballot) :
    Calls Try.prog 47 #[ptrV a.mb, tryV c] w (PDPost B n t a s V T w (pstep n c s)) := by
  by_cases k1 : c.kind = 1
  · exact dbegin_any h hd hok ht hn c hc k1
  by_cases k2 : c.kind = 2
  · exact daskBut.2 dask_rest B n t a s V T w h hd hok ht hn c hc k2
  by_cases k3 : c.kind = 3
  · exact dtakeBut.2 dtake_rest B n t a s V T w h hd hok ht hn c hc k3
  have x0 := Box.new w (tryL c) 107
  have hB0 : Below w.heap.size w (w.alloc (.cells (tryL c).toArray 107)) := (Below.refl _ _).alloc (Nat.le_refl _) _
  have hr : pstep n c s = (4, s) := by unfold pstep; rw [if_pos (by omega)]
  have e1 := eq_false k1
  have e2 := eq_false k2
  have e3 := eq_false k3
  refine calls_vc (rs := [.tmp 4, .tmp 5]) Fa.mix Try.func47 rfl Try.ntmps47 rfl (by kernel_rfl) (Nat.le_of_ble_eq_true rfl) ?_
  (repeat rw [vc_seq]); refine vc_plain _ fun Q hQ => ?_; simp -dsimp only [Fa.F47, VC.Now, VC.vc_skip, VC.vc_ret, VC.vc_exit, VC.vc_block, VC.vc_cond, VC.vc_region, VC.lib, VC.mapN_drewN, VC.mapB_drewN, VC.regQ, VC.loopK, VC.reg, VC.opP, VC.pv, VC.thenF, VC.blkF, VC.retF, VC.resV, VC.oneV, VC.evo, VC.bin, VC.binI, VC.cmpI, VC.arithI, VC.ldv, VC.slv, VC.pickP, VC.holds, VC.chainOf, VC.look, VC.junk, VC.put, VC.eff, VC.callee, VC.pureB, VC.rdK, VC.rdKs, VC.okKs, VC.eqKs, VC.fillL, VC.putL, VC.stW, VC.stOK, VC.mixF, VC.setAll, Nat.reduceAdd, Nat.reduceSub, Nat.reduceMul, if_true, if_false, ↓reduceIte, forall_const, implies_true, reduceCtorEq, ne_eq, Nat.reduceBNe, Nat.reduceBEq, IntKind.signed, Nat.reduceEqDiff, Nat.reduceLeDiff, Nat.reduceLT, eq_self, Int.reduceEq, Int.reduceLT, Int.reduceLE, Int.reduceAdd, Int.reduceSub, VC.regC_nil, VC.regC_cons, VC.regCK_eq, VC.callQ, VC.tailQ, VC.goCall, VC.chStep]
  change Q _ _ (w.alloc (.cells (tryL c).toArray 107))
  generalize w.alloc (.cells (tryL c).toArray 107) = w1 at x0 hB0 ⊢
  generalize hsb : w.heap.size = sb at x0 ⊢
  have z0 := x0.at (i := 0) rfl
  subst hQ
  simp -dsimp only [Fa.F47, rdI_of z0, z0, e1, e2, e3, undef, tu, uf, ul, ur, VC.Now, VC.vc, VC.lib, VC.mapN_drewN, VC.mapB_drewN, VC.regQ, VC.loopK, VC.reg, VC.opP, VC.pv, VC.thenF, VC.blkF, VC.retF, VC.resV, VC.oneV, VC.evo, VC.bin, VC.binI, VC.cmpI, VC.arithI, VC.ldv, VC.slv, VC.pickP, VC.holds, VC.chainOf, VC.look, VC.junk, VC.put, VC.eff, VC.callee, VC.pureB, VC.rdK, VC.rdKs, VC.okKs, VC.eqKs, VC.fillL, VC.putL, VC.stW, VC.stOK, VC.mixF, VC.setAll, Nat.reduceAdd, Nat.reduceSub, Nat.reduceMul, if_true, if_false, ↓reduceIte, forall_const, implies_true, reduceCtorEq, ne_eq, Nat.reduceBNe, Nat.reduceBEq, IntKind.signed, Nat.reduceEqDiff, Nat.reduceLeDiff, Nat.reduceLT, eq_self, Int.reduceEq, Int.reduceLT, Int.reduceLE, Int.reduceAdd, Int.reduceSub, VC.regC_nil, VC.regC_cons, VC.regCK_eq, VC.callQ, VC.tailQ, VC.goCall, VC.chStep]
  exact PDPost.same h hd hB0 hr
end
end Go.Proofs.Ytelfmhiaafkimaa
