/- An assembly in memory: a step. -/
import Derived.Test.YtnggjekppdlaoaaMoot4
namespace Go.Proofs.Ytnggjekppdlaoaa
open Go Go.RowKit Go.VC
set_option linter.unusedSimpArgs false
set_option linter.unusedVariables false
section
variable {B n need liars t : Nat} {a : MA} {s : MS} {w : World}
theorem MPost.lift {w2 w' : World} {r : Int × MS} {e : Ending} (h : Hp B (MObs n need liars a s) w) (hB : Below w.heap.size w w2) (k : MPost B n need liars a s w2 r e w') : MPost B n need liars a s w r e w' := by
  obtain ⟨h1, vb, vv, nl, ng, h2, h3, h4⟩ := k
  exact ⟨h1, vb, vv, nl, ng, h2, h3, (h.below_st hB).trans h4⟩
theorem mstep_1 {c : Say} (h : c.kind = 1) : mstep n need liars c s = mblock need c s := by unfold mstep; rw [if_neg (by omega), if_pos h]
theorem mstep_b {c : Say} (h : c.kind < 1 ∨ 4 < c.kind) : mstep n need liars c s = (4, s) := by unfold mstep; rw [if_pos h]
theorem mstep_w {c : Say} (h1 : 2 ≤ c.kind) (h2 : c.kind ≤ 4) (h : c.who < 0 ∨ (n : Int) ≤ c.who) : mstep n need liars c s = (2, s) := by unfold mstep; rw [if_neg (by omega), if_neg (by omega), if_pos h]
theorem mstep_2 {c : Say} (h : c.kind = 2) (hw : ¬ (c.who < 0 ∨ (n : Int) ≤ c.who)) : mstep n need liars c s = mvote n need liars c.who.toNat c s := by unfold mstep; rw [if_neg (by omega), if_neg (by omega), if_neg hw, if_pos h]
theorem mstep_3 {c : Say} (h : c.kind = 3) (hw : ¬ (c.who < 0 ∨ (n : Int) ≤ c.who)) : mstep n need liars c s = mlate need liars c.who.toNat c s := by unfold mstep; rw [if_neg (by omega), if_neg (by omega), if_neg hw, if_neg (by omega), if_pos h]
theorem mstep_4 {c : Say} (h : c.kind = 4) (hw : ¬ (c.who < 0 ∨ (n : Int) ≤ c.who)) : mstep n need liars c s = mlearn need liars c.who.toNat c s := by unfold mstep; rw [if_neg (by omega), if_neg (by omega), if_neg hw, if_neg (by omega), if_neg (by omega)]

set_option maxRecDepth 8000 in
set_option maxHeartbeats 4000000 in
theorem step_any (h : Hp B (MObs n need liars a s) w) (hok : MOK n t s) (hn : n ≤ 32) (hnd : need ≤ 1000) (hl : liars < 4294967296) (ht : t ≤ 1000) (hnl : a.nl ≤ 1000) (hng : a.ng ≤ 1000) {c : Say} (hc : SayOK c) :
    Calls Try.prog 47 #[.pointer (some ⟨a.mb, 0, none⟩), sayV c] w (MPost B n need liars a s w (mstep n need liars c s)) := by
  have hB0 : Below w.heap.size w (w.alloc (.cells (sayL c).toArray 124)) := (Below.refl _ _).alloc (Nat.le_refl _) _
  have hs0 : Box (w.alloc (.cells (sayL c).toArray 124)) w.heap.size (sayL c) := Box.new w _ _
  refine calls_vc (rs := [.tmp 4]) Fa.mix Try.func47 rfl Try.ntmps47 rfl (by kernel_rfl) (Nat.le_of_ble_eq_true rfl) ?_
  (repeat rw [vc_seq]); refine vc_plain _ fun Q hQ => ?_; simp -dsimp only [Fa.F47, VC.Now, VC.vc_skip, VC.vc_ret, VC.vc_exit, VC.vc_block, VC.vc_cond, VC.vc_region, VC.lib, VC.regQ, VC.loopK, VC.reg, VC.opP, VC.pv, VC.thenF, VC.blkF, VC.retF, VC.resV, VC.oneV, VC.evo, VC.bin, VC.binI, VC.cmpI, VC.arithI, VC.ldv, VC.slv, VC.pickP, VC.holds, VC.chainOf, VC.look, VC.junk, VC.put, VC.eff, VC.callee, VC.pureB, VC.rdK, VC.rdKs, VC.okKs, VC.eqKs, VC.fillL, VC.putL, VC.stW, VC.stOK, VC.mixF, VC.setAll, Nat.reduceAdd, Nat.reduceSub, Nat.reduceMul, if_true, if_false, ↓reduceIte, forall_const, implies_true, reduceCtorEq, ne_eq, Nat.reduceBNe, Nat.reduceBEq, IntKind.signed, Nat.reduceEqDiff, Nat.reduceLeDiff, Nat.reduceLT, eq_self, Int.reduceEq, Int.reduceLT, Int.reduceLE, Int.reduceAdd, Int.reduceSub, VC.regC_nil, VC.regC_cons, VC.regCK_eq, VC.callQ, VC.tailQ, VC.goCall, VC.chStep]
  generalize hsb : w.heap.size = sb at hs0 ⊢
  change Q _ _ (w.alloc (.cells (sayL c).toArray 124))
  generalize w.alloc (.cells (sayL c).toArray 124) = w1 at hs0 hB0 ⊢
  subst hQ
  have h1 := h.below hB0
  have z0 := hs0.at (i := 0) rfl
  have z1 := hs0.at (i := 1) rfl
  have z2 := hs0.at (i := 2) rfl
  have z3 := hs0.at (i := 3) rfl
  have z4 := hs0.at (i := 4) rfl
  have b0 := (mo_box h1).at (i := 0) rfl
  by_cases q0 : c.kind < 1 ∨ 4 < c.kind
  · have e0 := eq_true q0
    simp -dsimp only [Fa.F47, rdI_of z0, z0, e0, VC.Now, VC.vc, VC.lib, VC.regQ, VC.loopK, VC.reg, VC.opP, VC.pv, VC.thenF, VC.blkF, VC.retF, VC.resV, VC.oneV, VC.evo, VC.bin, VC.binI, VC.cmpI, VC.arithI, VC.ldv, VC.slv, VC.pickP, VC.holds, VC.chainOf, VC.look, VC.junk, VC.put, VC.eff, VC.callee, VC.pureB, VC.rdK, VC.rdKs, VC.okKs, VC.eqKs, VC.fillL, VC.putL, VC.stW, VC.stOK, VC.mixF, VC.setAll, Nat.reduceAdd, Nat.reduceSub, Nat.reduceMul, if_true, if_false, ↓reduceIte, forall_const, implies_true, reduceCtorEq, ne_eq, Nat.reduceBNe, Nat.reduceBEq, IntKind.signed, Nat.reduceEqDiff, Nat.reduceLeDiff, Nat.reduceLT, eq_self, Int.reduceEq, Int.reduceLT, Int.reduceLE, Int.reduceAdd, Int.reduceSub, VC.regC_nil, VC.regC_cons, VC.regCK_eq, VC.callQ, VC.tailQ, VC.goCall, VC.chStep]
    exact MPost.same h hB0 (mstep_b q0)
  have e0 := eq_false q0
  by_cases q1 : c.kind = 1
  · have e1 := eq_true q1
    simp -dsimp only [Fa.F47, rdI_of z0, z0, rdI_of z1, z1, rdI_of z2, z2, rdI_of z3, z3, rdI_of z4, z4, e0, e1, VC.Now, VC.vc, VC.lib, VC.regQ, VC.loopK, VC.reg, VC.opP, VC.pv, VC.thenF, VC.blkF, VC.retF, VC.resV, VC.oneV, VC.evo, VC.bin, VC.binI, VC.cmpI, VC.arithI, VC.ldv, VC.slv, VC.pickP, VC.holds, VC.chainOf, VC.look, VC.junk, VC.put, VC.eff, VC.callee, VC.pureB, VC.rdK, VC.rdKs, VC.okKs, VC.eqKs, VC.fillL, VC.putL, VC.stW, VC.stOK, VC.mixF, VC.setAll, Nat.reduceAdd, Nat.reduceSub, Nat.reduceMul, if_true, if_false, ↓reduceIte, forall_const, implies_true, reduceCtorEq, ne_eq, Nat.reduceBNe, Nat.reduceBEq, IntKind.signed, Nat.reduceEqDiff, Nat.reduceLeDiff, Nat.reduceLT, eq_self, Int.reduceEq, Int.reduceLT, Int.reduceLE, Int.reduceAdd, Int.reduceSub, VC.regC_nil, VC.regC_cons, VC.regCK_eq, VC.callQ, VC.tailQ, VC.goCall, VC.chStep]
    intro u
    refine CALL_by (behind_any h1 hok hn hnd hc) fun e w2 hp => ⟨_, hp.1, ?_⟩
    simp -dsimp only [Fa.F47, VC.Now, VC.vc, VC.lib, VC.regQ, VC.loopK, VC.reg, VC.opP, VC.pv, VC.thenF, VC.blkF, VC.retF, VC.resV, VC.oneV, VC.evo, VC.bin, VC.binI, VC.cmpI, VC.arithI, VC.ldv, VC.slv, VC.pickP, VC.holds, VC.chainOf, VC.look, VC.junk, VC.put, VC.eff, VC.callee, VC.pureB, VC.rdK, VC.rdKs, VC.okKs, VC.eqKs, VC.fillL, VC.putL, VC.stW, VC.stOK, VC.mixF, VC.setAll, Nat.reduceAdd, Nat.reduceSub, Nat.reduceMul, if_true, if_false, ↓reduceIte, forall_const, implies_true, reduceCtorEq, ne_eq, Nat.reduceBNe, Nat.reduceBEq, IntKind.signed, Nat.reduceEqDiff, Nat.reduceLeDiff, Nat.reduceLT, eq_self, Int.reduceEq, Int.reduceLT, Int.reduceLE, Int.reduceAdd, Int.reduceSub, VC.regC_nil, VC.regC_cons, VC.regCK_eq, VC.callQ, VC.tailQ, VC.goCall, VC.chStep]
    rw [mstep_1 q1]
    exact (hp.1 ▸ hp : MPost B n need liars a s w1 _ (.returned (.int .i64 (mblock need c s).1)) w2).lift h hB0
  have e1 := eq_false q1
  by_cases q2 : c.who < 0 ∨ (n : Int) ≤ c.who
  · have e2 := eq_true q2
    simp -dsimp only [Fa.F47, rdI_of z0, z0, rdI_of z1, z1, rdI_of b0, b0, e0, e1, e2, VC.Now, VC.vc, VC.lib, VC.regQ, VC.loopK, VC.reg, VC.opP, VC.pv, VC.thenF, VC.blkF, VC.retF, VC.resV, VC.oneV, VC.evo, VC.bin, VC.binI, VC.cmpI, VC.arithI, VC.ldv, VC.slv, VC.pickP, VC.holds, VC.chainOf, VC.look, VC.junk, VC.put, VC.eff, VC.callee, VC.pureB, VC.rdK, VC.rdKs, VC.okKs, VC.eqKs, VC.fillL, VC.putL, VC.stW, VC.stOK, VC.mixF, VC.setAll, Nat.reduceAdd, Nat.reduceSub, Nat.reduceMul, if_true, if_false, ↓reduceIte, forall_const, implies_true, reduceCtorEq, ne_eq, Nat.reduceBNe, Nat.reduceBEq, IntKind.signed, Nat.reduceEqDiff, Nat.reduceLeDiff, Nat.reduceLT, eq_self, Int.reduceEq, Int.reduceLT, Int.reduceLE, Int.reduceAdd, Int.reduceSub, VC.regC_nil, VC.regC_cons, VC.regCK_eq, VC.callQ, VC.tailQ, VC.goCall, VC.chStep]
    exact fun m => MPost.same h (hB0.trans ((below_drewN (Below.refl _ w1) m).mono hB0.size)) (mstep_w (by omega) (by omega) q2)
  have e2 := eq_false q2
  obtain ⟨i, hi⟩ : ∃ i : Nat, c.who = i := ⟨c.who.toNat, by omega⟩
  have hin : i < n := by omega
  have hiN : c.who.toNat = i := by omega
  by_cases q3 : c.kind = 2
  · have e3 := eq_true q3
    simp -dsimp only [Fa.F47, rdI_of z0, z0, rdI_of z1, z1, rdI_of z2, z2, rdI_of z3, z3, rdI_of z4, z4, rdI_of b0, b0, e0, e1, e2, e3, VC.Now, VC.vc, VC.lib, VC.regQ, VC.loopK, VC.reg, VC.opP, VC.pv, VC.thenF, VC.blkF, VC.retF, VC.resV, VC.oneV, VC.evo, VC.bin, VC.binI, VC.cmpI, VC.arithI, VC.ldv, VC.slv, VC.pickP, VC.holds, VC.chainOf, VC.look, VC.junk, VC.put, VC.eff, VC.callee, VC.pureB, VC.rdK, VC.rdKs, VC.okKs, VC.eqKs, VC.fillL, VC.putL, VC.stW, VC.stOK, VC.mixF, VC.setAll, Nat.reduceAdd, Nat.reduceSub, Nat.reduceMul, if_true, if_false, ↓reduceIte, forall_const, implies_true, reduceCtorEq, ne_eq, Nat.reduceBNe, Nat.reduceBEq, IntKind.signed, Nat.reduceEqDiff, Nat.reduceLeDiff, Nat.reduceLT, eq_self, Int.reduceEq, Int.reduceLT, Int.reduceLE, Int.reduceAdd, Int.reduceSub, VC.regC_nil, VC.regC_cons, VC.regCK_eq, VC.callQ, VC.tailQ, VC.goCall, VC.chStep]
    intro u u1 m
    refine CALL_by (hi ▸ vote_any (h1.drewN m) hok hn hnd hl hin (c := c)) fun e w2 hp => ⟨_, hp.1, ?_⟩
    simp -dsimp only [Fa.F47, VC.Now, VC.vc, VC.lib, VC.regQ, VC.loopK, VC.reg, VC.opP, VC.pv, VC.thenF, VC.blkF, VC.retF, VC.resV, VC.oneV, VC.evo, VC.bin, VC.binI, VC.cmpI, VC.arithI, VC.ldv, VC.slv, VC.pickP, VC.holds, VC.chainOf, VC.look, VC.junk, VC.put, VC.eff, VC.callee, VC.pureB, VC.rdK, VC.rdKs, VC.okKs, VC.eqKs, VC.fillL, VC.putL, VC.stW, VC.stOK, VC.mixF, VC.setAll, Nat.reduceAdd, Nat.reduceSub, Nat.reduceMul, if_true, if_false, ↓reduceIte, forall_const, implies_true, reduceCtorEq, ne_eq, Nat.reduceBNe, Nat.reduceBEq, IntKind.signed, Nat.reduceEqDiff, Nat.reduceLeDiff, Nat.reduceLT, eq_self, Int.reduceEq, Int.reduceLT, Int.reduceLE, Int.reduceAdd, Int.reduceSub, VC.regC_nil, VC.regC_cons, VC.regCK_eq, VC.callQ, VC.tailQ, VC.goCall, VC.chStep]
    rw [mstep_2 q3 q2, hiN]
    exact (hp.1 ▸ hp : MPost B n need liars a s (w1.drewN m) _ (.returned (.int .i64 (mvote n need liars i c s).1)) w2).lift h (hB0.trans ((below_drewN (Below.refl _ w1) m).mono hB0.size))
  have e3 := eq_false q3
  by_cases q4 : c.kind = 3
  · have e4 := eq_true q4
    simp -dsimp only [Fa.F47, rdI_of z0, z0, rdI_of z1, z1, rdI_of z2, z2, rdI_of z3, z3, rdI_of z4, z4, rdI_of b0, b0, e0, e1, e2, e3, e4, VC.Now, VC.vc, VC.lib, VC.regQ, VC.loopK, VC.reg, VC.opP, VC.pv, VC.thenF, VC.blkF, VC.retF, VC.resV, VC.oneV, VC.evo, VC.bin, VC.binI, VC.cmpI, VC.arithI, VC.ldv, VC.slv, VC.pickP, VC.holds, VC.chainOf, VC.look, VC.junk, VC.put, VC.eff, VC.callee, VC.pureB, VC.rdK, VC.rdKs, VC.okKs, VC.eqKs, VC.fillL, VC.putL, VC.stW, VC.stOK, VC.mixF, VC.setAll, Nat.reduceAdd, Nat.reduceSub, Nat.reduceMul, if_true, if_false, ↓reduceIte, forall_const, implies_true, reduceCtorEq, ne_eq, Nat.reduceBNe, Nat.reduceBEq, IntKind.signed, Nat.reduceEqDiff, Nat.reduceLeDiff, Nat.reduceLT, eq_self, Int.reduceEq, Int.reduceLT, Int.reduceLE, Int.reduceAdd, Int.reduceSub, VC.regC_nil, VC.regC_cons, VC.regCK_eq, VC.callQ, VC.tailQ, VC.goCall, VC.chStep]
    intro u u1 m
    refine CALL_by (giveUp_any (h1.drewN m) hok hn hnd hl ht hnl hng hc hin hi) fun e w2 hp => ⟨_, hp.1, ?_⟩
    simp -dsimp only [Fa.F47, VC.Now, VC.vc, VC.lib, VC.regQ, VC.loopK, VC.reg, VC.opP, VC.pv, VC.thenF, VC.blkF, VC.retF, VC.resV, VC.oneV, VC.evo, VC.bin, VC.binI, VC.cmpI, VC.arithI, VC.ldv, VC.slv, VC.pickP, VC.holds, VC.chainOf, VC.look, VC.junk, VC.put, VC.eff, VC.callee, VC.pureB, VC.rdK, VC.rdKs, VC.okKs, VC.eqKs, VC.fillL, VC.putL, VC.stW, VC.stOK, VC.mixF, VC.setAll, Nat.reduceAdd, Nat.reduceSub, Nat.reduceMul, if_true, if_false, ↓reduceIte, forall_const, implies_true, reduceCtorEq, ne_eq, Nat.reduceBNe, Nat.reduceBEq, IntKind.signed, Nat.reduceEqDiff, Nat.reduceLeDiff, Nat.reduceLT, eq_self, Int.reduceEq, Int.reduceLT, Int.reduceLE, Int.reduceAdd, Int.reduceSub, VC.regC_nil, VC.regC_cons, VC.regCK_eq, VC.callQ, VC.tailQ, VC.goCall, VC.chStep]
    rw [mstep_3 q4 q2, hiN]
    exact (hp.1 ▸ hp : MPost B n need liars a s (w1.drewN m) _ (.returned (.int .i64 (mlate need liars i c s).1)) w2).lift h (hB0.trans ((below_drewN (Below.refl _ w1) m).mono hB0.size))
  have e4 := eq_false q4
  have q5 : c.kind = 4 := by omega
  simp -dsimp only [Fa.F47, rdI_of z0, z0, rdI_of z1, z1, rdI_of z2, z2, rdI_of z3, z3, rdI_of z4, z4, rdI_of b0, b0, e0, e1, e2, e3, e4, VC.Now, VC.vc, VC.lib, VC.regQ, VC.loopK, VC.reg, VC.opP, VC.pv, VC.thenF, VC.blkF, VC.retF, VC.resV, VC.oneV, VC.evo, VC.bin, VC.binI, VC.cmpI, VC.arithI, VC.ldv, VC.slv, VC.pickP, VC.holds, VC.chainOf, VC.look, VC.junk, VC.put, VC.eff, VC.callee, VC.pureB, VC.rdK, VC.rdKs, VC.okKs, VC.eqKs, VC.fillL, VC.putL, VC.stW, VC.stOK, VC.mixF, VC.setAll, Nat.reduceAdd, Nat.reduceSub, Nat.reduceMul, if_true, if_false, ↓reduceIte, forall_const, implies_true, reduceCtorEq, ne_eq, Nat.reduceBNe, Nat.reduceBEq, IntKind.signed, Nat.reduceEqDiff, Nat.reduceLeDiff, Nat.reduceLT, eq_self, Int.reduceEq, Int.reduceLT, Int.reduceLE, Int.reduceAdd, Int.reduceSub, VC.regC_nil, VC.regC_cons, VC.regCK_eq, VC.callQ, VC.tailQ, VC.goCall, VC.chStep]
  intro u u1 m
  refine CALL_by (hi ▸ learn_any (h1.drewN m) hok hn hnd hl hin (c := c)) fun e w2 hp => ⟨_, hp.1, ?_⟩
  simp -dsimp only [Fa.F47, VC.Now, VC.vc, VC.lib, VC.regQ, VC.loopK, VC.reg, VC.opP, VC.pv, VC.thenF, VC.blkF, VC.retF, VC.resV, VC.oneV, VC.evo, VC.bin, VC.binI, VC.cmpI, VC.arithI, VC.ldv, VC.slv, VC.pickP, VC.holds, VC.chainOf, VC.look, VC.junk, VC.put, VC.eff, VC.callee, VC.pureB, VC.rdK, VC.rdKs, VC.okKs, VC.eqKs, VC.fillL, VC.putL, VC.stW, VC.stOK, VC.mixF, VC.setAll, Nat.reduceAdd, Nat.reduceSub, Nat.reduceMul, if_true, if_false, ↓reduceIte, forall_const, implies_true, reduceCtorEq, ne_eq, Nat.reduceBNe, Nat.reduceBEq, IntKind.signed, Nat.reduceEqDiff, Nat.reduceLeDiff, Nat.reduceLT, eq_self, Int.reduceEq, Int.reduceLT, Int.reduceLE, Int.reduceAdd, Int.reduceSub, VC.regC_nil, VC.regC_cons, VC.regCK_eq, VC.callQ, VC.tailQ, VC.goCall, VC.chStep]
  rw [mstep_4 q5 q2, hiN]
  exact (hp.1 ▸ hp : MPost B n need liars a s (w1.drewN m) _ (.returned (.int .i64 (mlearn need liars i c s).1)) w2).lift h (hB0.trans ((below_drewN (Below.refl _ w1) m).mono hB0.size))
end
end Go.Proofs.Ytnggjekppdlaoaa
