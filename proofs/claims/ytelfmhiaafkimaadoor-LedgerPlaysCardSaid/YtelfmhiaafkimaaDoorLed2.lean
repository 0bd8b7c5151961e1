/- A ledger: one pay. -/
import Derived.Test.YtelfmhiaafkimaaDoorLed1
namespace Go.Proofs.YtelfmhiaafkimaaDoor
open Go Go.RowKit Go.VC
set_option linter.unusedSimpArgs false
set_option linter.unusedVariables false
theorem lnext_bad {k : Nat} {p : PayC} {l : Nat → Acc} (h : lcode k p l ≠ 0) : lnext k p l = l := by unfold lnext; rw [if_neg h]
theorem St.err {B g k : Nat} {l : Nat → Acc} {p : PayC} {w w' : World} {c : Int} (h : Hp B [oRecs g k 2 (fun i => accL (l i))] w) (hB : Below w.heap.size w w') (hc : lcode k p l = c) (h0 : c ≠ 0) :
    Ending.returned (.iface 71 (.agg #[.int .i64 c])) = .returned (errV (lcode k p l)) ∧ St B [oRecs g k 2 (fun i => accL (l i))] w [oRecs g k 2 (fun i => accL (lnext k p l i))] w' := by
  rw [lnext_bad (by rw [hc]; exact h0), hc]
  unfold errV
  rw [if_neg h0]
  exact ⟨rfl, h.below_st hB⟩

set_option maxRecDepth 8000 in
set_option maxHeartbeats 8000000 in
theorem pay_any {B g k cap t : Nat} {l : Nat → Acc} {w : World} (h : Hp B [oRecs g k 2 (fun i => accL (l i))] w) (hl : LOK t l) (ht : t ≤ 1000) (hk : k ≤ 12) (p : PayC) (hfp : fits .i64 p.n) :
    Calls Tryd.prog 20 #[.slice (some ⟨g, 0, none⟩) k cap, payV p] w fun e w' => e = .returned (errV (lcode k p l)) ∧ St B [oRecs g k 2 (fun i => accL (l i))] w [oRecs g k 2 (fun i => accL (lnext k p l i))] w' := by
  have x0 := Box.new w [.slice (some ⟨g, 0, none⟩) k cap] 36
  have hB0 : Below w.heap.size w (w.alloc (.cells #[.slice (some ⟨g, 0, none⟩) k cap] 36)) := (Below.refl _ _).alloc (Nat.le_refl _) _
  have hsz : (w.alloc (.cells #[.slice (some ⟨g, 0, none⟩) k cap] 36)).heap.size = w.heap.size + 1 := by simp
  refine calls_vc (rs := [.tmp 4]) Fa.mix Tryd.func20 rfl Tryd.ntmps20 rfl (by kernel_rfl) (Nat.le_of_ble_eq_true rfl) ?_
  (repeat rw [vc_seq]); refine vc_plain _ fun Q hQ => ?_; simp -dsimp (maxSteps := 2000000) only [Fa.F20, VC.Now, VC.vc_skip, VC.vc_ret, VC.vc_exit, VC.vc_block, VC.vc_cond, VC.vc_region, VC.lib, VC.mapN_drewN, VC.mapB_drewN, VC.regQ, VC.loopK, VC.reg, VC.opP, VC.opS, VC.opZ, VC.nomulB, VC.pv, VC.thenF, VC.blkF, VC.retF, VC.resV, VC.oneV, VC.evo, VC.bin, VC.binI, VC.cmpI, VC.arithI, VC.ldv, VC.slv, VC.pickP, VC.holds, VC.chainOf, VC.look, VC.junk, VC.put, VC.eff, VC.callee, VC.pureB, VC.rdK, VC.rdKs, VC.okKs, VC.eqKs, VC.fillL, VC.putL, VC.stW, VC.stOK, VC.mixF, VC.setAll, Nat.reduceAdd, Nat.reduceSub, Nat.reduceMul, if_true, if_false, ↓reduceIte, forall_const, implies_true, reduceCtorEq, ne_eq, Nat.reduceBNe, Nat.reduceBEq, IntKind.signed, Nat.reduceEqDiff, Nat.reduceLeDiff, Nat.reduceLT, eq_self, Int.reduceEq, Int.reduceLT, Int.reduceLE, Int.reduceAdd, Int.reduceSub, VC.regC_nil, VC.regC_cons, VC.regCK_eq, VC.callQ, VC.tailQ, VC.goCall, VC.chStep]
  change Box (w.alloc (.cells #[.slice (some ⟨g, 0, none⟩) k cap] 36)) _ _ at x0
  generalize w.alloc (.cells #[.slice (some ⟨g, 0, none⟩) k cap] 36) = w1 at x0 hB0 hsz ⊢
  have y0 := Box.new w1 (payL p) 57
  have hB1 : Below w1.heap.size w1 (w1.alloc (.cells #[.int .i64 p.fr, .int .i64 p.to, .int .i64 p.ser, .int .i64 p.n] 57)) := (Below.refl _ _).alloc (Nat.le_refl _) _
  change Box (w1.alloc (.cells #[.int .i64 p.fr, .int .i64 p.to, .int .i64 p.ser, .int .i64 p.n] 57)) _ _ at y0
  replace x0 := x0.below hB1
  have hB := hB0.trans (hB1.mono (by omega))
  rw [hsz] at y0
  generalize w1.alloc (.cells #[.int .i64 p.fr, .int .i64 p.to, .int .i64 p.ser, .int .i64 p.n] 57) = w2 at x0 y0 hB ⊢
  clear hB0 hB1 hsz
  have h2 := h.below hB
  have px := x0.at (i := 0) rfl
  have hxl := x0.1
  have z0 := y0.at (i := 0) rfl
  have z1 := y0.at (i := 1) rfl
  have z2 := y0.at (i := 2) rfl
  have z3 := y0.at (i := 3) rfl
  have hyl := y0.1
  have nfx : ¬ foot [oRecs g k 2 (fun i => accL (l i))] w.heap.size := fun hf => absurd (h.foot_lt hf).2 (Nat.lt_irrefl _)
  have nfy : ¬ foot [oRecs g k 2 (fun i => accL (l i))] (w.heap.size + 1) := fun hf => by have := (h.foot_lt hf).2; omega
  generalize w.heap.size = sb at x0 y0 px z0 z1 z2 z3 hxl hyl nfx nfy ⊢
  have his := fun i => lis_any (w := w2) px hxl i
  subst hQ
  simp -dsimp (maxSteps := 2000000) only [Fa.F20, VC.Now, VC.vc_skip, VC.vc_ret, VC.vc_exit, VC.vc_block, VC.vc_cond, VC.vc_region, VC.lib, VC.mapN_drewN, VC.mapB_drewN, VC.regQ, VC.loopK, VC.reg, VC.opP, VC.opS, VC.opZ, VC.nomulB, VC.pv, VC.thenF, VC.blkF, VC.retF, VC.resV, VC.oneV, VC.evo, VC.bin, VC.binI, VC.cmpI, VC.arithI, VC.ldv, VC.slv, VC.pickP, VC.holds, VC.chainOf, VC.look, VC.junk, VC.put, VC.eff, VC.callee, VC.pureB, VC.rdK, VC.rdKs, VC.okKs, VC.eqKs, VC.fillL, VC.putL, VC.stW, VC.stOK, VC.mixF, VC.setAll, Nat.reduceAdd, Nat.reduceSub, Nat.reduceMul, if_true, if_false, ↓reduceIte, forall_const, implies_true, reduceCtorEq, ne_eq, Nat.reduceBNe, Nat.reduceBEq, IntKind.signed, Nat.reduceEqDiff, Nat.reduceLeDiff, Nat.reduceLT, eq_self, Int.reduceEq, Int.reduceLT, Int.reduceLE, Int.reduceAdd, Int.reduceSub, VC.regC_nil, VC.regC_cons, VC.regCK_eq, VC.callQ, VC.tailQ, VC.goCall, VC.chStep]
  (repeat rw [vc_seq]); refine vc_plain _ fun Q hQ => ?_; simp -dsimp (maxSteps := 2000000) only [Fa.F20, VC.Now, VC.vc_skip, VC.vc_ret, VC.vc_exit, VC.vc_block, VC.vc_cond, VC.vc_region, VC.lib, VC.mapN_drewN, VC.mapB_drewN, VC.regQ, VC.loopK, VC.reg, VC.opP, VC.opS, VC.opZ, VC.nomulB, VC.pv, VC.thenF, VC.blkF, VC.retF, VC.resV, VC.oneV, VC.evo, VC.bin, VC.binI, VC.cmpI, VC.arithI, VC.ldv, VC.slv, VC.pickP, VC.holds, VC.chainOf, VC.look, VC.junk, VC.put, VC.eff, VC.callee, VC.pureB, VC.rdK, VC.rdKs, VC.okKs, VC.eqKs, VC.fillL, VC.putL, VC.stW, VC.stOK, VC.mixF, VC.setAll, Nat.reduceAdd, Nat.reduceSub, Nat.reduceMul, if_true, if_false, ↓reduceIte, forall_const, implies_true, reduceCtorEq, ne_eq, Nat.reduceBNe, Nat.reduceBEq, IntKind.signed, Nat.reduceEqDiff, Nat.reduceLeDiff, Nat.reduceLT, eq_self, Int.reduceEq, Int.reduceLT, Int.reduceLE, Int.reduceAdd, Int.reduceSub, VC.regC_nil, VC.regC_cons, VC.regCK_eq, VC.callQ, VC.tailQ, VC.goCall, VC.chStep]
  subst hQ; simp -dsimp (maxSteps := 2000000) only [VC.Now, VC.vc_skip, VC.vc_ret, VC.vc_exit, VC.vc_block, VC.vc_cond, VC.vc_region, VC.lib, VC.mapN_drewN, VC.mapB_drewN, VC.regQ, VC.loopK, VC.reg, VC.opP, VC.opS, VC.opZ, VC.nomulB, VC.pv, VC.thenF, VC.blkF, VC.retF, VC.resV, VC.oneV, VC.evo, VC.bin, VC.binI, VC.cmpI, VC.arithI, VC.ldv, VC.slv, VC.pickP, VC.holds, VC.chainOf, VC.look, VC.junk, VC.put, VC.eff, VC.callee, VC.pureB, VC.rdK, VC.rdKs, VC.okKs, VC.eqKs, VC.fillL, VC.putL, VC.stW, VC.stOK, VC.mixF, VC.setAll, Nat.reduceAdd, Nat.reduceSub, Nat.reduceMul, if_true, if_false, ↓reduceIte, forall_const, implies_true, reduceCtorEq, ne_eq, Nat.reduceBNe, Nat.reduceBEq, IntKind.signed, Nat.reduceEqDiff, Nat.reduceLeDiff, Nat.reduceLT, eq_self, Int.reduceEq, Int.reduceLT, Int.reduceLE, Int.reduceAdd, Int.reduceSub, VC.regC_nil, VC.regC_cons, VC.regCK_eq, VC.callQ, VC.tailQ, VC.goCall, VC.chStep]; (repeat rw [vc_seq]); refine vc_plain _ fun Q hQ => ?_; simp -dsimp (maxSteps := 2000000) only [Fa.F20, rdI_of z0, z0, hyl, VC.Now, VC.vc_skip, VC.vc_ret, VC.vc_exit, VC.vc_block, VC.vc_cond, VC.vc_region, VC.lib, VC.mapN_drewN, VC.mapB_drewN, VC.regQ, VC.loopK, VC.reg, VC.opP, VC.opS, VC.opZ, VC.nomulB, VC.pv, VC.thenF, VC.blkF, VC.retF, VC.resV, VC.oneV, VC.evo, VC.bin, VC.binI, VC.cmpI, VC.arithI, VC.ldv, VC.slv, VC.pickP, VC.holds, VC.chainOf, VC.look, VC.junk, VC.put, VC.eff, VC.callee, VC.pureB, VC.rdK, VC.rdKs, VC.okKs, VC.eqKs, VC.fillL, VC.putL, VC.stW, VC.stOK, VC.mixF, VC.setAll, Nat.reduceAdd, Nat.reduceSub, Nat.reduceMul, if_true, if_false, ↓reduceIte, forall_const, implies_true, reduceCtorEq, ne_eq, Nat.reduceBNe, Nat.reduceBEq, IntKind.signed, Nat.reduceEqDiff, Nat.reduceLeDiff, Nat.reduceLT, eq_self, Int.reduceEq, Int.reduceLT, Int.reduceLE, Int.reduceAdd, Int.reduceSub, VC.regC_nil, VC.regC_cons, VC.regCK_eq, VC.callQ, VC.tailQ, VC.goCall, VC.chStep]
  refine CALL_of (his p.fr) fun w3 hw3 => ?_
  subst hw3
  rw [VC.Now, VC.seqK_eq]
  by_cases q1 : p.fr < 0 ∨ k ≤ p.fr
  · have eb : decide (0 ≤ p.fr ∧ p.fr < k) = false := decide_eq_false (by omega)
    have hc : lcode k p l = 2 := by unfold lcode; rw [if_pos (Or.inl q1)]
    simp -dsimp (maxSteps := 2000000) only [Fa.F20, eb, undef, tu, uf, ul, ur, VC.Now, VC.vc_skip, VC.vc_ret, VC.vc_exit, VC.vc_block, VC.vc_cond, VC.vc_region, VC.lib, VC.mapN_drewN, VC.mapB_drewN, VC.regQ, VC.loopK, VC.reg, VC.opP, VC.opS, VC.opZ, VC.nomulB, VC.pv, VC.thenF, VC.blkF, VC.retF, VC.resV, VC.oneV, VC.evo, VC.bin, VC.binI, VC.cmpI, VC.arithI, VC.ldv, VC.slv, VC.pickP, VC.holds, VC.chainOf, VC.look, VC.junk, VC.put, VC.eff, VC.callee, VC.pureB, VC.rdK, VC.rdKs, VC.okKs, VC.eqKs, VC.fillL, VC.putL, VC.stW, VC.stOK, VC.mixF, VC.setAll, Nat.reduceAdd, Nat.reduceSub, Nat.reduceMul, if_true, if_false, ↓reduceIte, forall_const, implies_true, reduceCtorEq, ne_eq, Nat.reduceBNe, Nat.reduceBEq, IntKind.signed, Nat.reduceEqDiff, Nat.reduceLeDiff, Nat.reduceLT, eq_self, Int.reduceEq, Int.reduceLT, Int.reduceLE, Int.reduceAdd, Int.reduceSub, VC.regC_nil, VC.regC_cons, VC.regCK_eq, VC.callQ, VC.tailQ, VC.goCall, VC.chStep]
    subst hQ
    simp -dsimp (maxSteps := 2000000) only [Fa.F20, undef, tu, uf, ul, ur, VC.Now, VC.vc, VC.lib, VC.mapN_drewN, VC.mapB_drewN, VC.regQ, VC.loopK, VC.reg, VC.opP, VC.opS, VC.opZ, VC.nomulB, VC.pv, VC.thenF, VC.blkF, VC.retF, VC.resV, VC.oneV, VC.evo, VC.bin, VC.binI, VC.cmpI, VC.arithI, VC.ldv, VC.slv, VC.pickP, VC.holds, VC.chainOf, VC.look, VC.junk, VC.put, VC.eff, VC.callee, VC.pureB, VC.rdK, VC.rdKs, VC.okKs, VC.eqKs, VC.fillL, VC.putL, VC.stW, VC.stOK, VC.mixF, VC.setAll, Nat.reduceAdd, Nat.reduceSub, Nat.reduceMul, if_true, if_false, ↓reduceIte, forall_const, implies_true, reduceCtorEq, ne_eq, Nat.reduceBNe, Nat.reduceBEq, IntKind.signed, Nat.reduceEqDiff, Nat.reduceLeDiff, Nat.reduceLT, eq_self, Int.reduceEq, Int.reduceLT, Int.reduceLE, Int.reduceAdd, Int.reduceSub, VC.regC_nil, VC.regC_cons, VC.regCK_eq, VC.callQ, VC.tailQ, VC.goCall, VC.chStep]
    refine CALL_by (refuse_any 2 _) fun e w9 hp => ⟨_, hp.1, ?_⟩
    obtain ⟨_, rfl⟩ := hp
    rw [VC.Now, VC.seqK_eq]
    simp -dsimp (maxSteps := 2000000) only [Fa.F20, VC.Now, VC.vc, VC.lib, VC.mapN_drewN, VC.mapB_drewN, VC.regQ, VC.loopK, VC.reg, VC.opP, VC.opS, VC.opZ, VC.nomulB, VC.pv, VC.thenF, VC.blkF, VC.retF, VC.resV, VC.oneV, VC.evo, VC.bin, VC.binI, VC.cmpI, VC.arithI, VC.ldv, VC.slv, VC.pickP, VC.holds, VC.chainOf, VC.look, VC.junk, VC.put, VC.eff, VC.callee, VC.pureB, VC.rdK, VC.rdKs, VC.okKs, VC.eqKs, VC.fillL, VC.putL, VC.stW, VC.stOK, VC.mixF, VC.setAll, Nat.reduceAdd, Nat.reduceSub, Nat.reduceMul, if_true, if_false, ↓reduceIte, forall_const, implies_true, reduceCtorEq, ne_eq, Nat.reduceBNe, Nat.reduceBEq, IntKind.signed, Nat.reduceEqDiff, Nat.reduceLeDiff, Nat.reduceLT, eq_self, Int.reduceEq, Int.reduceLT, Int.reduceLE, Int.reduceAdd, Int.reduceSub, VC.regC_nil, VC.regC_cons, VC.regCK_eq, VC.callQ, VC.tailQ, VC.goCall, VC.chStep]
    exact St.err h hB hc (by decide)
  have eb : decide (0 ≤ p.fr ∧ p.fr < k) = true := decide_eq_true (by omega)
  simp -dsimp (maxSteps := 2000000) only [Fa.F20, eb, rdI_of z1, z1, hyl, undef, tu, uf, ul, ur, VC.Now, VC.vc_skip, VC.vc_ret, VC.vc_exit, VC.vc_block, VC.vc_cond, VC.vc_region, VC.lib, VC.mapN_drewN, VC.mapB_drewN, VC.regQ, VC.loopK, VC.reg, VC.opP, VC.opS, VC.opZ, VC.nomulB, VC.pv, VC.thenF, VC.blkF, VC.retF, VC.resV, VC.oneV, VC.evo, VC.bin, VC.binI, VC.cmpI, VC.arithI, VC.ldv, VC.slv, VC.pickP, VC.holds, VC.chainOf, VC.look, VC.junk, VC.put, VC.eff, VC.callee, VC.pureB, VC.rdK, VC.rdKs, VC.okKs, VC.eqKs, VC.fillL, VC.putL, VC.stW, VC.stOK, VC.mixF, VC.setAll, Nat.reduceAdd, Nat.reduceSub, Nat.reduceMul, if_true, if_false, ↓reduceIte, forall_const, implies_true, reduceCtorEq, ne_eq, Nat.reduceBNe, Nat.reduceBEq, IntKind.signed, Nat.reduceEqDiff, Nat.reduceLeDiff, Nat.reduceLT, eq_self, Int.reduceEq, Int.reduceLT, Int.reduceLE, Int.reduceAdd, Int.reduceSub, VC.regC_nil, VC.regC_cons, VC.regCK_eq, VC.callQ, VC.tailQ, VC.goCall, VC.chStep]
  refine CALL_of (his p.to) fun w4 hw4 => ?_
  subst hw4
  rw [VC.Now, VC.seqK_eq]
  by_cases q2 : p.to < 0 ∨ k ≤ p.to
  · have ec : decide (0 ≤ p.to ∧ p.to < k) = false := decide_eq_false (by omega)
    have hc : lcode k p l = 2 := by unfold lcode; rw [if_pos (Or.inr (Or.inl q2))]
    simp -dsimp (maxSteps := 2000000) only [Fa.F20, eb, ec, undef, tu, uf, ul, ur, VC.Now, VC.vc_skip, VC.vc_ret, VC.vc_exit, VC.vc_block, VC.vc_cond, VC.vc_region, VC.lib, VC.mapN_drewN, VC.mapB_drewN, VC.regQ, VC.loopK, VC.reg, VC.opP, VC.opS, VC.opZ, VC.nomulB, VC.pv, VC.thenF, VC.blkF, VC.retF, VC.resV, VC.oneV, VC.evo, VC.bin, VC.binI, VC.cmpI, VC.arithI, VC.ldv, VC.slv, VC.pickP, VC.holds, VC.chainOf, VC.look, VC.junk, VC.put, VC.eff, VC.callee, VC.pureB, VC.rdK, VC.rdKs, VC.okKs, VC.eqKs, VC.fillL, VC.putL, VC.stW, VC.stOK, VC.mixF, VC.setAll, Nat.reduceAdd, Nat.reduceSub, Nat.reduceMul, if_true, if_false, ↓reduceIte, forall_const, implies_true, reduceCtorEq, ne_eq, Nat.reduceBNe, Nat.reduceBEq, IntKind.signed, Nat.reduceEqDiff, Nat.reduceLeDiff, Nat.reduceLT, eq_self, Int.reduceEq, Int.reduceLT, Int.reduceLE, Int.reduceAdd, Int.reduceSub, VC.regC_nil, VC.regC_cons, VC.regCK_eq, VC.callQ, VC.tailQ, VC.goCall, VC.chStep]
    subst hQ
    simp -dsimp (maxSteps := 2000000) only [Fa.F20, undef, tu, uf, ul, ur, VC.Now, VC.vc, VC.lib, VC.mapN_drewN, VC.mapB_drewN, VC.regQ, VC.loopK, VC.reg, VC.opP, VC.opS, VC.opZ, VC.nomulB, VC.pv, VC.thenF, VC.blkF, VC.retF, VC.resV, VC.oneV, VC.evo, VC.bin, VC.binI, VC.cmpI, VC.arithI, VC.ldv, VC.slv, VC.pickP, VC.holds, VC.chainOf, VC.look, VC.junk, VC.put, VC.eff, VC.callee, VC.pureB, VC.rdK, VC.rdKs, VC.okKs, VC.eqKs, VC.fillL, VC.putL, VC.stW, VC.stOK, VC.mixF, VC.setAll, Nat.reduceAdd, Nat.reduceSub, Nat.reduceMul, if_true, if_false, ↓reduceIte, forall_const, implies_true, reduceCtorEq, ne_eq, Nat.reduceBNe, Nat.reduceBEq, IntKind.signed, Nat.reduceEqDiff, Nat.reduceLeDiff, Nat.reduceLT, eq_self, Int.reduceEq, Int.reduceLT, Int.reduceLE, Int.reduceAdd, Int.reduceSub, VC.regC_nil, VC.regC_cons, VC.regCK_eq, VC.callQ, VC.tailQ, VC.goCall, VC.chStep]
    refine CALL_by (refuse_any 2 _) fun e w9 hp => ⟨_, hp.1, ?_⟩
    obtain ⟨_, rfl⟩ := hp
    rw [VC.Now, VC.seqK_eq]
    simp -dsimp (maxSteps := 2000000) only [Fa.F20, VC.Now, VC.vc, VC.lib, VC.mapN_drewN, VC.mapB_drewN, VC.regQ, VC.loopK, VC.reg, VC.opP, VC.opS, VC.opZ, VC.nomulB, VC.pv, VC.thenF, VC.blkF, VC.retF, VC.resV, VC.oneV, VC.evo, VC.bin, VC.binI, VC.cmpI, VC.arithI, VC.ldv, VC.slv, VC.pickP, VC.holds, VC.chainOf, VC.look, VC.junk, VC.put, VC.eff, VC.callee, VC.pureB, VC.rdK, VC.rdKs, VC.okKs, VC.eqKs, VC.fillL, VC.putL, VC.stW, VC.stOK, VC.mixF, VC.setAll, Nat.reduceAdd, Nat.reduceSub, Nat.reduceMul, if_true, if_false, ↓reduceIte, forall_const, implies_true, reduceCtorEq, ne_eq, Nat.reduceBNe, Nat.reduceBEq, IntKind.signed, Nat.reduceEqDiff, Nat.reduceLeDiff, Nat.reduceLT, eq_self, Int.reduceEq, Int.reduceLT, Int.reduceLE, Int.reduceAdd, Int.reduceSub, VC.regC_nil, VC.regC_cons, VC.regCK_eq, VC.callQ, VC.tailQ, VC.goCall, VC.chStep]
    exact St.err h hB hc (by decide)
  have ec : decide (0 ≤ p.to ∧ p.to < k) = true := decide_eq_true (by omega)
  by_cases q3 : p.n < 1
  · have ed := eq_true q3
    have hc : lcode k p l = 2 := by unfold lcode; rw [if_pos (Or.inr (Or.inr q3))]
    simp -dsimp (maxSteps := 2000000) only [Fa.F20, eb, ec, ed, rdI_of z3, z3, hyl, undef, tu, uf, ul, ur, VC.Now, VC.vc_skip, VC.vc_ret, VC.vc_exit, VC.vc_block, VC.vc_cond, VC.vc_region, VC.lib, VC.mapN_drewN, VC.mapB_drewN, VC.regQ, VC.loopK, VC.reg, VC.opP, VC.opS, VC.opZ, VC.nomulB, VC.pv, VC.thenF, VC.blkF, VC.retF, VC.resV, VC.oneV, VC.evo, VC.bin, VC.binI, VC.cmpI, VC.arithI, VC.ldv, VC.slv, VC.pickP, VC.holds, VC.chainOf, VC.look, VC.junk, VC.put, VC.eff, VC.callee, VC.pureB, VC.rdK, VC.rdKs, VC.okKs, VC.eqKs, VC.fillL, VC.putL, VC.stW, VC.stOK, VC.mixF, VC.setAll, Nat.reduceAdd, Nat.reduceSub, Nat.reduceMul, if_true, if_false, ↓reduceIte, forall_const, implies_true, reduceCtorEq, ne_eq, Nat.reduceBNe, Nat.reduceBEq, IntKind.signed, Nat.reduceEqDiff, Nat.reduceLeDiff, Nat.reduceLT, eq_self, Int.reduceEq, Int.reduceLT, Int.reduceLE, Int.reduceAdd, Int.reduceSub, VC.regC_nil, VC.regC_cons, VC.regCK_eq, VC.callQ, VC.tailQ, VC.goCall, VC.chStep]
    subst hQ
    simp -dsimp (maxSteps := 2000000) only [Fa.F20, undef, tu, uf, ul, ur, VC.Now, VC.vc, VC.lib, VC.mapN_drewN, VC.mapB_drewN, VC.regQ, VC.loopK, VC.reg, VC.opP, VC.opS, VC.opZ, VC.nomulB, VC.pv, VC.thenF, VC.blkF, VC.retF, VC.resV, VC.oneV, VC.evo, VC.bin, VC.binI, VC.cmpI, VC.arithI, VC.ldv, VC.slv, VC.pickP, VC.holds, VC.chainOf, VC.look, VC.junk, VC.put, VC.eff, VC.callee, VC.pureB, VC.rdK, VC.rdKs, VC.okKs, VC.eqKs, VC.fillL, VC.putL, VC.stW, VC.stOK, VC.mixF, VC.setAll, Nat.reduceAdd, Nat.reduceSub, Nat.reduceMul, if_true, if_false, ↓reduceIte, forall_const, implies_true, reduceCtorEq, ne_eq, Nat.reduceBNe, Nat.reduceBEq, IntKind.signed, Nat.reduceEqDiff, Nat.reduceLeDiff, Nat.reduceLT, eq_self, Int.reduceEq, Int.reduceLT, Int.reduceLE, Int.reduceAdd, Int.reduceSub, VC.regC_nil, VC.regC_cons, VC.regCK_eq, VC.callQ, VC.tailQ, VC.goCall, VC.chStep]
    refine CALL_by (refuse_any 2 _) fun e w9 hp => ⟨_, hp.1, ?_⟩
    obtain ⟨_, rfl⟩ := hp
    rw [VC.Now, VC.seqK_eq]
    simp -dsimp (maxSteps := 2000000) only [Fa.F20, VC.Now, VC.vc, VC.lib, VC.mapN_drewN, VC.mapB_drewN, VC.regQ, VC.loopK, VC.reg, VC.opP, VC.opS, VC.opZ, VC.nomulB, VC.pv, VC.thenF, VC.blkF, VC.retF, VC.resV, VC.oneV, VC.evo, VC.bin, VC.binI, VC.cmpI, VC.arithI, VC.ldv, VC.slv, VC.pickP, VC.holds, VC.chainOf, VC.look, VC.junk, VC.put, VC.eff, VC.callee, VC.pureB, VC.rdK, VC.rdKs, VC.okKs, VC.eqKs, VC.fillL, VC.putL, VC.stW, VC.stOK, VC.mixF, VC.setAll, Nat.reduceAdd, Nat.reduceSub, Nat.reduceMul, if_true, if_false, ↓reduceIte, forall_const, implies_true, reduceCtorEq, ne_eq, Nat.reduceBNe, Nat.reduceBEq, IntKind.signed, Nat.reduceEqDiff, Nat.reduceLeDiff, Nat.reduceLT, eq_self, Int.reduceEq, Int.reduceLT, Int.reduceLE, Int.reduceAdd, Int.reduceSub, VC.regC_nil, VC.regC_cons, VC.regCK_eq, VC.callQ, VC.tailQ, VC.goCall, VC.chStep]
    exact St.err h hB hc (by decide)
  have ed := eq_false q3
  simp -dsimp (maxSteps := 2000000) only [Fa.F20, eb, ec, ed, rdI_of z3, z3, hyl, undef, tu, uf, ul, ur, VC.Now, VC.vc_skip, VC.vc_ret, VC.vc_exit, VC.vc_block, VC.vc_cond, VC.vc_region, VC.lib, VC.mapN_drewN, VC.mapB_drewN, VC.regQ, VC.loopK, VC.reg, VC.opP, VC.opS, VC.opZ, VC.nomulB, VC.pv, VC.thenF, VC.blkF, VC.retF, VC.resV, VC.oneV, VC.evo, VC.bin, VC.binI, VC.cmpI, VC.arithI, VC.ldv, VC.slv, VC.pickP, VC.holds, VC.chainOf, VC.look, VC.junk, VC.put, VC.eff, VC.callee, VC.pureB, VC.rdK, VC.rdKs, VC.okKs, VC.eqKs, VC.fillL, VC.putL, VC.stW, VC.stOK, VC.mixF, VC.setAll, Nat.reduceAdd, Nat.reduceSub, Nat.reduceMul, if_true, if_false, ↓reduceIte, forall_const, implies_true, reduceCtorEq, ne_eq, Nat.reduceBNe, Nat.reduceBEq, IntKind.signed, Nat.reduceEqDiff, Nat.reduceLeDiff, Nat.reduceLT, eq_self, Int.reduceEq, Int.reduceLT, Int.reduceLE, Int.reduceAdd, Int.reduceSub, VC.regC_nil, VC.regC_cons, VC.regCK_eq, VC.callQ, VC.tailQ, VC.goCall, VC.chStep]
  have hc0 : ¬ ((p.fr < 0 ∨ k ≤ p.fr) ∨ (p.to < 0 ∨ k ≤ p.to) ∨ p.n < 1) := fun hh => hh.elim q1 fun hh => hh.elim q2 q3
  obtain ⟨a, ha0⟩ : ∃ a : Nat, p.fr = a := ⟨p.fr.toNat, by omega⟩
  obtain ⟨b, hb0⟩ : ∃ b : Nat, p.to = b := ⟨p.to.toNat, by omega⟩
  have hak : a < k := by omega
  have hbk : b < k := by omega
  have hat : p.fr.toNat = a := by omega
  have hbt : p.to.toNat = b := by omega
  rw [ha0] at z0
  rw [hb0] at z1
  have hR : Recs w4 g k 2 (fun i => accL (l i)) := h2.get 0 rfl
  have t0 := hR.at (i := a) (j := 0) hak (by omega) rfl
  have t1 := hR.at (i := a) (j := 1) hak (by omega) rfl
  have u0 := hR.at (i := b) (j := 0) hbk (by omega) rfl
  simp only [Nat.add_zero] at t0 u0
  have hgl := hR.1
  have hna := hl.n a
  have hnb := hl.n b
  have hsa := hl.s a
  have hfn := of_fits_i64 hfp
  have hmx : maxV = 1099511627776 := rfl
  have hcl : lcode k p l = if p.ser ≠ (l a).s then 3 else if (l a).n < p.n then 5 else if p.fr ≠ p.to ∧ maxV - p.n < (l b).n then 7 else 0 := by unfold lcode; rw [if_neg hc0, hat, hbt]
  have hpe : ptrElB Tryd.prog 76 = true := by kernel_rfl
  subst hQ
  by_cases q4 : p.ser = (l a).s
  case neg =>
    have e4 := eq_false q4
    rw [if_pos q4] at hcl
    simp -dsimp (maxSteps := 2000000) only [Fa.F20, rdSA_of px, rdSN_of px, rdSC_of px, px, rdI_of z0, z0, rdI_of z1, z1, rdI_of z2, z2, rdI_of z3, z3, rdI_of t0, t0, rdI_of t1, t1, rdI_of u0, u0, hxl, hyl, hgl, Int.toNat_natCast, Nat.zero_add, e4, undef, tu, uf, ul, ur, VC.Now, VC.vc, VC.lib, VC.mapN_drewN, VC.mapB_drewN, VC.regQ, VC.loopK, VC.reg, VC.opP, VC.opS, VC.opZ, VC.nomulB, VC.pv, VC.thenF, VC.blkF, VC.retF, VC.resV, VC.oneV, VC.evo, VC.bin, VC.binI, VC.cmpI, VC.arithI, VC.ldv, VC.slv, VC.pickP, VC.holds, VC.chainOf, VC.look, VC.junk, VC.put, VC.eff, VC.callee, VC.pureB, VC.rdK, VC.rdKs, VC.okKs, VC.eqKs, VC.fillL, VC.putL, VC.stW, VC.stOK, VC.mixF, VC.setAll, Nat.reduceAdd, Nat.reduceSub, Nat.reduceMul, if_true, if_false, ↓reduceIte, forall_const, implies_true, reduceCtorEq, ne_eq, Nat.reduceBNe, Nat.reduceBEq, IntKind.signed, Nat.reduceEqDiff, Nat.reduceLeDiff, Nat.reduceLT, eq_self, Int.reduceEq, Int.reduceLT, Int.reduceLE, Int.reduceAdd, Int.reduceSub, VC.regC_nil, VC.regC_cons, VC.regCK_eq, VC.callQ, VC.tailQ, VC.goCall, VC.chStep]
    refine ⟨⟨by omega, by omega⟩, ⟨by omega, by omega⟩, fun m1 m2 => ?_⟩
    refine CALL_by (refuse_any 3 _) fun e w9 hp => ⟨_, hp.1, ?_⟩
    obtain ⟨_, rfl⟩ := hp
    rw [VC.Now, VC.seqK_eq]
    simp -dsimp (maxSteps := 2000000) only [Fa.F20, VC.Now, VC.vc, VC.lib, VC.mapN_drewN, VC.mapB_drewN, VC.regQ, VC.loopK, VC.reg, VC.opP, VC.opS, VC.opZ, VC.nomulB, VC.pv, VC.thenF, VC.blkF, VC.retF, VC.resV, VC.oneV, VC.evo, VC.bin, VC.binI, VC.cmpI, VC.arithI, VC.ldv, VC.slv, VC.pickP, VC.holds, VC.chainOf, VC.look, VC.junk, VC.put, VC.eff, VC.callee, VC.pureB, VC.rdK, VC.rdKs, VC.okKs, VC.eqKs, VC.fillL, VC.putL, VC.stW, VC.stOK, VC.mixF, VC.setAll, Nat.reduceAdd, Nat.reduceSub, Nat.reduceMul, if_true, if_false, ↓reduceIte, forall_const, implies_true, reduceCtorEq, ne_eq, Nat.reduceBNe, Nat.reduceBEq, IntKind.signed, Nat.reduceEqDiff, Nat.reduceLeDiff, Nat.reduceLT, eq_self, Int.reduceEq, Int.reduceLT, Int.reduceLE, Int.reduceAdd, Int.reduceSub, VC.regC_nil, VC.regC_cons, VC.regCK_eq, VC.callQ, VC.tailQ, VC.goCall, VC.chStep]
    exact St.err h (below_drewN hB _) hcl (by decide)
  have e4 := eq_true q4
  rw [if_neg (by simp [q4])] at hcl
  by_cases q5 : (l a).n < p.n
  · have e5 := eq_true q5
    rw [if_pos q5] at hcl
    simp -dsimp (maxSteps := 2000000) only [Fa.F20, rdSA_of px, rdSN_of px, rdSC_of px, px, rdI_of z0, z0, rdI_of z1, z1, rdI_of z2, z2, rdI_of z3, z3, rdI_of t0, t0, rdI_of t1, t1, rdI_of u0, u0, hxl, hyl, hgl, Int.toNat_natCast, Nat.zero_add, e4, e5, undef, tu, uf, ul, ur, VC.Now, VC.vc, VC.lib, VC.mapN_drewN, VC.mapB_drewN, VC.regQ, VC.loopK, VC.reg, VC.opP, VC.opS, VC.opZ, VC.nomulB, VC.pv, VC.thenF, VC.blkF, VC.retF, VC.resV, VC.oneV, VC.evo, VC.bin, VC.binI, VC.cmpI, VC.arithI, VC.ldv, VC.slv, VC.pickP, VC.holds, VC.chainOf, VC.look, VC.junk, VC.put, VC.eff, VC.callee, VC.pureB, VC.rdK, VC.rdKs, VC.okKs, VC.eqKs, VC.fillL, VC.putL, VC.stW, VC.stOK, VC.mixF, VC.setAll, Nat.reduceAdd, Nat.reduceSub, Nat.reduceMul, if_true, if_false, ↓reduceIte, forall_const, implies_true, reduceCtorEq, ne_eq, Nat.reduceBNe, Nat.reduceBEq, IntKind.signed, Nat.reduceEqDiff, Nat.reduceLeDiff, Nat.reduceLT, eq_self, Int.reduceEq, Int.reduceLT, Int.reduceLE, Int.reduceAdd, Int.reduceSub, VC.regC_nil, VC.regC_cons, VC.regCK_eq, VC.callQ, VC.tailQ, VC.goCall, VC.chStep]
    refine ⟨⟨by omega, by omega⟩, ⟨by omega, by omega⟩, fun m1 m2 m3 => ?_⟩
    refine CALL_by (refuse_any 5 _) fun e w9 hp => ⟨_, hp.1, ?_⟩
    obtain ⟨_, rfl⟩ := hp
    rw [VC.Now, VC.seqK_eq]
    simp -dsimp (maxSteps := 2000000) only [Fa.F20, VC.Now, VC.vc, VC.lib, VC.mapN_drewN, VC.mapB_drewN, VC.regQ, VC.loopK, VC.reg, VC.opP, VC.opS, VC.opZ, VC.nomulB, VC.pv, VC.thenF, VC.blkF, VC.retF, VC.resV, VC.oneV, VC.evo, VC.bin, VC.binI, VC.cmpI, VC.arithI, VC.ldv, VC.slv, VC.pickP, VC.holds, VC.chainOf, VC.look, VC.junk, VC.put, VC.eff, VC.callee, VC.pureB, VC.rdK, VC.rdKs, VC.okKs, VC.eqKs, VC.fillL, VC.putL, VC.stW, VC.stOK, VC.mixF, VC.setAll, Nat.reduceAdd, Nat.reduceSub, Nat.reduceMul, if_true, if_false, ↓reduceIte, forall_const, implies_true, reduceCtorEq, ne_eq, Nat.reduceBNe, Nat.reduceBEq, IntKind.signed, Nat.reduceEqDiff, Nat.reduceLeDiff, Nat.reduceLT, eq_self, Int.reduceEq, Int.reduceLT, Int.reduceLE, Int.reduceAdd, Int.reduceSub, VC.regC_nil, VC.regC_cons, VC.regCK_eq, VC.callQ, VC.tailQ, VC.goCall, VC.chStep]
    exact St.err h (below_drewN hB _) hcl (by decide)
  have e5 := eq_false q5
  rw [if_neg q5] at hcl
  by_cases q6 : p.fr ≠ p.to ∧ maxV - p.n < (l b).n
  · have e6 : (1099511627776 - p.n < (l b).n) = True := eq_true (by have := q6.2; rw [hmx] at this; exact this)
    have eab : ((⟨g, a * 2, none⟩ : Addr) == ⟨g, b * 2, none⟩) = false := by
      have : a ≠ b := fun e => q6.1 (by rw [ha0, hb0, e])
      first | (simp; done) | (simp; omega)
    rw [if_pos q6] at hcl
    simp -dsimp (maxSteps := 2000000) only [Fa.F20, rdSA_of px, rdSN_of px, rdSC_of px, px, rdI_of z0, z0, rdI_of z1, z1, rdI_of z2, z2, rdI_of z3, z3, rdI_of t0, t0, rdI_of t1, t1, rdI_of u0, u0, hxl, hyl, hgl, Int.toNat_natCast, Nat.zero_add, e4, e5, e6, eab, hpe, undef, tu, uf, ul, ur, VC.Now, VC.vc, VC.lib, VC.mapN_drewN, VC.mapB_drewN, VC.regQ, VC.loopK, VC.reg, VC.opP, VC.opS, VC.opZ, VC.nomulB, VC.pv, VC.thenF, VC.blkF, VC.retF, VC.resV, VC.oneV, VC.evo, VC.bin, VC.binI, VC.cmpI, VC.arithI, VC.ldv, VC.slv, VC.pickP, VC.holds, VC.chainOf, VC.look, VC.junk, VC.put, VC.eff, VC.callee, VC.pureB, VC.rdK, VC.rdKs, VC.okKs, VC.eqKs, VC.fillL, VC.putL, VC.stW, VC.stOK, VC.mixF, VC.setAll, Nat.reduceAdd, Nat.reduceSub, Nat.reduceMul, if_true, if_false, ↓reduceIte, forall_const, implies_true, reduceCtorEq, ne_eq, Nat.reduceBNe, Nat.reduceBEq, IntKind.signed, Nat.reduceEqDiff, Nat.reduceLeDiff, Nat.reduceLT, eq_self, Int.reduceEq, Int.reduceLT, Int.reduceLE, Int.reduceAdd, Int.reduceSub, VC.regC_nil, VC.regC_cons, VC.regCK_eq, VC.callQ, VC.tailQ, VC.goCall, VC.chStep]
    refine ⟨⟨by omega, by omega⟩, ⟨by omega, by omega⟩, fun m1 m2 m3 => ⟨fits_i64 (by omega) (by omega), fun u9 m4 => ?_⟩⟩
    refine CALL_by (refuse_any 7 _) fun e w9 hp => ⟨_, hp.1, ?_⟩
    obtain ⟨_, rfl⟩ := hp
    rw [VC.Now, VC.seqK_eq]
    simp -dsimp (maxSteps := 2000000) only [Fa.F20, VC.Now, VC.vc, VC.lib, VC.mapN_drewN, VC.mapB_drewN, VC.regQ, VC.loopK, VC.reg, VC.opP, VC.opS, VC.opZ, VC.nomulB, VC.pv, VC.thenF, VC.blkF, VC.retF, VC.resV, VC.oneV, VC.evo, VC.bin, VC.binI, VC.cmpI, VC.arithI, VC.ldv, VC.slv, VC.pickP, VC.holds, VC.chainOf, VC.look, VC.junk, VC.put, VC.eff, VC.callee, VC.pureB, VC.rdK, VC.rdKs, VC.okKs, VC.eqKs, VC.fillL, VC.putL, VC.stW, VC.stOK, VC.mixF, VC.setAll, Nat.reduceAdd, Nat.reduceSub, Nat.reduceMul, if_true, if_false, ↓reduceIte, forall_const, implies_true, reduceCtorEq, ne_eq, Nat.reduceBNe, Nat.reduceBEq, IntKind.signed, Nat.reduceEqDiff, Nat.reduceLeDiff, Nat.reduceLT, eq_self, Int.reduceEq, Int.reduceLT, Int.reduceLE, Int.reduceAdd, Int.reduceSub, VC.regC_nil, VC.regC_cons, VC.regCK_eq, VC.callQ, VC.tailQ, VC.goCall, VC.chStep]
    exact St.err h (below_drewN hB _) hcl (by decide)
  rw [if_neg q6] at hcl
  have hln : lnext k p l = lmove a b p.n l := by unfold lnext; rw [if_pos hcl, hat, hbt]
  rw [hcl, hln]
  by_cases hab : a = b
  · have eab : ((⟨g, a * 2, none⟩ : Addr) == ⟨g, b * 2, none⟩) = true := by rw [hab]; simp
    simp -dsimp (maxSteps := 2000000) only [Fa.F20, rdSA_of px, rdSN_of px, rdSC_of px, px, rdI_of z0, z0, rdI_of z1, z1, rdI_of z2, z2, rdI_of z3, z3, rdI_of t0, t0, rdI_of t1, t1, rdI_of u0, u0, hxl, hyl, hgl, Int.toNat_natCast, Nat.zero_add, e4, e5, eab, hpe, undef, tu, uf, ul, ur, VC.Now, VC.vc, VC.lib, VC.mapN_drewN, VC.mapB_drewN, VC.regQ, VC.loopK, VC.reg, VC.opP, VC.opS, VC.opZ, VC.nomulB, VC.pv, VC.thenF, VC.blkF, VC.retF, VC.resV, VC.oneV, VC.evo, VC.bin, VC.binI, VC.cmpI, VC.arithI, VC.ldv, VC.slv, VC.pickP, VC.holds, VC.chainOf, VC.look, VC.junk, VC.put, VC.eff, VC.callee, VC.pureB, VC.rdK, VC.rdKs, VC.okKs, VC.eqKs, VC.fillL, VC.putL, VC.stW, VC.stOK, VC.mixF, VC.setAll, Nat.reduceAdd, Nat.reduceSub, Nat.reduceMul, if_true, if_false, ↓reduceIte, forall_const, implies_true, reduceCtorEq, ne_eq, Nat.reduceBNe, Nat.reduceBEq, IntKind.signed, Nat.reduceEqDiff, Nat.reduceLeDiff, Nat.reduceLT, eq_self, Int.reduceEq, Int.reduceLT, Int.reduceLE, Int.reduceAdd, Int.reduceSub, VC.regC_nil, VC.regC_cons, VC.regCK_eq, VC.callQ, VC.tailQ, VC.goCall, VC.chStep]
    refine ⟨⟨by omega, by omega⟩, ⟨by omega, by omega⟩, fun m1 m2 m3 u9 m4 => ?_⟩
    have hM := h2.drewN (m1 + m2 + m3 + m4)
    have y5 := y0.below (below_drewN (Below.refl _ _) (m1 + m2 + m3 + m4))
    have hBM := below_drewN hB (m1 + m2 + m3 + m4)
    generalize w4.drewN (m1 + m2 + m3 + m4) = w5 at hM y5 hBM ⊢
    have hR5 : Recs w5 g k 2 (fun i => accL (l i)) := hM.get 0 rfl
    have t5 := hR5.at (i := a) (j := 0) hak (by omega) rfl
    have f5 := hR5.soft (i := a) (j := 0) hak (by omega)
    simp only [Nat.add_zero] at t5 f5
    have hg5 := hR5.1
    have z5 := y5.at (i := 3) rfl
    have hy5 := y5.1
    refine WP_held 9 (fun _ => False) (.take 0 (.take 1 (.take 2 (.take 3 (.take 4 (.take 5 (.take 6 (.one 7 (.take 8 (.one 9 .done)))))))))) Fa.mix (by kernel_rfl) rfl ?_
    simp -dsimp (maxSteps := 2000000) only [VC.heldF_done, VC.heldF_last, VC.planF_done, VC.planF_take, VC.planF_one, VC.planF_two, VC.planK_eq, VC.heldF_take, VC.heldF_one, VC.heldF_two, VC.heldF_twoL, VC.heldK_eq, VC.okRd, Fa.F20, rdI_of t5, t5, rdI_of z5, z5, hg5, hy5, f5, VC.Now, VC.vc, VC.lib, VC.mapN_drewN, VC.mapB_drewN, VC.regQ, VC.loopK, VC.reg, VC.opP, VC.opS, VC.opZ, VC.nomulB, VC.pv, VC.thenF, VC.blkF, VC.retF, VC.resV, VC.oneV, VC.evo, VC.bin, VC.binI, VC.cmpI, VC.arithI, VC.ldv, VC.slv, VC.pickP, VC.holds, VC.chainOf, VC.look, VC.junk, VC.put, VC.eff, VC.callee, VC.pureB, VC.rdK, VC.rdKs, VC.okKs, VC.eqKs, VC.fillL, VC.putL, VC.stW, VC.stOK, VC.mixF, VC.setAll, Nat.reduceAdd, Nat.reduceSub, Nat.reduceMul, if_true, if_false, ↓reduceIte, forall_const, implies_true, reduceCtorEq, ne_eq, Nat.reduceBNe, Nat.reduceBEq, IntKind.signed, Nat.reduceEqDiff, Nat.reduceLeDiff, Nat.reduceLT, eq_self, Int.reduceEq, Int.reduceLT, Int.reduceLE, Int.reduceAdd, Int.reduceSub, VC.regC_nil, VC.regC_cons, VC.regCK_eq, VC.callQ, VC.tailQ, VC.goCall, VC.chStep]
    have ag5 : Agree (fun _ => False) w5 (w5.drewN 1) := Agree.of_below (below_drewN (Below.refl _ w5) 1)
    have st1 := (hM.drewN 1).setRec (en := accL) (P := l) 0 rfl (a := a) (j := 0) hak (by omega) rfl (v := .int .i64 ((l a).n - p.n)) (p := { l a with n := (l a).n - p.n }) rfl
    simp only [Nat.add_zero] at st1
    refine ⟨fits_i64 (by omega) (by omega), ag5, ?_⟩
    have y6 := (y5.below (below_drewN (Below.refl _ _) 1)).agree st1.agree nfy
    have sA := (h.below_st (below_drewN hBM 1)).trans st1
    generalize (w5.drewN 1).setCell ⟨g, a * 2, none⟩ (.int .i64 ((l a).n - p.n)) = w6 at sA y6 ⊢
    clear st1 hM y5 hBM t5 f5 hg5 z5 hy5 ag5 hR5
    have hl1 : ∀ i, 0 ≤ (upd l a { l a with n := (l a).n - p.n } i).n ∧ (upd l a { l a with n := (l a).n - p.n } i).n ≤ maxV := fun i => updA (R := fun q => 0 ≤ q.n ∧ q.n ≤ maxV) hl.n (by show 0 ≤ (l a).n - p.n ∧ (l a).n - p.n ≤ maxV; omega) i
    have hs1 : ∀ i, 0 ≤ (upd l a { l a with n := (l a).n - p.n } i).s ∧ (upd l a { l a with n := (l a).n - p.n } i).s ≤ t := fun i => updA (R := fun q => 0 ≤ q.s ∧ q.s ≤ t) (p := { l a with n := (l a).n - p.n }) hl.s hsa i
    have hH6 : Hp B [oRecs g k 2 (fun i => accL (upd l a { l a with n := (l a).n - p.n } i))] w6 := sA.hp
    have sA : St B [oRecs g k 2 (fun i => accL (l i))] w [oRecs g k 2 (fun i => accL (upd l a { l a with n := (l a).n - p.n } i))] w6 := sA
    have hmv : lmove a b p.n l = upd (upd (upd l a { l a with n := (l a).n - p.n }) b { (upd l a { l a with n := (l a).n - p.n }) b with n := ((upd l a { l a with n := (l a).n - p.n }) b).n + p.n }) a { (upd (upd l a { l a with n := (l a).n - p.n }) b { (upd l a { l a with n := (l a).n - p.n }) b with n := ((upd l a { l a with n := (l a).n - p.n }) b).n + p.n }) a with s := ((upd (upd l a { l a with n := (l a).n - p.n }) b { (upd l a { l a with n := (l a).n - p.n }) b with n := ((upd l a { l a with n := (l a).n - p.n }) b).n + p.n }) a).s + 1 } := rfl
    rw [hmv]
    clear hmv
    generalize upd l a { l a with n := (l a).n - p.n } = l1 at *
    have hnb1 := hl1 b
    have hR6 : Recs w6 g k 2 (fun i => accL (l1 i)) := hH6.get 0 rfl
    have t6 := hR6.at (i := b) (j := 0) hbk (by omega) rfl
    have f6 := hR6.soft (i := b) (j := 0) hbk (by omega)
    simp only [Nat.add_zero] at t6 f6
    have hg6 := hR6.1
    have z6 := y6.at (i := 3) rfl
    have hy6 := y6.1
    refine WP_held 9 (fun _ => False) (.take 0 (.take 1 (.take 2 (.take 3 (.take 4 (.take 5 (.take 6 (.one 7 (.take 8 (.one 9 .done)))))))))) Fa.mix (by kernel_rfl) rfl ?_
    simp -dsimp (maxSteps := 2000000) only [VC.heldF_done, VC.heldF_last, VC.planF_done, VC.planF_take, VC.planF_one, VC.planF_two, VC.planK_eq, VC.heldF_take, VC.heldF_one, VC.heldF_two, VC.heldF_twoL, VC.heldK_eq, VC.okRd, Fa.F20, rdI_of t6, t6, rdI_of z6, z6, hg6, hy6, f6, VC.Now, VC.vc, VC.lib, VC.mapN_drewN, VC.mapB_drewN, VC.regQ, VC.loopK, VC.reg, VC.opP, VC.opS, VC.opZ, VC.nomulB, VC.pv, VC.thenF, VC.blkF, VC.retF, VC.resV, VC.oneV, VC.evo, VC.bin, VC.binI, VC.cmpI, VC.arithI, VC.ldv, VC.slv, VC.pickP, VC.holds, VC.chainOf, VC.look, VC.junk, VC.put, VC.eff, VC.callee, VC.pureB, VC.rdK, VC.rdKs, VC.okKs, VC.eqKs, VC.fillL, VC.putL, VC.stW, VC.stOK, VC.mixF, VC.setAll, Nat.reduceAdd, Nat.reduceSub, Nat.reduceMul, if_true, if_false, ↓reduceIte, forall_const, implies_true, reduceCtorEq, ne_eq, Nat.reduceBNe, Nat.reduceBEq, IntKind.signed, Nat.reduceEqDiff, Nat.reduceLeDiff, Nat.reduceLT, eq_self, Int.reduceEq, Int.reduceLT, Int.reduceLE, Int.reduceAdd, Int.reduceSub, VC.regC_nil, VC.regC_cons, VC.regCK_eq, VC.callQ, VC.tailQ, VC.goCall, VC.chStep]
    have ag6 : Agree (fun _ => False) w6 (w6.drewN 1) := Agree.of_below (below_drewN (Below.refl _ w6) 1)
    have st2 := (hH6.drewN 1).setRec (en := accL) (P := l1) 0 rfl (a := b) (j := 0) hbk (by omega) rfl (v := .int .i64 ((l1 b).n + p.n)) (p := { l1 b with n := (l1 b).n + p.n }) rfl
    simp only [Nat.add_zero] at st2
    refine ⟨fits_i64 (by omega) (by omega), ag6, ?_⟩
    have sB := (sA.drewN 1).trans st2
    generalize (w6.drewN 1).setCell ⟨g, b * 2, none⟩ (.int .i64 ((l1 b).n + p.n)) = w7 at sB ⊢
    have hs2 : ∀ i, 0 ≤ (upd l1 b { l1 b with n := (l1 b).n + p.n } i).s ∧ (upd l1 b { l1 b with n := (l1 b).n + p.n } i).s ≤ t := fun i => updA (R := fun q => 0 ≤ q.s ∧ q.s ≤ t) (p := { l1 b with n := (l1 b).n + p.n }) hs1 (hs1 b) i
    clear st2
    have hH7 : Hp B [oRecs g k 2 (fun i => accL (upd l1 b { l1 b with n := (l1 b).n + p.n } i))] w7 := sB.hp
    generalize upd l1 b { l1 b with n := (l1 b).n + p.n } = l2 at *
    have hsa2 := hs2 a
    have hR7 : Recs w7 g k 2 (fun i => accL (l2 i)) := hH7.get 0 rfl
    have t7 := hR7.at (i := a) (j := 1) hak (by omega) rfl
    have f7 := hR7.soft (i := a) (j := 1) hak (by omega)
    have k7 : (w7.cell? ⟨g, a * 2 + 1, none⟩).isSome = true := by rw [t7]; rfl
    have hg7 := hR7.1
    have st3 := hH7.setRec (en := accL) (P := l2) 0 rfl (a := a) (j := 1) hak (by omega) rfl (v := .int .i64 ((l2 a).s + 1)) (p := { l2 a with s := (l2 a).s + 1 }) rfl
    simp -dsimp (maxSteps := 2000000) only [Fa.F20, rdI_of t7, t7, hg7, f7, k7, VC.Now, VC.vc, VC.lib, VC.mapN_drewN, VC.mapB_drewN, VC.regQ, VC.loopK, VC.reg, VC.opP, VC.opS, VC.opZ, VC.nomulB, VC.pv, VC.thenF, VC.blkF, VC.retF, VC.resV, VC.oneV, VC.evo, VC.bin, VC.binI, VC.cmpI, VC.arithI, VC.ldv, VC.slv, VC.pickP, VC.holds, VC.chainOf, VC.look, VC.junk, VC.put, VC.eff, VC.callee, VC.pureB, VC.rdK, VC.rdKs, VC.okKs, VC.eqKs, VC.fillL, VC.putL, VC.stW, VC.stOK, VC.mixF, VC.setAll, Nat.reduceAdd, Nat.reduceSub, Nat.reduceMul, if_true, if_false, ↓reduceIte, forall_const, implies_true, reduceCtorEq, ne_eq, Nat.reduceBNe, Nat.reduceBEq, IntKind.signed, Nat.reduceEqDiff, Nat.reduceLeDiff, Nat.reduceLT, eq_self, Int.reduceEq, Int.reduceLT, Int.reduceLE, Int.reduceAdd, Int.reduceSub, VC.regC_nil, VC.regC_cons, VC.regCK_eq, VC.callQ, VC.tailQ, VC.goCall, VC.chStep]
    refine ⟨fits_i64 (by omega) (by omega), ?_, sB.trans st3⟩
    rfl
  · have eab : ((⟨g, a * 2, none⟩ : Addr) == ⟨g, b * 2, none⟩) = false := by
      first | (simp; done) | (simp; omega)
    have e6 : (1099511627776 - p.n < (l b).n) = False := eq_false (fun hh => q6 ⟨fun e => hab (by omega), by rw [hmx]; exact hh⟩)
    simp -dsimp (maxSteps := 2000000) only [Fa.F20, rdSA_of px, rdSN_of px, rdSC_of px, px, rdI_of z0, z0, rdI_of z1, z1, rdI_of z2, z2, rdI_of z3, z3, rdI_of t0, t0, rdI_of t1, t1, rdI_of u0, u0, hxl, hyl, hgl, Int.toNat_natCast, Nat.zero_add, e4, e5, e6, eab, hpe, undef, tu, uf, ul, ur, VC.Now, VC.vc, VC.lib, VC.mapN_drewN, VC.mapB_drewN, VC.regQ, VC.loopK, VC.reg, VC.opP, VC.opS, VC.opZ, VC.nomulB, VC.pv, VC.thenF, VC.blkF, VC.retF, VC.resV, VC.oneV, VC.evo, VC.bin, VC.binI, VC.cmpI, VC.arithI, VC.ldv, VC.slv, VC.pickP, VC.holds, VC.chainOf, VC.look, VC.junk, VC.put, VC.eff, VC.callee, VC.pureB, VC.rdK, VC.rdKs, VC.okKs, VC.eqKs, VC.fillL, VC.putL, VC.stW, VC.stOK, VC.mixF, VC.setAll, Nat.reduceAdd, Nat.reduceSub, Nat.reduceMul, if_true, if_false, ↓reduceIte, forall_const, implies_true, reduceCtorEq, ne_eq, Nat.reduceBNe, Nat.reduceBEq, IntKind.signed, Nat.reduceEqDiff, Nat.reduceLeDiff, Nat.reduceLT, eq_self, Int.reduceEq, Int.reduceLT, Int.reduceLE, Int.reduceAdd, Int.reduceSub, VC.regC_nil, VC.regC_cons, VC.regCK_eq, VC.callQ, VC.tailQ, VC.goCall, VC.chStep]
    refine ⟨⟨by omega, by omega⟩, ⟨by omega, by omega⟩, fun m1 m2 m3 => ⟨fits_i64 (by omega) (by omega), fun u9 m4 => ?_⟩⟩
    have hM := h2.drewN (m1 + m2 + m3 + m4)
    have y5 := y0.below (below_drewN (Below.refl _ _) (m1 + m2 + m3 + m4))
    have hBM := below_drewN hB (m1 + m2 + m3 + m4)
    generalize w4.drewN (m1 + m2 + m3 + m4) = w5 at hM y5 hBM ⊢
    have hR5 : Recs w5 g k 2 (fun i => accL (l i)) := hM.get 0 rfl
    have t5 := hR5.at (i := a) (j := 0) hak (by omega) rfl
    have f5 := hR5.soft (i := a) (j := 0) hak (by omega)
    simp only [Nat.add_zero] at t5 f5
    have hg5 := hR5.1
    have z5 := y5.at (i := 3) rfl
    have hy5 := y5.1
    refine WP_held 9 (fun _ => False) (.take 0 (.take 1 (.take 2 (.take 3 (.take 4 (.take 5 (.take 6 (.one 7 (.take 8 (.one 9 .done)))))))))) Fa.mix (by kernel_rfl) rfl ?_
    simp -dsimp (maxSteps := 2000000) only [VC.heldF_done, VC.heldF_last, VC.planF_done, VC.planF_take, VC.planF_one, VC.planF_two, VC.planK_eq, VC.heldF_take, VC.heldF_one, VC.heldF_two, VC.heldF_twoL, VC.heldK_eq, VC.okRd, Fa.F20, rdI_of t5, t5, rdI_of z5, z5, hg5, hy5, f5, VC.Now, VC.vc, VC.lib, VC.mapN_drewN, VC.mapB_drewN, VC.regQ, VC.loopK, VC.reg, VC.opP, VC.opS, VC.opZ, VC.nomulB, VC.pv, VC.thenF, VC.blkF, VC.retF, VC.resV, VC.oneV, VC.evo, VC.bin, VC.binI, VC.cmpI, VC.arithI, VC.ldv, VC.slv, VC.pickP, VC.holds, VC.chainOf, VC.look, VC.junk, VC.put, VC.eff, VC.callee, VC.pureB, VC.rdK, VC.rdKs, VC.okKs, VC.eqKs, VC.fillL, VC.putL, VC.stW, VC.stOK, VC.mixF, VC.setAll, Nat.reduceAdd, Nat.reduceSub, Nat.reduceMul, if_true, if_false, ↓reduceIte, forall_const, implies_true, reduceCtorEq, ne_eq, Nat.reduceBNe, Nat.reduceBEq, IntKind.signed, Nat.reduceEqDiff, Nat.reduceLeDiff, Nat.reduceLT, eq_self, Int.reduceEq, Int.reduceLT, Int.reduceLE, Int.reduceAdd, Int.reduceSub, VC.regC_nil, VC.regC_cons, VC.regCK_eq, VC.callQ, VC.tailQ, VC.goCall, VC.chStep]
    have ag5 : Agree (fun _ => False) w5 (w5.drewN 1) := Agree.of_below (below_drewN (Below.refl _ w5) 1)
    have st1 := (hM.drewN 1).setRec (en := accL) (P := l) 0 rfl (a := a) (j := 0) hak (by omega) rfl (v := .int .i64 ((l a).n - p.n)) (p := { l a with n := (l a).n - p.n }) rfl
    simp only [Nat.add_zero] at st1
    refine ⟨fits_i64 (by omega) (by omega), ag5, ?_⟩
    have y6 := (y5.below (below_drewN (Below.refl _ _) 1)).agree st1.agree nfy
    have sA := (h.below_st (below_drewN hBM 1)).trans st1
    generalize (w5.drewN 1).setCell ⟨g, a * 2, none⟩ (.int .i64 ((l a).n - p.n)) = w6 at sA y6 ⊢
    clear st1 hM y5 hBM t5 f5 hg5 z5 hy5 ag5 hR5
    have hl1 : ∀ i, 0 ≤ (upd l a { l a with n := (l a).n - p.n } i).n ∧ (upd l a { l a with n := (l a).n - p.n } i).n ≤ maxV := fun i => updA (R := fun q => 0 ≤ q.n ∧ q.n ≤ maxV) hl.n (by show 0 ≤ (l a).n - p.n ∧ (l a).n - p.n ≤ maxV; omega) i
    have hs1 : ∀ i, 0 ≤ (upd l a { l a with n := (l a).n - p.n } i).s ∧ (upd l a { l a with n := (l a).n - p.n } i).s ≤ t := fun i => updA (R := fun q => 0 ≤ q.s ∧ q.s ≤ t) (p := { l a with n := (l a).n - p.n }) hl.s hsa i
    have hH6 : Hp B [oRecs g k 2 (fun i => accL (upd l a { l a with n := (l a).n - p.n } i))] w6 := sA.hp
    have sA : St B [oRecs g k 2 (fun i => accL (l i))] w [oRecs g k 2 (fun i => accL (upd l a { l a with n := (l a).n - p.n } i))] w6 := sA
    have hmv : lmove a b p.n l = upd (upd (upd l a { l a with n := (l a).n - p.n }) b { (upd l a { l a with n := (l a).n - p.n }) b with n := ((upd l a { l a with n := (l a).n - p.n }) b).n + p.n }) a { (upd (upd l a { l a with n := (l a).n - p.n }) b { (upd l a { l a with n := (l a).n - p.n }) b with n := ((upd l a { l a with n := (l a).n - p.n }) b).n + p.n }) a with s := ((upd (upd l a { l a with n := (l a).n - p.n }) b { (upd l a { l a with n := (l a).n - p.n }) b with n := ((upd l a { l a with n := (l a).n - p.n }) b).n + p.n }) a).s + 1 } := rfl
    rw [hmv]
    clear hmv
    generalize upd l a { l a with n := (l a).n - p.n } = l1 at *
    have hnb1 := hl1 b
    have hR6 : Recs w6 g k 2 (fun i => accL (l1 i)) := hH6.get 0 rfl
    have t6 := hR6.at (i := b) (j := 0) hbk (by omega) rfl
    have f6 := hR6.soft (i := b) (j := 0) hbk (by omega)
    simp only [Nat.add_zero] at t6 f6
    have hg6 := hR6.1
    have z6 := y6.at (i := 3) rfl
    have hy6 := y6.1
    refine WP_held 9 (fun _ => False) (.take 0 (.take 1 (.take 2 (.take 3 (.take 4 (.take 5 (.take 6 (.one 7 (.take 8 (.one 9 .done)))))))))) Fa.mix (by kernel_rfl) rfl ?_
    simp -dsimp (maxSteps := 2000000) only [VC.heldF_done, VC.heldF_last, VC.planF_done, VC.planF_take, VC.planF_one, VC.planF_two, VC.planK_eq, VC.heldF_take, VC.heldF_one, VC.heldF_two, VC.heldF_twoL, VC.heldK_eq, VC.okRd, Fa.F20, rdI_of t6, t6, rdI_of z6, z6, hg6, hy6, f6, VC.Now, VC.vc, VC.lib, VC.mapN_drewN, VC.mapB_drewN, VC.regQ, VC.loopK, VC.reg, VC.opP, VC.opS, VC.opZ, VC.nomulB, VC.pv, VC.thenF, VC.blkF, VC.retF, VC.resV, VC.oneV, VC.evo, VC.bin, VC.binI, VC.cmpI, VC.arithI, VC.ldv, VC.slv, VC.pickP, VC.holds, VC.chainOf, VC.look, VC.junk, VC.put, VC.eff, VC.callee, VC.pureB, VC.rdK, VC.rdKs, VC.okKs, VC.eqKs, VC.fillL, VC.putL, VC.stW, VC.stOK, VC.mixF, VC.setAll, Nat.reduceAdd, Nat.reduceSub, Nat.reduceMul, if_true, if_false, ↓reduceIte, forall_const, implies_true, reduceCtorEq, ne_eq, Nat.reduceBNe, Nat.reduceBEq, IntKind.signed, Nat.reduceEqDiff, Nat.reduceLeDiff, Nat.reduceLT, eq_self, Int.reduceEq, Int.reduceLT, Int.reduceLE, Int.reduceAdd, Int.reduceSub, VC.regC_nil, VC.regC_cons, VC.regCK_eq, VC.callQ, VC.tailQ, VC.goCall, VC.chStep]
    have ag6 : Agree (fun _ => False) w6 (w6.drewN 1) := Agree.of_below (below_drewN (Below.refl _ w6) 1)
    have st2 := (hH6.drewN 1).setRec (en := accL) (P := l1) 0 rfl (a := b) (j := 0) hbk (by omega) rfl (v := .int .i64 ((l1 b).n + p.n)) (p := { l1 b with n := (l1 b).n + p.n }) rfl
    simp only [Nat.add_zero] at st2
    refine ⟨fits_i64 (by omega) (by omega), ag6, ?_⟩
    have sB := (sA.drewN 1).trans st2
    generalize (w6.drewN 1).setCell ⟨g, b * 2, none⟩ (.int .i64 ((l1 b).n + p.n)) = w7 at sB ⊢
    have hs2 : ∀ i, 0 ≤ (upd l1 b { l1 b with n := (l1 b).n + p.n } i).s ∧ (upd l1 b { l1 b with n := (l1 b).n + p.n } i).s ≤ t := fun i => updA (R := fun q => 0 ≤ q.s ∧ q.s ≤ t) (p := { l1 b with n := (l1 b).n + p.n }) hs1 (hs1 b) i
    clear st2
    have hH7 : Hp B [oRecs g k 2 (fun i => accL (upd l1 b { l1 b with n := (l1 b).n + p.n } i))] w7 := sB.hp
    generalize upd l1 b { l1 b with n := (l1 b).n + p.n } = l2 at *
    have hsa2 := hs2 a
    have hR7 : Recs w7 g k 2 (fun i => accL (l2 i)) := hH7.get 0 rfl
    have t7 := hR7.at (i := a) (j := 1) hak (by omega) rfl
    have f7 := hR7.soft (i := a) (j := 1) hak (by omega)
    have k7 : (w7.cell? ⟨g, a * 2 + 1, none⟩).isSome = true := by rw [t7]; rfl
    have hg7 := hR7.1
    have st3 := hH7.setRec (en := accL) (P := l2) 0 rfl (a := a) (j := 1) hak (by omega) rfl (v := .int .i64 ((l2 a).s + 1)) (p := { l2 a with s := (l2 a).s + 1 }) rfl
    simp -dsimp (maxSteps := 2000000) only [Fa.F20, rdI_of t7, t7, hg7, f7, k7, VC.Now, VC.vc, VC.lib, VC.mapN_drewN, VC.mapB_drewN, VC.regQ, VC.loopK, VC.reg, VC.opP, VC.opS, VC.opZ, VC.nomulB, VC.pv, VC.thenF, VC.blkF, VC.retF, VC.resV, VC.oneV, VC.evo, VC.bin, VC.binI, VC.cmpI, VC.arithI, VC.ldv, VC.slv, VC.pickP, VC.holds, VC.chainOf, VC.look, VC.junk, VC.put, VC.eff, VC.callee, VC.pureB, VC.rdK, VC.rdKs, VC.okKs, VC.eqKs, VC.fillL, VC.putL, VC.stW, VC.stOK, VC.mixF, VC.setAll, Nat.reduceAdd, Nat.reduceSub, Nat.reduceMul, if_true, if_false, ↓reduceIte, forall_const, implies_true, reduceCtorEq, ne_eq, Nat.reduceBNe, Nat.reduceBEq, IntKind.signed, Nat.reduceEqDiff, Nat.reduceLeDiff, Nat.reduceLT, eq_self, Int.reduceEq, Int.reduceLT, Int.reduceLE, Int.reduceAdd, Int.reduceSub, VC.regC_nil, VC.regC_cons, VC.regCK_eq, VC.callQ, VC.tailQ, VC.goCall, VC.chStep]
    refine ⟨fits_i64 (by omega) (by omega), ?_, sB.trans st3⟩
    rfl
end Go.Proofs.YtelfmhiaafkimaaDoor
