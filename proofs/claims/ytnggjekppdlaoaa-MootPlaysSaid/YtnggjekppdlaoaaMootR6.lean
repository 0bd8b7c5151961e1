/- An assembly as the document has it: a step. -/
import Derived.Test.YtnggjekppdlaoaaMootR5
namespace Go.Proofs.Ytnggjekppdlaoaa
open Go Go.RowKit Go.VC
set_option linter.unusedSimpArgs false
set_option linter.unusedVariables false
section
variable {B n f liars t : Nat} {a : RA} {s : MS} {V T : List Vo} {w : World}

set_option maxRecDepth 8000 in
set_option maxHeartbeats 8000000 in
theorem stepR_any (h : Hp B (RObs n f liars a s V T) w) (hR : RRel n liars s V T) (hok : MOK n t s) (hn : n ≤ 32) (hf : f ≤ n) (hV : V.length ≤ 1000) (hT : T.length ≤ 1000) (hl : liars < 4294967296) {c : Say} (hc : SayOK c) :
    Calls Try.prog 50 #[.pointer (some ⟨a.mb, 0, none⟩), sayV c] w (RPost B n f liars a s V T w (mstep n (n - f) liars c s)) := by
  have hB0 : Below w.heap.size w (w.alloc (.cells (sayL c).toArray 124)) := (Below.refl _ _).alloc (Nat.le_refl _) _
  have hs0 := say_box c w 124
  refine calls_vc (rs := [.tmp 4]) Fa.mix Try.func50 rfl Try.ntmps50 rfl (by kernel_rfl) (Nat.le_of_ble_eq_true rfl) ?_
  (repeat rw [vc_seq]); refine vc_plain _ fun Q hQ => ?_; simp -dsimp only [Fa.F50, VC.Now, VC.vc_skip, VC.vc_ret, VC.vc_exit, VC.vc_block, VC.vc_cond, VC.vc_region, VC.lib, VC.regQ, VC.loopK, VC.reg, VC.opP, VC.pv, VC.thenF, VC.blkF, VC.retF, VC.resV, VC.oneV, VC.evo, VC.bin, VC.binI, VC.cmpI, VC.arithI, VC.ldv, VC.slv, VC.pickP, VC.holds, VC.chainOf, VC.look, VC.junk, VC.put, VC.eff, VC.callee, VC.pureB, VC.rdK, VC.rdKs, VC.okKs, VC.eqKs, VC.fillL, VC.putL, VC.stW, VC.stOK, VC.mixF, VC.setAll, Nat.reduceAdd, Nat.reduceSub, Nat.reduceMul, if_true, if_false, ↓reduceIte, forall_const, implies_true, reduceCtorEq, ne_eq, Nat.reduceBNe, Nat.reduceBEq, IntKind.signed, Nat.reduceEqDiff, Nat.reduceLeDiff, Nat.reduceLT, eq_self, Int.reduceEq, Int.reduceLT, Int.reduceLE, Int.reduceAdd, Int.reduceSub, VC.regC_nil, VC.regC_cons, VC.regCK_eq, VC.callQ, VC.tailQ, VC.goCall, VC.chStep]
  generalize hsb : w.heap.size = sb at hs0 ⊢
  change Q _ _ (w.alloc (.cells (sayL c).toArray 124))
  generalize w.alloc (.cells (sayL c).toArray 124) = w1 at hs0 hB0 ⊢
  subst hQ
  have h1 := h.below hB0
  have z0 := hs0.at (i := 0) rfl
  have z1 := hs0.at (i := 1) rfl
  have z2 := hs0.at (i := 2) rfl
  have z3 := hs0.at (i := 3) rfl
  have z4 := hs0.at (i := 4) rfl
  have b0 := (ro_box h1).at (i := 0) rfl
  have b2 := (ro_box h1).at (i := 2) rfl
  have hnb := hok.nb1
  by_cases q1 : c.kind = 1
  · have e1 := eq_true q1
    simp -dsimp only [Fa.F50, rdI_of z0, z0, rdI_of z1, z1, rdI_of z2, z2, rdI_of z3, z3, rdI_of z4, z4, e1, VC.Now, VC.vc, VC.lib, VC.regQ, VC.loopK, VC.reg, VC.opP, VC.pv, VC.thenF, VC.blkF, VC.retF, VC.resV, VC.oneV, VC.evo, VC.bin, VC.binI, VC.cmpI, VC.arithI, VC.ldv, VC.slv, VC.pickP, VC.holds, VC.chainOf, VC.look, VC.junk, VC.put, VC.eff, VC.callee, VC.pureB, VC.rdK, VC.rdKs, VC.okKs, VC.eqKs, VC.fillL, VC.putL, VC.stW, VC.stOK, VC.mixF, VC.setAll, Nat.reduceAdd, Nat.reduceSub, Nat.reduceMul, if_true, if_false, ↓reduceIte, forall_const, implies_true, reduceCtorEq, ne_eq, Nat.reduceBNe, Nat.reduceBEq, IntKind.signed, Nat.reduceEqDiff, Nat.reduceLeDiff, Nat.reduceLT, eq_self, Int.reduceEq, Int.reduceLT, Int.reduceLE, Int.reduceAdd, Int.reduceSub, VC.regC_nil, VC.regC_cons, VC.regCK_eq, VC.callQ, VC.tailQ, VC.goCall, VC.chStep]
    refine CALL_by (blockR_any h1 hR hok hn hf hV hc) fun e w2 hp => ⟨_, hp.1, ?_⟩
    simp -dsimp only [Fa.F50, VC.Now, VC.vc, VC.lib, VC.regQ, VC.loopK, VC.reg, VC.opP, VC.pv, VC.thenF, VC.blkF, VC.retF, VC.resV, VC.oneV, VC.evo, VC.bin, VC.binI, VC.cmpI, VC.arithI, VC.ldv, VC.slv, VC.pickP, VC.holds, VC.chainOf, VC.look, VC.junk, VC.put, VC.eff, VC.callee, VC.pureB, VC.rdK, VC.rdKs, VC.okKs, VC.eqKs, VC.fillL, VC.putL, VC.stW, VC.stOK, VC.mixF, VC.setAll, Nat.reduceAdd, Nat.reduceSub, Nat.reduceMul, if_true, if_false, ↓reduceIte, forall_const, implies_true, reduceCtorEq, ne_eq, Nat.reduceBNe, Nat.reduceBEq, IntKind.signed, Nat.reduceEqDiff, Nat.reduceLeDiff, Nat.reduceLT, eq_self, Int.reduceEq, Int.reduceLT, Int.reduceLE, Int.reduceAdd, Int.reduceSub, VC.regC_nil, VC.regC_cons, VC.regCK_eq, VC.callQ, VC.tailQ, VC.goCall, VC.chStep]
    rw [mstep_1 q1]
    exact (hp.1 ▸ hp : RPost B n f liars a s V T w1 _ (.returned (.int .i64 (mblock (n - f) c s).1)) w2).lift h hB0
  have e1 := eq_false q1
  by_cases q0 : c.kind < 1 ∨ 4 < c.kind
  · have e2 : (c.kind = 2) = False := eq_false (by omega)
    have e3 : (c.kind = 3) = False := eq_false (by omega)
    have e4 : (c.kind = 4) = False := eq_false (by omega)
    simp -dsimp only [Fa.F50, rdI_of z0, z0, e1, e2, e3, e4, VC.Now, VC.vc, VC.lib, VC.regQ, VC.loopK, VC.reg, VC.opP, VC.pv, VC.thenF, VC.blkF, VC.retF, VC.resV, VC.oneV, VC.evo, VC.bin, VC.binI, VC.cmpI, VC.arithI, VC.ldv, VC.slv, VC.pickP, VC.holds, VC.chainOf, VC.look, VC.junk, VC.put, VC.eff, VC.callee, VC.pureB, VC.rdK, VC.rdKs, VC.okKs, VC.eqKs, VC.fillL, VC.putL, VC.stW, VC.stOK, VC.mixF, VC.setAll, Nat.reduceAdd, Nat.reduceSub, Nat.reduceMul, if_true, if_false, ↓reduceIte, forall_const, implies_true, reduceCtorEq, ne_eq, Nat.reduceBNe, Nat.reduceBEq, IntKind.signed, Nat.reduceEqDiff, Nat.reduceLeDiff, Nat.reduceLT, eq_self, Int.reduceEq, Int.reduceLT, Int.reduceLE, Int.reduceAdd, Int.reduceSub, VC.regC_nil, VC.regC_cons, VC.regCK_eq, VC.callQ, VC.tailQ, VC.goCall, VC.chStep]
    exact RPost.same h hR hB0 (mstep_b q0)
  by_cases q2 : c.who < 0 ∨ (n : Int) ≤ c.who
  · have e5 := eq_true q2
    have e4 : (¬ c.kind = 2 ∧ ¬ c.kind = 3) → (c.kind = 4) := fun h => by omega
    have e6 : ((¬c.kind = 2 ∧ ¬c.kind = 3) ∧ ¬c.kind = 4) = False := eq_false (by omega)
    simp -dsimp only [Fa.F50, rdI_of z0, z0, rdI_of z1, z1, rdI_of b0, b0, e1, e5, e6, VC.Now, VC.vc, VC.lib, VC.regQ, VC.loopK, VC.reg, VC.opP, VC.pv, VC.thenF, VC.blkF, VC.retF, VC.resV, VC.oneV, VC.evo, VC.bin, VC.binI, VC.cmpI, VC.arithI, VC.ldv, VC.slv, VC.pickP, VC.holds, VC.chainOf, VC.look, VC.junk, VC.put, VC.eff, VC.callee, VC.pureB, VC.rdK, VC.rdKs, VC.okKs, VC.eqKs, VC.fillL, VC.putL, VC.stW, VC.stOK, VC.mixF, VC.setAll, Nat.reduceAdd, Nat.reduceSub, Nat.reduceMul, if_true, if_false, ↓reduceIte, forall_const, implies_true, reduceCtorEq, ne_eq, Nat.reduceBNe, Nat.reduceBEq, IntKind.signed, Nat.reduceEqDiff, Nat.reduceLeDiff, Nat.reduceLT, eq_self, Int.reduceEq, Int.reduceLT, Int.reduceLE, Int.reduceAdd, Int.reduceSub, VC.regC_nil, VC.regC_cons, VC.regCK_eq, VC.callQ, VC.tailQ, VC.goCall, VC.chStep]
    exact fun m => RPost.same h hR (hB0.trans ((below_drewN (Below.refl _ w1) m).mono hB0.size)) (mstep_w (by omega) (by omega) q2)
  have e5 := eq_false q2
  obtain ⟨i, hi⟩ : ∃ i : Nat, c.who = i := ⟨c.who.toNat, by omega⟩
  have hin : i < n := by omega
  have hiN : c.who.toNat = i := by omega
  by_cases q3 : c.kind = 2
  · have e3 := eq_true q3
    simp -dsimp only [Fa.F50, rdI_of z0, z0, rdI_of z1, z1, rdI_of z2, z2, rdI_of z3, z3, rdI_of z4, z4, rdI_of b0, b0, e1, e3, e5, undef, tu, uf, ul, ur, VC.Now, VC.vc, VC.lib, VC.regQ, VC.loopK, VC.reg, VC.opP, VC.pv, VC.thenF, VC.blkF, VC.retF, VC.resV, VC.oneV, VC.evo, VC.bin, VC.binI, VC.cmpI, VC.arithI, VC.ldv, VC.slv, VC.pickP, VC.holds, VC.chainOf, VC.look, VC.junk, VC.put, VC.eff, VC.callee, VC.pureB, VC.rdK, VC.rdKs, VC.okKs, VC.eqKs, VC.fillL, VC.putL, VC.stW, VC.stOK, VC.mixF, VC.setAll, Nat.reduceAdd, Nat.reduceSub, Nat.reduceMul, if_true, if_false, ↓reduceIte, forall_const, implies_true, reduceCtorEq, ne_eq, Nat.reduceBNe, Nat.reduceBEq, IntKind.signed, Nat.reduceEqDiff, Nat.reduceLeDiff, Nat.reduceLT, eq_self, Int.reduceEq, Int.reduceLT, Int.reduceLE, Int.reduceAdd, Int.reduceSub, VC.regC_nil, VC.regC_cons, VC.regCK_eq, VC.callQ, VC.tailQ, VC.goCall, VC.chStep]
    intro u u1 m
    refine CALL_by (voteR_any (h1.drewN m) hR hok hn hf hV hT hl hc hin hi) fun e w2 hp => ⟨_, hp.1, ?_⟩
    simp -dsimp only [Fa.F50, VC.Now, VC.vc, VC.lib, VC.regQ, VC.loopK, VC.reg, VC.opP, VC.pv, VC.thenF, VC.blkF, VC.retF, VC.resV, VC.oneV, VC.evo, VC.bin, VC.binI, VC.cmpI, VC.arithI, VC.ldv, VC.slv, VC.pickP, VC.holds, VC.chainOf, VC.look, VC.junk, VC.put, VC.eff, VC.callee, VC.pureB, VC.rdK, VC.rdKs, VC.okKs, VC.eqKs, VC.fillL, VC.putL, VC.stW, VC.stOK, VC.mixF, VC.setAll, Nat.reduceAdd, Nat.reduceSub, Nat.reduceMul, if_true, if_false, ↓reduceIte, forall_const, implies_true, reduceCtorEq, ne_eq, Nat.reduceBNe, Nat.reduceBEq, IntKind.signed, Nat.reduceEqDiff, Nat.reduceLeDiff, Nat.reduceLT, eq_self, Int.reduceEq, Int.reduceLT, Int.reduceLE, Int.reduceAdd, Int.reduceSub, VC.regC_nil, VC.regC_cons, VC.regCK_eq, VC.callQ, VC.tailQ, VC.goCall, VC.chStep]
    rw [mstep_2 q3 q2, hiN]
    exact (hp.1 ▸ hp : RPost B n f liars a s V T (w1.drewN m) _ (.returned (.int .i64 (mvote n (n - f) liars i c s).1)) w2).lift h (hB0.trans ((below_drewN (Below.refl _ w1) m).mono hB0.size))
  have e3 := eq_false q3
  by_cases q4 : c.kind = 3
  · have e4 := eq_true q4
    simp -dsimp only [Fa.F50, rdI_of z0, z0, rdI_of z1, z1, rdI_of z2, z2, rdI_of z3, z3, rdI_of z4, z4, rdI_of b0, b0, e1, e3, e4, e5, undef, tu, uf, ul, ur, VC.Now, VC.vc, VC.lib, VC.regQ, VC.loopK, VC.reg, VC.opP, VC.pv, VC.thenF, VC.blkF, VC.retF, VC.resV, VC.oneV, VC.evo, VC.bin, VC.binI, VC.cmpI, VC.arithI, VC.ldv, VC.slv, VC.pickP, VC.holds, VC.chainOf, VC.look, VC.junk, VC.put, VC.eff, VC.callee, VC.pureB, VC.rdK, VC.rdKs, VC.okKs, VC.eqKs, VC.fillL, VC.putL, VC.stW, VC.stOK, VC.mixF, VC.setAll, Nat.reduceAdd, Nat.reduceSub, Nat.reduceMul, if_true, if_false, ↓reduceIte, forall_const, implies_true, reduceCtorEq, ne_eq, Nat.reduceBNe, Nat.reduceBEq, IntKind.signed, Nat.reduceEqDiff, Nat.reduceLeDiff, Nat.reduceLT, eq_self, Int.reduceEq, Int.reduceLT, Int.reduceLE, Int.reduceAdd, Int.reduceSub, VC.regC_nil, VC.regC_cons, VC.regCK_eq, VC.callQ, VC.tailQ, VC.goCall, VC.chStep]
    intro u u1 m
    refine CALL_by (lateR_any (h1.drewN m) hR hok hn hf hV hT hl hc hin hi) fun e w2 hp => ⟨_, hp.1, ?_⟩
    simp -dsimp only [Fa.F50, VC.Now, VC.vc, VC.lib, VC.regQ, VC.loopK, VC.reg, VC.opP, VC.pv, VC.thenF, VC.blkF, VC.retF, VC.resV, VC.oneV, VC.evo, VC.bin, VC.binI, VC.cmpI, VC.arithI, VC.ldv, VC.slv, VC.pickP, VC.holds, VC.chainOf, VC.look, VC.junk, VC.put, VC.eff, VC.callee, VC.pureB, VC.rdK, VC.rdKs, VC.okKs, VC.eqKs, VC.fillL, VC.putL, VC.stW, VC.stOK, VC.mixF, VC.setAll, Nat.reduceAdd, Nat.reduceSub, Nat.reduceMul, if_true, if_false, ↓reduceIte, forall_const, implies_true, reduceCtorEq, ne_eq, Nat.reduceBNe, Nat.reduceBEq, IntKind.signed, Nat.reduceEqDiff, Nat.reduceLeDiff, Nat.reduceLT, eq_self, Int.reduceEq, Int.reduceLT, Int.reduceLE, Int.reduceAdd, Int.reduceSub, VC.regC_nil, VC.regC_cons, VC.regCK_eq, VC.callQ, VC.tailQ, VC.goCall, VC.chStep]
    rw [mstep_3 q4 q2, hiN]
    exact (hp.1 ▸ hp : RPost B n f liars a s V T (w1.drewN m) _ (.returned (.int .i64 (mlate (n - f) liars i c s).1)) w2).lift h (hB0.trans ((below_drewN (Below.refl _ w1) m).mono hB0.size))
  have e4 := eq_false q4
  have q5 : c.kind = 4 := by omega
  have e6 := eq_true q5
  obtain ⟨g, cb, e, hg, hblk⟩ := ro_blk h1 hok.nb0
  have b3 := (ro_box h1).at (i := 3) rfl
  rw [e] at b3
  rw [mstep_4 q5 q2, hiN]
  rw [hi] at z1 e5
  by_cases q7 : isBlk s c.block
  · obtain ⟨b0', hb0, hbt⟩ : ∃ b0 : Nat, c.block = b0 ∧ b0 < s.nb := ⟨c.block.toNat, by have := q7.1; omega, by have := q7.2; have := q7.1; omega⟩
    have hbN : c.block.toNat = b0' := by omega
    rw [hb0] at z2
    have e7 : (((b0' : Nat) : Int) < 0 ∨ ((s.nb : Int) ≤ ((b0' : Nat) : Int))) = False := eq_false (by omega)
    simp -dsimp only [Fa.F50, rdI_of z0, z0, rdI_of z1, z1, rdI_of z2, z2, rdI_of z3, z3, rdI_of z4, z4, rdI_of b0, b0, rdSA_of b3, rdSN_of b3, rdSC_of b3, b3, e1, e3, e4, e5, e6, e7, undef, tu, uf, ul, ur, VC.Now, VC.vc, VC.lib, VC.regQ, VC.loopK, VC.reg, VC.opP, VC.pv, VC.thenF, VC.blkF, VC.retF, VC.resV, VC.oneV, VC.evo, VC.bin, VC.binI, VC.cmpI, VC.arithI, VC.ldv, VC.slv, VC.pickP, VC.holds, VC.chainOf, VC.look, VC.junk, VC.put, VC.eff, VC.callee, VC.pureB, VC.rdK, VC.rdKs, VC.okKs, VC.eqKs, VC.fillL, VC.putL, VC.stW, VC.stOK, VC.mixF, VC.setAll, Nat.reduceAdd, Nat.reduceSub, Nat.reduceMul, if_true, if_false, ↓reduceIte, forall_const, implies_true, reduceCtorEq, ne_eq, Nat.reduceBNe, Nat.reduceBEq, IntKind.signed, Nat.reduceEqDiff, Nat.reduceLeDiff, Nat.reduceLT, eq_self, Int.reduceEq, Int.reduceLT, Int.reduceLE, Int.reduceAdd, Int.reduceSub, VC.regC_nil, VC.regC_cons, VC.regCK_eq, VC.callQ, VC.tailQ, VC.goCall, VC.chStep]
    intro u1 u2 m1 u3 m2
    have h2 := h1.drewN (m1 + m2)
    have hB2 := hB0.trans ((below_drewN (Below.refl _ w1) (m1 + m2)).mono hB0.size)
    refine WP_calls Fa.mix (by kernel_rfl) (by kernel_rfl) rfl ?_
    simp -dsimp only [Fa.F50, rdI_of z0, z0, rdI_of z1, z1, rdI_of z2, z2, rdI_of z3, z3, rdI_of z4, z4, rdI_of b2, b2, VC.Now, VC.vc, VC.lib, VC.regQ, VC.loopK, VC.reg, VC.opP, VC.pv, VC.thenF, VC.blkF, VC.retF, VC.resV, VC.oneV, VC.evo, VC.bin, VC.binI, VC.cmpI, VC.arithI, VC.ldv, VC.slv, VC.pickP, VC.holds, VC.chainOf, VC.look, VC.junk, VC.put, VC.eff, VC.callee, VC.pureB, VC.rdK, VC.rdKs, VC.okKs, VC.eqKs, VC.fillL, VC.putL, VC.stW, VC.stOK, VC.mixF, VC.setAll, Nat.reduceAdd, Nat.reduceSub, Nat.reduceMul, if_true, if_false, ↓reduceIte, forall_const, implies_true, reduceCtorEq, ne_eq, Nat.reduceBNe, Nat.reduceBEq, IntKind.signed, Nat.reduceEqDiff, Nat.reduceLeDiff, Nat.reduceLT, eq_self, Int.reduceEq, Int.reduceLT, Int.reduceLE, Int.reduceAdd, Int.reduceSub, VC.regC_nil, VC.regC_cons, VC.regCK_eq, VC.callQ, VC.tailQ, VC.goCall, VC.chStep]
    refine CALLQ_of (v := .bool (liars.testBit i)) (fun _ wq _ => (bit_any liars i wq hl (by omega)).mono fun e w' he => ⟨he.1, by rw [he.2]; exact Below.refl _ _⟩) ?_
    simp -dsimp only [Fa.F50, rdI_of z0, z0, rdI_of z1, z1, rdI_of z2, z2, rdI_of z3, z3, rdI_of z4, z4, rdI_of b2, b2, VC.Now, VC.vc, VC.lib, VC.regQ, VC.loopK, VC.reg, VC.opP, VC.pv, VC.thenF, VC.blkF, VC.retF, VC.resV, VC.oneV, VC.evo, VC.bin, VC.binI, VC.cmpI, VC.arithI, VC.ldv, VC.slv, VC.pickP, VC.holds, VC.chainOf, VC.look, VC.junk, VC.put, VC.eff, VC.callee, VC.pureB, VC.rdK, VC.rdKs, VC.okKs, VC.eqKs, VC.fillL, VC.putL, VC.stW, VC.stOK, VC.mixF, VC.setAll, Nat.reduceAdd, Nat.reduceSub, Nat.reduceMul, if_true, if_false, ↓reduceIte, forall_const, implies_true, reduceCtorEq, ne_eq, Nat.reduceBNe, Nat.reduceBEq, IntKind.signed, Nat.reduceEqDiff, Nat.reduceLeDiff, Nat.reduceLT, eq_self, Int.reduceEq, Int.reduceLT, Int.reduceLE, Int.reduceAdd, Int.reduceSub, VC.regC_nil, VC.regC_cons, VC.regCK_eq, VC.callQ, VC.tailQ, VC.goCall, VC.chStep]
    refine CALLQ_of (v := .bool (certB (n - f) s b0')) (fun _ wq hq => certR_any (h2.below hq) hR hok hn hf hV hbt) ?_
    simp -dsimp only [Fa.F50, rdI_of z0, z0, rdI_of z1, z1, rdI_of z2, z2, rdI_of z3, z3, rdI_of z4, z4, rdI_of b2, b2, VC.Now, VC.vc, VC.lib, VC.regQ, VC.loopK, VC.reg, VC.opP, VC.pv, VC.thenF, VC.blkF, VC.retF, VC.resV, VC.oneV, VC.evo, VC.bin, VC.binI, VC.cmpI, VC.arithI, VC.ldv, VC.slv, VC.pickP, VC.holds, VC.chainOf, VC.look, VC.junk, VC.put, VC.eff, VC.callee, VC.pureB, VC.rdK, VC.rdKs, VC.okKs, VC.eqKs, VC.fillL, VC.putL, VC.stW, VC.stOK, VC.mixF, VC.setAll, Nat.reduceAdd, Nat.reduceSub, Nat.reduceMul, if_true, if_false, ↓reduceIte, forall_const, implies_true, reduceCtorEq, ne_eq, Nat.reduceBNe, Nat.reduceBEq, IntKind.signed, Nat.reduceEqDiff, Nat.reduceLeDiff, Nat.reduceLT, eq_self, Int.reduceEq, Int.reduceLT, Int.reduceLE, Int.reduceAdd, Int.reduceSub, VC.regC_nil, VC.regC_cons, VC.regCK_eq, VC.callQ, VC.tailQ, VC.goCall, VC.chStep]
    intro u4 w3 hw3
    have h3 := h2.below hw3
    have hB3 := hB2.trans (hw3.mono hB2.size)
    have hs3 := (hs0.below (below_drewN (Below.refl _ w1) (m1 + m2))).below hw3
    refine ⟨fun hd => RPost.same h hR hB3 ?_, fun hd => ?_⟩
    · unfold mlearn
      rw [if_neg (Classical.not_not.2 q7), hbN, if_pos]
      rcases hd with hd | hd
      · exact Or.inr hd
      · exact Or.inl hd
    have hli : liars.testBit i = false := by cases hh : liars.testBit i with | false => rfl | true => exact absurd (Or.inl hh) hd
    have hce : certB (n - f) s b0' = true := by cases hh : certB (n - f) s b0' with | true => rfl | false => exact absurd (Or.inr hh) hd
    have hmv : mlearn (n - f) liars i c s = (0, { s with kn := upd s.kn i (maxI (s.kn i) (s.r b0')) }) := by
      unfold mlearn; rw [if_neg (Classical.not_not.2 q7), hbN, if_neg (by simp [hce, hli])]
    clear b3 hblk hg
    obtain ⟨g3, cb3, e', hg, hblk⟩ := ro_blk h3 hok.nb0
    have b3 := (ro_box h3).at (i := 3) rfl
    have b7 := (ro_box h3).at (i := 7) rfl
    rw [e'] at b3
    have y1 := hs3.at (i := 1) rfl
    have y2 := hs3.at (i := 2) rfl
    rw [hi] at y1
    rw [hb0] at y2
    have r1 := (hblk b0' hbt).2
    obtain ⟨v0, v1, fr0, fr1⟩ := ro_mem h3 hin
    have hm3 := (ro_box h3).1
    by_cases q8 : s.kn i < s.r b0'
    · have e8 := eq_true q8
      rw [show maxI (s.kn i) (s.r b0') = s.r b0' from if_pos q8] at hmv
      simp -dsimp only [Fa.F50, e8, rdSA_of b3, rdSN_of b3, rdSC_of b3, b3, rdSA_of b7, rdSN_of b7, rdSC_of b7, b7, rdI_of y1, y1, rdI_of y2, y2, rdI_of r1, r1, rdI_of v1, v1, VC.Now, VC.vc, VC.lib, VC.regQ, VC.loopK, VC.reg, VC.opP, VC.pv, VC.thenF, VC.blkF, VC.retF, VC.resV, VC.oneV, VC.evo, VC.bin, VC.binI, VC.cmpI, VC.arithI, VC.ldv, VC.slv, VC.pickP, VC.holds, VC.chainOf, VC.look, VC.junk, VC.put, VC.eff, VC.callee, VC.pureB, VC.rdK, VC.rdKs, VC.okKs, VC.eqKs, VC.fillL, VC.putL, VC.stW, VC.stOK, VC.mixF, VC.setAll, Nat.reduceAdd, Nat.reduceSub, Nat.reduceMul, if_true, if_false, ↓reduceIte, forall_const, implies_true, reduceCtorEq, ne_eq, Nat.reduceBNe, Nat.reduceBEq, IntKind.signed, Nat.reduceEqDiff, Nat.reduceLeDiff, Nat.reduceLT, eq_self, Int.reduceEq, Int.reduceLT, Int.reduceLE, Int.reduceAdd, Int.reduceSub, VC.regC_nil, VC.regC_cons, VC.regCK_eq, VC.callQ, VC.tailQ, VC.goCall, VC.chStep]
      refine ⟨⟨by omega, by omega⟩, ⟨by omega, by omega⟩, fun m3 => ?_⟩
      refine WP_held 16 (fun _ => False) (.take 0 (.take 1 (.take 2 (.take 3 (.take 4 (.take 5 (.take 6 (.take 7 (.take 8 (.take 9 (.take 10 (.take 11 (.take 12 (.take 13 (.take 14 (.take 15 (.one 16 .done))))))))))))))))) Fa.mix (by kernel_rfl) rfl ?_
      simp -dsimp only [VC.heldF_done, VC.heldF_last, VC.planF_done, VC.planF_take, VC.planF_one, VC.planF_two, VC.planK_eq, VC.heldF_take, VC.heldF_one, VC.heldF_two, VC.heldF_twoL, VC.heldK_eq, VC.okRd, Fa.F50, rdSA_of b3, rdSN_of b3, rdSC_of b3, b3, rdSA_of b7, rdSN_of b7, rdSC_of b7, b7, rdI_of y1, y1, rdI_of y2, y2, rdI_of r1, r1, v1, fr1, VC.Now, VC.vc, VC.lib, VC.regQ, VC.loopK, VC.reg, VC.opP, VC.pv, VC.thenF, VC.blkF, VC.retF, VC.resV, VC.oneV, VC.evo, VC.bin, VC.binI, VC.cmpI, VC.arithI, VC.ldv, VC.slv, VC.pickP, VC.holds, VC.chainOf, VC.look, VC.junk, VC.put, VC.eff, VC.callee, VC.pureB, VC.rdK, VC.rdKs, VC.okKs, VC.eqKs, VC.fillL, VC.putL, VC.stW, VC.stOK, VC.mixF, VC.setAll, Nat.reduceAdd, Nat.reduceSub, Nat.reduceMul, if_true, if_false, ↓reduceIte, forall_const, implies_true, reduceCtorEq, ne_eq, Nat.reduceBNe, Nat.reduceBEq, IntKind.signed, Nat.reduceEqDiff, Nat.reduceLeDiff, Nat.reduceLT, eq_self, Int.reduceEq, Int.reduceLT, Int.reduceLE, Int.reduceAdd, Int.reduceSub, VC.regC_nil, VC.regC_cons, VC.regCK_eq, VC.callQ, VC.tailQ, VC.goCall, VC.chStep]
      refine ⟨hm3, hs3.1, hm3, hs3.1, ⟨by omega, by omega⟩, hg, ⟨by omega, by omega⟩, ?_⟩
      rw [hmv]
      exact ⟨rfl, a.vb, a.vo, a.vl, V, T, hR.mem _ _, by omega, by omega, ((h.below_st hB3).drewN (m3 + 1)).trans (ro_setK (h3.drewN (m3 + 1)) hin _)⟩
    · have e8 := eq_false q8
      rw [show maxI (s.kn i) (s.r b0') = s.kn i from if_neg q8, upd_self] at hmv
      simp -dsimp only [Fa.F50, e8, rdSA_of b3, rdSN_of b3, rdSC_of b3, b3, rdSA_of b7, rdSN_of b7, rdSC_of b7, b7, rdI_of y1, y1, rdI_of y2, y2, rdI_of r1, r1, rdI_of v1, v1, VC.Now, VC.vc, VC.lib, VC.regQ, VC.loopK, VC.reg, VC.opP, VC.pv, VC.thenF, VC.blkF, VC.retF, VC.resV, VC.oneV, VC.evo, VC.bin, VC.binI, VC.cmpI, VC.arithI, VC.ldv, VC.slv, VC.pickP, VC.holds, VC.chainOf, VC.look, VC.junk, VC.put, VC.eff, VC.callee, VC.pureB, VC.rdK, VC.rdKs, VC.okKs, VC.eqKs, VC.fillL, VC.putL, VC.stW, VC.stOK, VC.mixF, VC.setAll, Nat.reduceAdd, Nat.reduceSub, Nat.reduceMul, if_true, if_false, ↓reduceIte, forall_const, implies_true, reduceCtorEq, ne_eq, Nat.reduceBNe, Nat.reduceBEq, IntKind.signed, Nat.reduceEqDiff, Nat.reduceLeDiff, Nat.reduceLT, eq_self, Int.reduceEq, Int.reduceLT, Int.reduceLE, Int.reduceAdd, Int.reduceSub, VC.regC_nil, VC.regC_cons, VC.regCK_eq, VC.callQ, VC.tailQ, VC.goCall, VC.chStep]
      refine ⟨⟨by omega, by omega⟩, ⟨by omega, by omega⟩, fun m3 => ?_⟩
      rw [hmv]
      exact ⟨rfl, a.vb, a.vo, a.vl, V, T, hR, by omega, by omega, (h.below_st hB3).drewN m3⟩
  · have e7 : (c.block < 0 ∨ ((s.nb : Int) ≤ c.block)) = True := eq_true (by unfold isBlk at q7; omega)
    simp -dsimp only [Fa.F50, rdI_of z0, z0, rdI_of z1, z1, rdI_of z2, z2, rdI_of z3, z3, rdI_of z4, z4, rdI_of b0, b0, rdSA_of b3, rdSN_of b3, rdSC_of b3, b3, e1, e3, e4, e5, e6, e7, undef, tu, uf, ul, ur, VC.Now, VC.vc, VC.lib, VC.regQ, VC.loopK, VC.reg, VC.opP, VC.pv, VC.thenF, VC.blkF, VC.retF, VC.resV, VC.oneV, VC.evo, VC.bin, VC.binI, VC.cmpI, VC.arithI, VC.ldv, VC.slv, VC.pickP, VC.holds, VC.chainOf, VC.look, VC.junk, VC.put, VC.eff, VC.callee, VC.pureB, VC.rdK, VC.rdKs, VC.okKs, VC.eqKs, VC.fillL, VC.putL, VC.stW, VC.stOK, VC.mixF, VC.setAll, Nat.reduceAdd, Nat.reduceSub, Nat.reduceMul, if_true, if_false, ↓reduceIte, forall_const, implies_true, reduceCtorEq, ne_eq, Nat.reduceBNe, Nat.reduceBEq, IntKind.signed, Nat.reduceEqDiff, Nat.reduceLeDiff, Nat.reduceLT, eq_self, Int.reduceEq, Int.reduceLT, Int.reduceLE, Int.reduceAdd, Int.reduceSub, VC.regC_nil, VC.regC_cons, VC.regCK_eq, VC.callQ, VC.tailQ, VC.goCall, VC.chStep]
    exact fun m1 m2 => RPost.same h hR (hB0.trans ((below_drewN (Below.refl _ w1) (m1 + m2)).mono hB0.size)) (by unfold mlearn; rw [if_pos q7])
end
end Go.Proofs.Ytnggjekppdlaoaa
