/- Many copies as one: a step. -/
import Derived.Test.YtnggjekppdlaoaaReg3
namespace Go.Proofs.Ytnggjekppdlaoaa
open Go Go.RowKit Go.VC
set_option linter.unusedSimpArgs false
set_option linter.unusedVariables false
section
variable {B n t : Nat} {a : GA} {s : RS} {w : World}

set_option maxRecDepth 8000 in
set_option maxHeartbeats 8000000 in
theorem rstep_any (h : Hp B (GObs n a s) w) (hok : ROK n t s) (hn : n ≤ 5) (ht : t ≤ 120) (c : Call) :
    Calls Try.prog 53 #[.pointer (some ⟨a.mb, 0, none⟩), callV c, .int .i64 t] w (GPost B n a s w (rstep n c t s)) := by
  have x0 := Box.new w (callL c) 142
  have hB0 : Below w.heap.size w (w.alloc (.cells (callL c).toArray 142)) := (Below.refl _ _).alloc (Nat.le_refl _) _
  refine calls_vc (rs := [.tmp 6]) Fa.mix Try.func53 rfl Try.ntmps53 rfl (by kernel_rfl) (Nat.le_of_ble_eq_true rfl) ?_
  (repeat rw [vc_seq]); refine vc_plain _ fun Q hQ => ?_; simp -dsimp only [Fa.F53, VC.Now, VC.vc_skip, VC.vc_ret, VC.vc_exit, VC.vc_block, VC.vc_cond, VC.vc_region, VC.lib, VC.regQ, VC.loopK, VC.reg, VC.opP, VC.pv, VC.thenF, VC.blkF, VC.retF, VC.resV, VC.oneV, VC.evo, VC.bin, VC.binI, VC.cmpI, VC.arithI, VC.ldv, VC.slv, VC.pickP, VC.holds, VC.chainOf, VC.look, VC.junk, VC.put, VC.eff, VC.callee, VC.pureB, VC.rdK, VC.rdKs, VC.okKs, VC.eqKs, VC.fillL, VC.putL, VC.stW, VC.stOK, VC.mixF, VC.setAll, Nat.reduceAdd, Nat.reduceSub, Nat.reduceMul, if_true, if_false, ↓reduceIte, forall_const, implies_true, reduceCtorEq, ne_eq, Nat.reduceBNe, Nat.reduceBEq, IntKind.signed, Nat.reduceEqDiff, Nat.reduceLeDiff, Nat.reduceLT, eq_self, Int.reduceEq, Int.reduceLT, Int.reduceLE, Int.reduceAdd, Int.reduceSub, VC.regC_nil, VC.regC_cons, VC.regCK_eq, VC.callQ, VC.tailQ, VC.goCall, VC.chStep]
  change Q _ _ (w.alloc (.cells (callL c).toArray 142))
  generalize w.alloc (.cells (callL c).toArray 142) = w1 at x0 hB0 ⊢
  generalize hsb : w.heap.size = sb at x0 ⊢
  have h1 := h.below hB0
  have z0 := x0.at (i := 0) rfl
  have z1 := x0.at (i := 1) rfl
  have z2 := x0.at (i := 2) rfl
  have z3 := x0.at (i := 3) rfl
  have z4 := x0.at (i := 4) rfl
  have z5 := x0.at (i := 5) rfl
  have hbm := g_box h1
  have hml := hbm.1
  have m0 := hbm.at (i := 0) rfl
  by_cases q0 : c.kind < 1 ∨ 3 < c.kind
  · have hr : rstep n c t s = (4, s) := by unfold rstep; rw [if_pos q0]
    subst hQ
    by_cases q1 : c.kind < 1
    · have e1 := eq_true q1
      simp -dsimp only [Fa.F53, rdI_of z0, z0, e1, undef, tu, uf, ul, ur, VC.Now, VC.vc, VC.lib, VC.regQ, VC.loopK, VC.reg, VC.opP, VC.pv, VC.thenF, VC.blkF, VC.retF, VC.resV, VC.oneV, VC.evo, VC.bin, VC.binI, VC.cmpI, VC.arithI, VC.ldv, VC.slv, VC.pickP, VC.holds, VC.chainOf, VC.look, VC.junk, VC.put, VC.eff, VC.callee, VC.pureB, VC.rdK, VC.rdKs, VC.okKs, VC.eqKs, VC.fillL, VC.putL, VC.stW, VC.stOK, VC.mixF, VC.setAll, Nat.reduceAdd, Nat.reduceSub, Nat.reduceMul, if_true, if_false, ↓reduceIte, forall_const, implies_true, reduceCtorEq, ne_eq, Nat.reduceBNe, Nat.reduceBEq, IntKind.signed, Nat.reduceEqDiff, Nat.reduceLeDiff, Nat.reduceLT, eq_self, Int.reduceEq, Int.reduceLT, Int.reduceLE, Int.reduceAdd, Int.reduceSub, VC.regC_nil, VC.regC_cons, VC.regCK_eq, VC.callQ, VC.tailQ, VC.goCall, VC.chStep]
      exact GPost.same h hB0 hr
    · have e1 := eq_false q1
      have e2 : (3 < c.kind) = True := eq_true (by omega)
      simp -dsimp only [Fa.F53, rdI_of z0, z0, e1, e2, undef, tu, uf, ul, ur, VC.Now, VC.vc, VC.lib, VC.regQ, VC.loopK, VC.reg, VC.opP, VC.pv, VC.thenF, VC.blkF, VC.retF, VC.resV, VC.oneV, VC.evo, VC.bin, VC.binI, VC.cmpI, VC.arithI, VC.ldv, VC.slv, VC.pickP, VC.holds, VC.chainOf, VC.look, VC.junk, VC.put, VC.eff, VC.callee, VC.pureB, VC.rdK, VC.rdKs, VC.okKs, VC.eqKs, VC.fillL, VC.putL, VC.stW, VC.stOK, VC.mixF, VC.setAll, Nat.reduceAdd, Nat.reduceSub, Nat.reduceMul, if_true, if_false, ↓reduceIte, forall_const, implies_true, reduceCtorEq, ne_eq, Nat.reduceBNe, Nat.reduceBEq, IntKind.signed, Nat.reduceEqDiff, Nat.reduceLeDiff, Nat.reduceLT, eq_self, Int.reduceEq, Int.reduceLT, Int.reduceLE, Int.reduceAdd, Int.reduceSub, VC.regC_nil, VC.regC_cons, VC.regCK_eq, VC.callQ, VC.tailQ, VC.goCall, VC.chStep]
      exact GPost.same h hB0 hr
  have e1 : (c.kind < 1) = False := eq_false (by omega)
  have e2 : (3 < c.kind) = False := eq_false (by omega)
  by_cases qk1 : c.kind = 1
  · have e3 : (c.kind = 3) = False := eq_false (by omega)
    have e4 : (c.kind = 1) = True := eq_true qk1
    by_cases q1 : c.who < 0
    · have e5 := eq_true q1
      have hr : rstep n c t s = (2, s) := by unfold rstep; rw [if_neg q0, if_pos (by omega)]
      subst hQ
      simp -dsimp only [Fa.F53, rdI_of z0, z0, rdI_of z1, z1, rdI_of z2, z2, rdSA_of m0, rdSN_of m0, rdSC_of m0, m0, hml, e1, e2, e3, e4, e5, undef, tu, uf, ul, ur, VC.Now, VC.vc, VC.lib, VC.regQ, VC.loopK, VC.reg, VC.opP, VC.pv, VC.thenF, VC.blkF, VC.retF, VC.resV, VC.oneV, VC.evo, VC.bin, VC.binI, VC.cmpI, VC.arithI, VC.ldv, VC.slv, VC.pickP, VC.holds, VC.chainOf, VC.look, VC.junk, VC.put, VC.eff, VC.callee, VC.pureB, VC.rdK, VC.rdKs, VC.okKs, VC.eqKs, VC.fillL, VC.putL, VC.stW, VC.stOK, VC.mixF, VC.setAll, Nat.reduceAdd, Nat.reduceSub, Nat.reduceMul, if_true, if_false, ↓reduceIte, forall_const, implies_true, reduceCtorEq, ne_eq, Nat.reduceBNe, Nat.reduceBEq, IntKind.signed, Nat.reduceEqDiff, Nat.reduceLeDiff, Nat.reduceLT, eq_self, Int.reduceEq, Int.reduceLT, Int.reduceLE, Int.reduceAdd, Int.reduceSub, VC.regC_nil, VC.regC_cons, VC.regCK_eq, VC.callQ, VC.tailQ, VC.goCall, VC.chStep]
      first | exact GPost.same h hB0 hr | exact fun m => GPost.same h hB0 hr | exact fun m => GPost.same h (hB0.trans ((below_drewN (Below.refl _ w1) m).mono hB0.size)) hr
    have e5 := eq_false q1
    by_cases q2 : 4 ≤ c.who
    · have e6 := eq_true q2
      have hr : rstep n c t s = (2, s) := by unfold rstep; rw [if_neg q0, if_pos (by omega)]
      subst hQ
      simp -dsimp only [Fa.F53, rdI_of z0, z0, rdI_of z1, z1, rdI_of z2, z2, rdSA_of m0, rdSN_of m0, rdSC_of m0, m0, hml, e1, e2, e3, e4, e5, e6, undef, tu, uf, ul, ur, VC.Now, VC.vc, VC.lib, VC.regQ, VC.loopK, VC.reg, VC.opP, VC.pv, VC.thenF, VC.blkF, VC.retF, VC.resV, VC.oneV, VC.evo, VC.bin, VC.binI, VC.cmpI, VC.arithI, VC.ldv, VC.slv, VC.pickP, VC.holds, VC.chainOf, VC.look, VC.junk, VC.put, VC.eff, VC.callee, VC.pureB, VC.rdK, VC.rdKs, VC.okKs, VC.eqKs, VC.fillL, VC.putL, VC.stW, VC.stOK, VC.mixF, VC.setAll, Nat.reduceAdd, Nat.reduceSub, Nat.reduceMul, if_true, if_false, ↓reduceIte, forall_const, implies_true, reduceCtorEq, ne_eq, Nat.reduceBNe, Nat.reduceBEq, IntKind.signed, Nat.reduceEqDiff, Nat.reduceLeDiff, Nat.reduceLT, eq_self, Int.reduceEq, Int.reduceLT, Int.reduceLE, Int.reduceAdd, Int.reduceSub, VC.regC_nil, VC.regC_cons, VC.regCK_eq, VC.callQ, VC.tailQ, VC.goCall, VC.chStep]
      first | exact GPost.same h hB0 hr | exact fun m => GPost.same h hB0 hr | exact fun m => GPost.same h (hB0.trans ((below_drewN (Below.refl _ w1) m).mono hB0.size)) hr
    have e6 := eq_false q2
    have hr : rstep n c t s = rbegin c t s := by unfold rstep; rw [if_neg q0, if_neg (by omega), if_pos qk1]
    subst hQ
    simp -dsimp only [Fa.F53, rdI_of z0, z0, rdI_of z1, z1, rdI_of z2, z2, rdI_of z3, z3, rdB_of z4, z4, rdI_of z5, z5, rdSA_of m0, rdSN_of m0, rdSC_of m0, m0, hml, e1, e2, e3, e4, e5, e6, undef, tu, uf, ul, ur, VC.Now, VC.vc, VC.lib, VC.regQ, VC.loopK, VC.reg, VC.opP, VC.pv, VC.thenF, VC.blkF, VC.retF, VC.resV, VC.oneV, VC.evo, VC.bin, VC.binI, VC.cmpI, VC.arithI, VC.ldv, VC.slv, VC.pickP, VC.holds, VC.chainOf, VC.look, VC.junk, VC.put, VC.eff, VC.callee, VC.pureB, VC.rdK, VC.rdKs, VC.okKs, VC.eqKs, VC.fillL, VC.putL, VC.stW, VC.stOK, VC.mixF, VC.setAll, Nat.reduceAdd, Nat.reduceSub, Nat.reduceMul, if_true, if_false, ↓reduceIte, forall_const, implies_true, reduceCtorEq, ne_eq, Nat.reduceBNe, Nat.reduceBEq, IntKind.signed, Nat.reduceEqDiff, Nat.reduceLeDiff, Nat.reduceLT, eq_self, Int.reduceEq, Int.reduceLT, Int.reduceLE, Int.reduceAdd, Int.reduceSub, VC.regC_nil, VC.regC_cons, VC.regCK_eq, VC.callQ, VC.tailQ, VC.goCall, VC.chStep]
    intro u u1 m
    refine CALL_by (begin_any (h1.drewN m) hok ht (by omega)) fun e w2 hp => ⟨_, hp.1, ?_⟩
    simp -dsimp only [Fa.F53, VC.Now, VC.vc, VC.lib, VC.regQ, VC.loopK, VC.reg, VC.opP, VC.pv, VC.thenF, VC.blkF, VC.retF, VC.resV, VC.oneV, VC.evo, VC.bin, VC.binI, VC.cmpI, VC.arithI, VC.ldv, VC.slv, VC.pickP, VC.holds, VC.chainOf, VC.look, VC.junk, VC.put, VC.eff, VC.callee, VC.pureB, VC.rdK, VC.rdKs, VC.okKs, VC.eqKs, VC.fillL, VC.putL, VC.stW, VC.stOK, VC.mixF, VC.setAll, Nat.reduceAdd, Nat.reduceSub, Nat.reduceMul, if_true, if_false, ↓reduceIte, forall_const, implies_true, reduceCtorEq, ne_eq, Nat.reduceBNe, Nat.reduceBEq, IntKind.signed, Nat.reduceEqDiff, Nat.reduceLeDiff, Nat.reduceLT, eq_self, Int.reduceEq, Int.reduceLT, Int.reduceLE, Int.reduceAdd, Int.reduceSub, VC.regC_nil, VC.regC_cons, VC.regCK_eq, VC.callQ, VC.tailQ, VC.goCall, VC.chStep]
    rw [hr]
    exact (hp.1 ▸ hp : GPost B n a s (w1.drewN m) _ (.returned (.int .i64 (rbegin c t s).1)) w2).lift h (hB0.trans ((below_drewN (Below.refl _ w1) m).mono hB0.size))
  by_cases qk2 : c.kind = 2
  · have e3 : (c.kind = 3) = False := eq_false (by omega)
    have e4 : (c.kind = 1) = False := eq_false qk1
    have e9 : (c.kind = 2) = True := eq_true qk2
    by_cases q1 : c.who < 0
    · have e5 := eq_true q1
      have hr : rstep n c t s = (2, s) := by unfold rstep; rw [if_neg q0, if_pos (by omega)]
      subst hQ
      simp -dsimp only [Fa.F53, rdI_of z0, z0, rdI_of z1, z1, rdI_of z2, z2, rdSA_of m0, rdSN_of m0, rdSC_of m0, m0, hml, e1, e2, e3, e4, e5, undef, tu, uf, ul, ur, VC.Now, VC.vc, VC.lib, VC.regQ, VC.loopK, VC.reg, VC.opP, VC.pv, VC.thenF, VC.blkF, VC.retF, VC.resV, VC.oneV, VC.evo, VC.bin, VC.binI, VC.cmpI, VC.arithI, VC.ldv, VC.slv, VC.pickP, VC.holds, VC.chainOf, VC.look, VC.junk, VC.put, VC.eff, VC.callee, VC.pureB, VC.rdK, VC.rdKs, VC.okKs, VC.eqKs, VC.fillL, VC.putL, VC.stW, VC.stOK, VC.mixF, VC.setAll, Nat.reduceAdd, Nat.reduceSub, Nat.reduceMul, if_true, if_false, ↓reduceIte, forall_const, implies_true, reduceCtorEq, ne_eq, Nat.reduceBNe, Nat.reduceBEq, IntKind.signed, Nat.reduceEqDiff, Nat.reduceLeDiff, Nat.reduceLT, eq_self, Int.reduceEq, Int.reduceLT, Int.reduceLE, Int.reduceAdd, Int.reduceSub, VC.regC_nil, VC.regC_cons, VC.regCK_eq, VC.callQ, VC.tailQ, VC.goCall, VC.chStep]
      first | exact GPost.same h hB0 hr | exact fun m => GPost.same h hB0 hr | exact fun m => GPost.same h (hB0.trans ((below_drewN (Below.refl _ w1) m).mono hB0.size)) hr
    have e5 := eq_false q1
    by_cases q2 : 4 ≤ c.who
    · have e6 := eq_true q2
      have hr : rstep n c t s = (2, s) := by unfold rstep; rw [if_neg q0, if_pos (by omega)]
      subst hQ
      simp -dsimp only [Fa.F53, rdI_of z0, z0, rdI_of z1, z1, rdI_of z2, z2, rdSA_of m0, rdSN_of m0, rdSC_of m0, m0, hml, e1, e2, e3, e4, e5, e6, undef, tu, uf, ul, ur, VC.Now, VC.vc, VC.lib, VC.regQ, VC.loopK, VC.reg, VC.opP, VC.pv, VC.thenF, VC.blkF, VC.retF, VC.resV, VC.oneV, VC.evo, VC.bin, VC.binI, VC.cmpI, VC.arithI, VC.ldv, VC.slv, VC.pickP, VC.holds, VC.chainOf, VC.look, VC.junk, VC.put, VC.eff, VC.callee, VC.pureB, VC.rdK, VC.rdKs, VC.okKs, VC.eqKs, VC.fillL, VC.putL, VC.stW, VC.stOK, VC.mixF, VC.setAll, Nat.reduceAdd, Nat.reduceSub, Nat.reduceMul, if_true, if_false, ↓reduceIte, forall_const, implies_true, reduceCtorEq, ne_eq, Nat.reduceBNe, Nat.reduceBEq, IntKind.signed, Nat.reduceEqDiff, Nat.reduceLeDiff, Nat.reduceLT, eq_self, Int.reduceEq, Int.reduceLT, Int.reduceLE, Int.reduceAdd, Int.reduceSub, VC.regC_nil, VC.regC_cons, VC.regCK_eq, VC.callQ, VC.tailQ, VC.goCall, VC.chStep]
      first | exact GPost.same h hB0 hr | exact fun m => GPost.same h hB0 hr | exact fun m => GPost.same h (hB0.trans ((below_drewN (Below.refl _ w1) m).mono hB0.size)) hr
    have e6 := eq_false q2
    by_cases q3 : c.at_ < 0
    · have e7 := eq_true q3
      have hr : rstep n c t s = (2, s) := by unfold rstep; rw [if_neg q0, if_pos (by omega)]
      subst hQ
      simp -dsimp only [Fa.F53, rdI_of z0, z0, rdI_of z1, z1, rdI_of z2, z2, rdSA_of m0, rdSN_of m0, rdSC_of m0, m0, hml, e1, e2, e3, e4, e5, e6, e7, undef, tu, uf, ul, ur, VC.Now, VC.vc, VC.lib, VC.regQ, VC.loopK, VC.reg, VC.opP, VC.pv, VC.thenF, VC.blkF, VC.retF, VC.resV, VC.oneV, VC.evo, VC.bin, VC.binI, VC.cmpI, VC.arithI, VC.ldv, VC.slv, VC.pickP, VC.holds, VC.chainOf, VC.look, VC.junk, VC.put, VC.eff, VC.callee, VC.pureB, VC.rdK, VC.rdKs, VC.okKs, VC.eqKs, VC.fillL, VC.putL, VC.stW, VC.stOK, VC.mixF, VC.setAll, Nat.reduceAdd, Nat.reduceSub, Nat.reduceMul, if_true, if_false, ↓reduceIte, forall_const, implies_true, reduceCtorEq, ne_eq, Nat.reduceBNe, Nat.reduceBEq, IntKind.signed, Nat.reduceEqDiff, Nat.reduceLeDiff, Nat.reduceLT, eq_self, Int.reduceEq, Int.reduceLT, Int.reduceLE, Int.reduceAdd, Int.reduceSub, VC.regC_nil, VC.regC_cons, VC.regCK_eq, VC.callQ, VC.tailQ, VC.goCall, VC.chStep]
      first | exact GPost.same h hB0 hr | exact fun m => GPost.same h hB0 hr | exact fun m => GPost.same h (hB0.trans ((below_drewN (Below.refl _ w1) m).mono hB0.size)) hr
    have e7 := eq_false q3
    by_cases q4 : (n : Int) ≤ c.at_
    · have e8 := eq_true q4
      have hr : rstep n c t s = (2, s) := by unfold rstep; rw [if_neg q0, if_pos (by omega)]
      subst hQ
      simp -dsimp only [Fa.F53, rdI_of z0, z0, rdI_of z1, z1, rdI_of z2, z2, rdSA_of m0, rdSN_of m0, rdSC_of m0, m0, hml, e1, e2, e3, e4, e5, e6, e7, e8, undef, tu, uf, ul, ur, VC.Now, VC.vc, VC.lib, VC.regQ, VC.loopK, VC.reg, VC.opP, VC.pv, VC.thenF, VC.blkF, VC.retF, VC.resV, VC.oneV, VC.evo, VC.bin, VC.binI, VC.cmpI, VC.arithI, VC.ldv, VC.slv, VC.pickP, VC.holds, VC.chainOf, VC.look, VC.junk, VC.put, VC.eff, VC.callee, VC.pureB, VC.rdK, VC.rdKs, VC.okKs, VC.eqKs, VC.fillL, VC.putL, VC.stW, VC.stOK, VC.mixF, VC.setAll, Nat.reduceAdd, Nat.reduceSub, Nat.reduceMul, if_true, if_false, ↓reduceIte, forall_const, implies_true, reduceCtorEq, ne_eq, Nat.reduceBNe, Nat.reduceBEq, IntKind.signed, Nat.reduceEqDiff, Nat.reduceLeDiff, Nat.reduceLT, eq_self, Int.reduceEq, Int.reduceLT, Int.reduceLE, Int.reduceAdd, Int.reduceSub, VC.regC_nil, VC.regC_cons, VC.regCK_eq, VC.callQ, VC.tailQ, VC.goCall, VC.chStep]
      first | exact GPost.same h hB0 hr | exact fun m => GPost.same h hB0 hr | exact fun m => GPost.same h (hB0.trans ((below_drewN (Below.refl _ w1) m).mono hB0.size)) hr
    have e8 := eq_false q4
    subst hQ
    obtain ⟨j, hj⟩ : ∃ j : Nat, c.who = j := ⟨c.who.toNat, by omega⟩
    have hj4 : j < 4 := by omega
    have hjN : c.who.toNat = j := by omega
    obtain ⟨y, hy⟩ : ∃ y : Nat, c.at_ = y := ⟨c.at_.toNat, by omega⟩
    have hyN : c.at_.toNat = y := by omega
    have hyn : y < n := by omega
    have hn0 := hbm.at (i := 2 + j) (now_at hj4)
    simp -dsimp only [Fa.F53, rdI_of z0, z0, rdI_of z1, z1, rdI_of z2, z2, rdI_of z3, z3, rdB_of z4, z4, rdI_of z5, z5, rdSA_of m0, rdSN_of m0, rdSC_of m0, m0, hml, e1, e2, e3, e4, e5, e6, e7, e8, e9, undef, tu, uf, ul, ur, VC.Now, VC.vc, VC.lib, VC.regQ, VC.loopK, VC.reg, VC.opP, VC.pv, VC.thenF, VC.blkF, VC.retF, VC.resV, VC.oneV, VC.evo, VC.bin, VC.binI, VC.cmpI, VC.arithI, VC.ldv, VC.slv, VC.pickP, VC.holds, VC.chainOf, VC.look, VC.junk, VC.put, VC.eff, VC.callee, VC.pureB, VC.rdK, VC.rdKs, VC.okKs, VC.eqKs, VC.fillL, VC.putL, VC.stW, VC.stOK, VC.mixF, VC.setAll, Nat.reduceAdd, Nat.reduceSub, Nat.reduceMul, if_true, if_false, ↓reduceIte, forall_const, implies_true, reduceCtorEq, ne_eq, Nat.reduceBNe, Nat.reduceBEq, IntKind.signed, Nat.reduceEqDiff, Nat.reduceLeDiff, Nat.reduceLT, eq_self, Int.reduceEq, Int.reduceLT, Int.reduceLE, Int.reduceAdd, Int.reduceSub, VC.regC_nil, VC.regC_cons, VC.regCK_eq, VC.callQ, VC.tailQ, VC.goCall, VC.chStep]
    intro u u1 m
    have h2 := h1.drewN m
    have hB2 : Below w.heap.size w (w1.drewN m) := (hB0.trans ((below_drewN (Below.refl _ w1) m).mono hB0.size))
    replace hml : a.mb < (w1.drewN m).heap.size := hml
    replace hn0 : (w1.drewN m).cell? ⟨a.mb, 2 + j, none⟩ = _ := hn0
    replace z1 : (w1.drewN m).cell? ⟨sb, 1, none⟩ = _ := z1
    replace z2 : (w1.drewN m).cell? ⟨sb, 2, none⟩ = _ := z2
    generalize w1.drewN m = w2 at h2 hB2 hml hn0 z1 z2 ⊢
    rw [hj] at z1
    rw [hy] at z2
    unfold nowP at hn0
    cases hnow : s.now j with
    | none =>
      rw [hnow] at hn0
      replace hn0 : w2.cell? ⟨a.mb, 2 + j, none⟩ = some (.pointer none) := hn0
      have hr : rstep n c t s = (6, s) := by unfold rstep; rw [if_neg q0, if_neg (by omega), if_neg qk1, if_pos qk2, hjN, hnow]
      refine WP_tail 11 Fa.mix (by kernel_rfl) (by kernel_rfl) (by kernel_rfl) rfl ?_
      simp -dsimp only [Fa.F53, rdI_of z1, z1, rdI_of z2, z2, hml, rdP_of hn0, hn0, Int.toNat_natCast, VC.Now, VC.vc_skip, VC.vc_ret, VC.vc_exit, VC.vc_block, VC.vc_cond, VC.vc_region, VC.lib, VC.regQ, VC.loopK, VC.reg, VC.opP, VC.pv, VC.thenF, VC.blkF, VC.retF, VC.resV, VC.oneV, VC.evo, VC.bin, VC.binI, VC.cmpI, VC.arithI, VC.ldv, VC.slv, VC.pickP, VC.holds, VC.chainOf, VC.look, VC.junk, VC.put, VC.eff, VC.callee, VC.pureB, VC.rdK, VC.rdKs, VC.okKs, VC.eqKs, VC.fillL, VC.putL, VC.stW, VC.stOK, VC.mixF, VC.setAll, Nat.reduceAdd, Nat.reduceSub, Nat.reduceMul, if_true, if_false, ↓reduceIte, forall_const, implies_true, reduceCtorEq, ne_eq, Nat.reduceBNe, Nat.reduceBEq, IntKind.signed, Nat.reduceEqDiff, Nat.reduceLeDiff, Nat.reduceLT, eq_self, Int.reduceEq, Int.reduceLT, Int.reduceLE, Int.reduceAdd, Int.reduceSub, VC.regC_nil, VC.regC_cons, VC.regCK_eq, VC.callQ, VC.tailQ, VC.goCall, VC.chStep]
      refine ⟨⟨by omega, by omega⟩, ?_⟩
      intro w3 hw3
      refine CALL_by (reach_none w3 a.mb y t) fun e w4 hp => ⟨_, hp.1, ?_⟩
      obtain ⟨_, rfl⟩ := hp
      rw [VC.Now, VC.seqK_eq]
      simp -dsimp only [Fa.F53, VC.Now, VC.vc, VC.lib, VC.regQ, VC.loopK, VC.reg, VC.opP, VC.pv, VC.thenF, VC.blkF, VC.retF, VC.resV, VC.oneV, VC.evo, VC.bin, VC.binI, VC.cmpI, VC.arithI, VC.ldv, VC.slv, VC.pickP, VC.holds, VC.chainOf, VC.look, VC.junk, VC.put, VC.eff, VC.callee, VC.pureB, VC.rdK, VC.rdKs, VC.okKs, VC.eqKs, VC.fillL, VC.putL, VC.stW, VC.stOK, VC.mixF, VC.setAll, Nat.reduceAdd, Nat.reduceSub, Nat.reduceMul, if_true, if_false, ↓reduceIte, forall_const, implies_true, reduceCtorEq, ne_eq, Nat.reduceBNe, Nat.reduceBEq, IntKind.signed, Nat.reduceEqDiff, Nat.reduceLeDiff, Nat.reduceLT, eq_self, Int.reduceEq, Int.reduceLT, Int.reduceLE, Int.reduceAdd, Int.reduceSub, VC.regC_nil, VC.regC_cons, VC.regCK_eq, VC.callQ, VC.tailQ, VC.goCall, VC.chStep]
      exact GPost.same h (hB2.trans (hw3.mono hB2.size)) hr
    | some i =>
      rw [hnow] at hn0
      replace hn0 : w2.cell? ⟨a.mb, 2 + j, none⟩ = some (.pointer (some ⟨a.pb i, 0, none⟩)) := hn0
      obtain ⟨hi, hwho, hto⟩ := hok.now j i hnow
      have hr : rstep n c t s = rreach n i y t s := by unfold rstep; rw [if_neg q0, if_neg (by omega), if_neg qk1, if_pos qk2, hjN, hnow, hyN]
      refine WP_tail 11 Fa.mix (by kernel_rfl) (by kernel_rfl) (by kernel_rfl) rfl ?_
      simp -dsimp only [Fa.F53, rdI_of z1, z1, rdI_of z2, z2, hml, rdP_of hn0, hn0, Int.toNat_natCast, VC.Now, VC.vc_skip, VC.vc_ret, VC.vc_exit, VC.vc_block, VC.vc_cond, VC.vc_region, VC.lib, VC.regQ, VC.loopK, VC.reg, VC.opP, VC.pv, VC.thenF, VC.blkF, VC.retF, VC.resV, VC.oneV, VC.evo, VC.bin, VC.binI, VC.cmpI, VC.arithI, VC.ldv, VC.slv, VC.pickP, VC.holds, VC.chainOf, VC.look, VC.junk, VC.put, VC.eff, VC.callee, VC.pureB, VC.rdK, VC.rdKs, VC.okKs, VC.eqKs, VC.fillL, VC.putL, VC.stW, VC.stOK, VC.mixF, VC.setAll, Nat.reduceAdd, Nat.reduceSub, Nat.reduceMul, if_true, if_false, ↓reduceIte, forall_const, implies_true, reduceCtorEq, ne_eq, Nat.reduceBNe, Nat.reduceBEq, IntKind.signed, Nat.reduceEqDiff, Nat.reduceLeDiff, Nat.reduceLT, eq_self, Int.reduceEq, Int.reduceLT, Int.reduceLE, Int.reduceAdd, Int.reduceSub, VC.regC_nil, VC.regC_cons, VC.regCK_eq, VC.callQ, VC.tailQ, VC.goCall, VC.chStep]
      refine ⟨⟨by omega, by omega⟩, ?_⟩
      intro w3 hw3
      have h3 := h2.below hw3
      refine CALL_by (reach_any h3 hok hn ht hi hto hyn) fun e w4 hp => ⟨_, hp.1, ?_⟩
      rw [VC.Now, VC.seqK_eq]
      simp -dsimp only [Fa.F53, VC.Now, VC.vc, VC.lib, VC.regQ, VC.loopK, VC.reg, VC.opP, VC.pv, VC.thenF, VC.blkF, VC.retF, VC.resV, VC.oneV, VC.evo, VC.bin, VC.binI, VC.cmpI, VC.arithI, VC.ldv, VC.slv, VC.pickP, VC.holds, VC.chainOf, VC.look, VC.junk, VC.put, VC.eff, VC.callee, VC.pureB, VC.rdK, VC.rdKs, VC.okKs, VC.eqKs, VC.fillL, VC.putL, VC.stW, VC.stOK, VC.mixF, VC.setAll, Nat.reduceAdd, Nat.reduceSub, Nat.reduceMul, if_true, if_false, ↓reduceIte, forall_const, implies_true, reduceCtorEq, ne_eq, Nat.reduceBNe, Nat.reduceBEq, IntKind.signed, Nat.reduceEqDiff, Nat.reduceLeDiff, Nat.reduceLT, eq_self, Int.reduceEq, Int.reduceLT, Int.reduceLE, Int.reduceAdd, Int.reduceSub, VC.regC_nil, VC.regC_cons, VC.regCK_eq, VC.callQ, VC.tailQ, VC.goCall, VC.chStep]
      rw [hr]
      exact (hp.1 ▸ hp : GPost B n a s w3 _ (.returned (.int .i64 (rreach n i y t s).1)) w4).lift h (hB2.trans (hw3.mono hB2.size))
  have e3 : (c.kind = 3) = True := eq_true (by omega)
  have e4 : (c.kind = 1) = False := eq_false qk1
  have e9 : (c.kind = 2) = False := eq_false qk2
  by_cases q3 : c.at_ < 0
  · have e7 := eq_true q3
    have hr : rstep n c t s = (2, s) := by unfold rstep; rw [if_neg q0, if_pos (by omega)]
    subst hQ
    simp -dsimp only [Fa.F53, rdI_of z0, z0, rdI_of z1, z1, rdI_of z2, z2, rdSA_of m0, rdSN_of m0, rdSC_of m0, m0, hml, e1, e2, e3, e4, e7, undef, tu, uf, ul, ur, VC.Now, VC.vc, VC.lib, VC.regQ, VC.loopK, VC.reg, VC.opP, VC.pv, VC.thenF, VC.blkF, VC.retF, VC.resV, VC.oneV, VC.evo, VC.bin, VC.binI, VC.cmpI, VC.arithI, VC.ldv, VC.slv, VC.pickP, VC.holds, VC.chainOf, VC.look, VC.junk, VC.put, VC.eff, VC.callee, VC.pureB, VC.rdK, VC.rdKs, VC.okKs, VC.eqKs, VC.fillL, VC.putL, VC.stW, VC.stOK, VC.mixF, VC.setAll, Nat.reduceAdd, Nat.reduceSub, Nat.reduceMul, if_true, if_false, ↓reduceIte, forall_const, implies_true, reduceCtorEq, ne_eq, Nat.reduceBNe, Nat.reduceBEq, IntKind.signed, Nat.reduceEqDiff, Nat.reduceLeDiff, Nat.reduceLT, eq_self, Int.reduceEq, Int.reduceLT, Int.reduceLE, Int.reduceAdd, Int.reduceSub, VC.regC_nil, VC.regC_cons, VC.regCK_eq, VC.callQ, VC.tailQ, VC.goCall, VC.chStep]
    first | exact GPost.same h hB0 hr | exact fun m => GPost.same h hB0 hr | exact fun m => GPost.same h (hB0.trans ((below_drewN (Below.refl _ w1) m).mono hB0.size)) hr
  have e7 := eq_false q3
  by_cases q4 : (n : Int) ≤ c.at_
  · have e8 := eq_true q4
    have hr : rstep n c t s = (2, s) := by unfold rstep; rw [if_neg q0, if_pos (by omega)]
    subst hQ
    simp -dsimp only [Fa.F53, rdI_of z0, z0, rdI_of z1, z1, rdI_of z2, z2, rdSA_of m0, rdSN_of m0, rdSC_of m0, m0, hml, e1, e2, e3, e4, e7, e8, undef, tu, uf, ul, ur, VC.Now, VC.vc, VC.lib, VC.regQ, VC.loopK, VC.reg, VC.opP, VC.pv, VC.thenF, VC.blkF, VC.retF, VC.resV, VC.oneV, VC.evo, VC.bin, VC.binI, VC.cmpI, VC.arithI, VC.ldv, VC.slv, VC.pickP, VC.holds, VC.chainOf, VC.look, VC.junk, VC.put, VC.eff, VC.callee, VC.pureB, VC.rdK, VC.rdKs, VC.okKs, VC.eqKs, VC.fillL, VC.putL, VC.stW, VC.stOK, VC.mixF, VC.setAll, Nat.reduceAdd, Nat.reduceSub, Nat.reduceMul, if_true, if_false, ↓reduceIte, forall_const, implies_true, reduceCtorEq, ne_eq, Nat.reduceBNe, Nat.reduceBEq, IntKind.signed, Nat.reduceEqDiff, Nat.reduceLeDiff, Nat.reduceLT, eq_self, Int.reduceEq, Int.reduceLT, Int.reduceLE, Int.reduceAdd, Int.reduceSub, VC.regC_nil, VC.regC_cons, VC.regCK_eq, VC.callQ, VC.tailQ, VC.goCall, VC.chStep]
    first | exact GPost.same h hB0 hr | exact fun m => GPost.same h hB0 hr | exact fun m => GPost.same h (hB0.trans ((below_drewN (Below.refl _ w1) m).mono hB0.size)) hr
  have e8 := eq_false q4
  obtain ⟨y, hy⟩ : ∃ y : Nat, c.at_ = y := ⟨c.at_.toNat, by omega⟩
  have hyN : c.at_.toNat = y := by omega
  have hyn : y < n := by omega
  have hrl : rstep n c t s = rlate c s := by unfold rstep; rw [if_neg q0, if_neg (by omega), if_neg qk1, if_neg qk2]
  obtain ⟨Ao, co, eo, _⟩ := id (h1.get 2 rfl : OwnK w1 0 137 1 s.k a.vo (ptrs a s.k))
  have b1 := hbm.at (i := 1) rfl
  rw [eo] at b1
  by_cases q5 : c.of_ < 0
  · have e10 := eq_true q5
    have hr : rstep n c t s = (2, s) := by rw [hrl]; unfold rlate; rw [if_pos (Or.inl (Or.inl q5))]
    subst hQ
    cases Ao with
    | none =>
      simp -dsimp only [Fa.F53, rdI_of z0, z0, rdI_of z1, z1, rdI_of z2, z2, rdI_of z3, z3, rdB_of z4, z4, rdI_of z5, z5, rdSA_of m0, rdSN_of m0, rdSC_of m0, m0, hml, e1, e2, e3, e4, e7, e8, e9, rdSA_of b1, rdSN_of b1, rdSC_of b1, b1, e10, undef, tu, uf, ul, ur, VC.Now, VC.vc, VC.lib, VC.regQ, VC.loopK, VC.reg, VC.opP, VC.pv, VC.thenF, VC.blkF, VC.retF, VC.resV, VC.oneV, VC.evo, VC.bin, VC.binI, VC.cmpI, VC.arithI, VC.ldv, VC.slv, VC.pickP, VC.holds, VC.chainOf, VC.look, VC.junk, VC.put, VC.eff, VC.callee, VC.pureB, VC.rdK, VC.rdKs, VC.okKs, VC.eqKs, VC.fillL, VC.putL, VC.stW, VC.stOK, VC.mixF, VC.setAll, Nat.reduceAdd, Nat.reduceSub, Nat.reduceMul, if_true, if_false, ↓reduceIte, forall_const, implies_true, reduceCtorEq, ne_eq, Nat.reduceBNe, Nat.reduceBEq, IntKind.signed, Nat.reduceEqDiff, Nat.reduceLeDiff, Nat.reduceLT, eq_self, Int.reduceEq, Int.reduceLT, Int.reduceLE, Int.reduceAdd, Int.reduceSub, VC.regC_nil, VC.regC_cons, VC.regCK_eq, VC.callQ, VC.tailQ, VC.goCall, VC.chStep]
      exact fun m m1 => GPost.same h (hB0.trans ((below_drewN (Below.refl _ w1) _).mono hB0.size)) hr
    | some ga =>
      cases hq : rdP w1 (ga.add c.of_.toNat) with
      | none =>
        simp -dsimp only [Fa.F53, rdI_of z0, z0, rdI_of z1, z1, rdI_of z2, z2, rdI_of z3, z3, rdB_of z4, z4, rdI_of z5, z5, rdSA_of m0, rdSN_of m0, rdSC_of m0, m0, hml, e1, e2, e3, e4, e7, e8, e9, rdSA_of b1, rdSN_of b1, rdSC_of b1, b1, e10, undef, tu, uf, ul, ur, hq, VC.Now, VC.vc, VC.lib, VC.regQ, VC.loopK, VC.reg, VC.opP, VC.pv, VC.thenF, VC.blkF, VC.retF, VC.resV, VC.oneV, VC.evo, VC.bin, VC.binI, VC.cmpI, VC.arithI, VC.ldv, VC.slv, VC.pickP, VC.holds, VC.chainOf, VC.look, VC.junk, VC.put, VC.eff, VC.callee, VC.pureB, VC.rdK, VC.rdKs, VC.okKs, VC.eqKs, VC.fillL, VC.putL, VC.stW, VC.stOK, VC.mixF, VC.setAll, Nat.reduceAdd, Nat.reduceSub, Nat.reduceMul, if_true, if_false, ↓reduceIte, forall_const, implies_true, reduceCtorEq, ne_eq, Nat.reduceBNe, Nat.reduceBEq, IntKind.signed, Nat.reduceEqDiff, Nat.reduceLeDiff, Nat.reduceLT, eq_self, Int.reduceEq, Int.reduceLT, Int.reduceLE, Int.reduceAdd, Int.reduceSub, VC.regC_nil, VC.regC_cons, VC.regCK_eq, VC.callQ, VC.tailQ, VC.goCall, VC.chStep]
        exact fun m m1 => GPost.same h (hB0.trans ((below_drewN (Below.refl _ w1) _).mono hB0.size)) hr
      | some qa =>
        simp -dsimp only [Fa.F53, rdI_of z0, z0, rdI_of z1, z1, rdI_of z2, z2, rdI_of z3, z3, rdB_of z4, z4, rdI_of z5, z5, rdSA_of m0, rdSN_of m0, rdSC_of m0, m0, hml, e1, e2, e3, e4, e7, e8, e9, rdSA_of b1, rdSN_of b1, rdSC_of b1, b1, e10, undef, tu, uf, ul, ur, hq, VC.Now, VC.vc, VC.lib, VC.regQ, VC.loopK, VC.reg, VC.opP, VC.pv, VC.thenF, VC.blkF, VC.retF, VC.resV, VC.oneV, VC.evo, VC.bin, VC.binI, VC.cmpI, VC.arithI, VC.ldv, VC.slv, VC.pickP, VC.holds, VC.chainOf, VC.look, VC.junk, VC.put, VC.eff, VC.callee, VC.pureB, VC.rdK, VC.rdKs, VC.okKs, VC.eqKs, VC.fillL, VC.putL, VC.stW, VC.stOK, VC.mixF, VC.setAll, Nat.reduceAdd, Nat.reduceSub, Nat.reduceMul, if_true, if_false, ↓reduceIte, forall_const, implies_true, reduceCtorEq, ne_eq, Nat.reduceBNe, Nat.reduceBEq, IntKind.signed, Nat.reduceEqDiff, Nat.reduceLeDiff, Nat.reduceLT, eq_self, Int.reduceEq, Int.reduceLT, Int.reduceLE, Int.reduceAdd, Int.reduceSub, VC.regC_nil, VC.regC_cons, VC.regCK_eq, VC.callQ, VC.tailQ, VC.goCall, VC.chStep]
        exact fun m m1 => GPost.same h (hB0.trans ((below_drewN (Below.refl _ w1) _).mono hB0.size)) hr
  have e10 := eq_false q5
  by_cases q6 : (s.k : Int) ≤ c.of_
  · have e11 := eq_true q6
    have hr : rstep n c t s = (2, s) := by rw [hrl]; unfold rlate; rw [if_pos (Or.inl (Or.inr q6))]
    subst hQ
    cases Ao with
    | none =>
      simp -dsimp only [Fa.F53, rdI_of z0, z0, rdI_of z1, z1, rdI_of z2, z2, rdI_of z3, z3, rdB_of z4, z4, rdI_of z5, z5, rdSA_of m0, rdSN_of m0, rdSC_of m0, m0, hml, e1, e2, e3, e4, e7, e8, e9, rdSA_of b1, rdSN_of b1, rdSC_of b1, b1, e10, e11, undef, tu, uf, ul, ur, VC.Now, VC.vc, VC.lib, VC.regQ, VC.loopK, VC.reg, VC.opP, VC.pv, VC.thenF, VC.blkF, VC.retF, VC.resV, VC.oneV, VC.evo, VC.bin, VC.binI, VC.cmpI, VC.arithI, VC.ldv, VC.slv, VC.pickP, VC.holds, VC.chainOf, VC.look, VC.junk, VC.put, VC.eff, VC.callee, VC.pureB, VC.rdK, VC.rdKs, VC.okKs, VC.eqKs, VC.fillL, VC.putL, VC.stW, VC.stOK, VC.mixF, VC.setAll, Nat.reduceAdd, Nat.reduceSub, Nat.reduceMul, if_true, if_false, ↓reduceIte, forall_const, implies_true, reduceCtorEq, ne_eq, Nat.reduceBNe, Nat.reduceBEq, IntKind.signed, Nat.reduceEqDiff, Nat.reduceLeDiff, Nat.reduceLT, eq_self, Int.reduceEq, Int.reduceLT, Int.reduceLE, Int.reduceAdd, Int.reduceSub, VC.regC_nil, VC.regC_cons, VC.regCK_eq, VC.callQ, VC.tailQ, VC.goCall, VC.chStep]
      exact fun m m1 => GPost.same h (hB0.trans ((below_drewN (Below.refl _ w1) _).mono hB0.size)) hr
    | some ga =>
      cases hq : rdP w1 (ga.add c.of_.toNat) with
      | none =>
        simp -dsimp only [Fa.F53, rdI_of z0, z0, rdI_of z1, z1, rdI_of z2, z2, rdI_of z3, z3, rdB_of z4, z4, rdI_of z5, z5, rdSA_of m0, rdSN_of m0, rdSC_of m0, m0, hml, e1, e2, e3, e4, e7, e8, e9, rdSA_of b1, rdSN_of b1, rdSC_of b1, b1, e10, e11, undef, tu, uf, ul, ur, hq, VC.Now, VC.vc, VC.lib, VC.regQ, VC.loopK, VC.reg, VC.opP, VC.pv, VC.thenF, VC.blkF, VC.retF, VC.resV, VC.oneV, VC.evo, VC.bin, VC.binI, VC.cmpI, VC.arithI, VC.ldv, VC.slv, VC.pickP, VC.holds, VC.chainOf, VC.look, VC.junk, VC.put, VC.eff, VC.callee, VC.pureB, VC.rdK, VC.rdKs, VC.okKs, VC.eqKs, VC.fillL, VC.putL, VC.stW, VC.stOK, VC.mixF, VC.setAll, Nat.reduceAdd, Nat.reduceSub, Nat.reduceMul, if_true, if_false, ↓reduceIte, forall_const, implies_true, reduceCtorEq, ne_eq, Nat.reduceBNe, Nat.reduceBEq, IntKind.signed, Nat.reduceEqDiff, Nat.reduceLeDiff, Nat.reduceLT, eq_self, Int.reduceEq, Int.reduceLT, Int.reduceLE, Int.reduceAdd, Int.reduceSub, VC.regC_nil, VC.regC_cons, VC.regCK_eq, VC.callQ, VC.tailQ, VC.goCall, VC.chStep]
        exact fun m m1 => GPost.same h (hB0.trans ((below_drewN (Below.refl _ w1) _).mono hB0.size)) hr
      | some qa =>
        simp -dsimp only [Fa.F53, rdI_of z0, z0, rdI_of z1, z1, rdI_of z2, z2, rdI_of z3, z3, rdB_of z4, z4, rdI_of z5, z5, rdSA_of m0, rdSN_of m0, rdSC_of m0, m0, hml, e1, e2, e3, e4, e7, e8, e9, rdSA_of b1, rdSN_of b1, rdSC_of b1, b1, e10, e11, undef, tu, uf, ul, ur, hq, VC.Now, VC.vc, VC.lib, VC.regQ, VC.loopK, VC.reg, VC.opP, VC.pv, VC.thenF, VC.blkF, VC.retF, VC.resV, VC.oneV, VC.evo, VC.bin, VC.binI, VC.cmpI, VC.arithI, VC.ldv, VC.slv, VC.pickP, VC.holds, VC.chainOf, VC.look, VC.junk, VC.put, VC.eff, VC.callee, VC.pureB, VC.rdK, VC.rdKs, VC.okKs, VC.eqKs, VC.fillL, VC.putL, VC.stW, VC.stOK, VC.mixF, VC.setAll, Nat.reduceAdd, Nat.reduceSub, Nat.reduceMul, if_true, if_false, ↓reduceIte, forall_const, implies_true, reduceCtorEq, ne_eq, Nat.reduceBNe, Nat.reduceBEq, IntKind.signed, Nat.reduceEqDiff, Nat.reduceLeDiff, Nat.reduceLT, eq_self, Int.reduceEq, Int.reduceLT, Int.reduceLE, Int.reduceAdd, Int.reduceSub, VC.regC_nil, VC.regC_cons, VC.regCK_eq, VC.callQ, VC.tailQ, VC.goCall, VC.chStep]
        exact fun m m1 => GPost.same h (hB0.trans ((below_drewN (Below.refl _ w1) _).mono hB0.size)) hr
  have e11 := eq_false q6
  obtain ⟨i, hi0⟩ : ∃ i : Nat, c.of_ = i := ⟨c.of_.toNat, by omega⟩
  have hiN : c.of_.toNat = i := by omega
  have hi : i < s.k := by omega
  rw [hi0] at z3 e10 e11
  rw [hy] at z2 e7 e8
  obtain ⟨g0, c0, eg, hg0, hops⟩ := g_ops h1 hi
  have b2 := hbm.at (i := 1) rfl
  rw [eg] at b2
  have p1 := hops i hi
  obtain ⟨bx, _⟩ := g_op h1 hi
  have y4 := bx.at (i := 4) rfl
  have hpl := bx.1
  cases hsec : (s.op i).second with
  | false =>
    rw [hsec] at y4
    have hr : rstep n c t s = (2, s) := by rw [hrl]; unfold rlate; rw [if_pos (Or.inr (by rw [hiN]; exact hsec))]
    subst hQ
    simp -dsimp only [Fa.F53, rdI_of z0, z0, rdI_of z1, z1, rdI_of z2, z2, rdI_of z3, z3, rdB_of z4, z4, rdI_of z5, z5, rdSA_of m0, rdSN_of m0, rdSC_of m0, m0, hml, e1, e2, e3, e4, e7, e8, e9, rdSA_of b2, rdSN_of b2, rdSC_of b2, b2, hg0, rdP_of p1, p1, rdB_of y4, y4, hpl, Int.toNat_natCast, Nat.zero_add, e10, e11, undef, tu, uf, ul, ur, Option.isNone_some, Option.isNone_none, VC.Now, VC.vc, VC.lib, VC.regQ, VC.loopK, VC.reg, VC.opP, VC.pv, VC.thenF, VC.blkF, VC.retF, VC.resV, VC.oneV, VC.evo, VC.bin, VC.binI, VC.cmpI, VC.arithI, VC.ldv, VC.slv, VC.pickP, VC.holds, VC.chainOf, VC.look, VC.junk, VC.put, VC.eff, VC.callee, VC.pureB, VC.rdK, VC.rdKs, VC.okKs, VC.eqKs, VC.fillL, VC.putL, VC.stW, VC.stOK, VC.mixF, VC.setAll, Nat.reduceAdd, Nat.reduceSub, Nat.reduceMul, if_true, if_false, ↓reduceIte, forall_const, implies_true, reduceCtorEq, ne_eq, Nat.reduceBNe, Nat.reduceBEq, IntKind.signed, Nat.reduceEqDiff, Nat.reduceLeDiff, Nat.reduceLT, eq_self, Int.reduceEq, Int.reduceLT, Int.reduceLE, Int.reduceAdd, Int.reduceSub, VC.regC_nil, VC.regC_cons, VC.regCK_eq, VC.callQ, VC.tailQ, VC.goCall, VC.chStep]
    exact fun m => ⟨⟨by omega, by omega⟩, fun m1 => GPost.same h (hB0.trans ((below_drewN (Below.refl _ w1) _).mono hB0.size)) hr⟩
  | true =>
    rw [hsec] at y4
    have hr : rstep n c t s = (0, { s with cp := rstore s.cp y (s.op i).b }) := by rw [hrl]; unfold rlate; rw [if_neg (by rw [hiN, hsec]; intro h; rcases h with (h | h) | h; omega; omega; cases h), hyN, hiN]
    subst hQ
    simp -dsimp only [Fa.F53, rdI_of z0, z0, rdI_of z1, z1, rdI_of z2, z2, rdI_of z3, z3, rdB_of z4, z4, rdI_of z5, z5, rdSA_of m0, rdSN_of m0, rdSC_of m0, m0, hml, e1, e2, e3, e4, e7, e8, e9, rdSA_of b2, rdSN_of b2, rdSC_of b2, b2, hg0, rdP_of p1, p1, rdB_of y4, y4, hpl, Int.toNat_natCast, Nat.zero_add, e10, e11, undef, tu, uf, ul, ur, Option.isNone_some, Option.isNone_none, VC.Now, VC.vc, VC.lib, VC.regQ, VC.loopK, VC.reg, VC.opP, VC.pv, VC.thenF, VC.blkF, VC.retF, VC.resV, VC.oneV, VC.evo, VC.bin, VC.binI, VC.cmpI, VC.arithI, VC.ldv, VC.slv, VC.pickP, VC.holds, VC.chainOf, VC.look, VC.junk, VC.put, VC.eff, VC.callee, VC.pureB, VC.rdK, VC.rdKs, VC.okKs, VC.eqKs, VC.fillL, VC.putL, VC.stW, VC.stOK, VC.mixF, VC.setAll, Nat.reduceAdd, Nat.reduceSub, Nat.reduceMul, if_true, if_false, ↓reduceIte, forall_const, implies_true, reduceCtorEq, ne_eq, Nat.reduceBNe, Nat.reduceBEq, IntKind.signed, Nat.reduceEqDiff, Nat.reduceLeDiff, Nat.reduceLT, eq_self, Int.reduceEq, Int.reduceLT, Int.reduceLE, Int.reduceAdd, Int.reduceSub, VC.regC_nil, VC.regC_cons, VC.regCK_eq, VC.callQ, VC.tailQ, VC.goCall, VC.chStep]
    intro u u1 m
    refine ⟨⟨by omega, by omega⟩, fun u2 m1 => ?_⟩
    have h2 := h1.drewN (m + m1)
    have hB2 : Below w.heap.size w (w1.drewN (m + m1)) := (hB0.trans ((below_drewN (Below.refl _ w1) (m + m1)).mono hB0.size))
    replace hml : a.mb < (w1.drewN (m + m1)).heap.size := hml
    replace z2 : (w1.drewN (m + m1)).cell? ⟨sb, 2, none⟩ = _ := z2
    replace z3 : (w1.drewN (m + m1)).cell? ⟨sb, 3, none⟩ = _ := z3
    replace b2 : (w1.drewN (m + m1)).cell? ⟨a.mb, 1, none⟩ = _ := b2
    replace p1 : (w1.drewN (m + m1)).cell? ⟨g0, i, none⟩ = _ := p1
    replace hpl : a.pb i < (w1.drewN (m + m1)).heap.size := hpl
    replace bx : Box (w1.drewN (m + m1)) (a.pb i) (opC a i (s.op i)) := bx.below (below_drewN (Below.refl _ w1) (m + m1))
    replace hg0 : g0 < (w1.drewN (m + m1)).heap.size := hg0
    generalize w1.drewN (m + m1) = w2 at h2 hB2 hml z2 z3 b2 p1 bx hg0 hpl ⊢
    have y1 := bx.at (i := 1) rfl
    have y2 := bx.at (i := 2) rfl
    have y3 := bx.at (i := 3) rfl
    refine WP_tail 14 Fa.mix (by kernel_rfl) (by kernel_rfl) (by kernel_rfl) rfl ?_
    simp -dsimp only [Fa.F53, rdI_of z2, z2, rdI_of z3, z3, hml, rdSA_of b2, rdSN_of b2, rdSC_of b2, b2, hg0, rdP_of p1, p1, rdI_of y1, y1, rdI_of y2, y2, rdI_of y3, y3, hpl, Int.toNat_natCast, Nat.zero_add, VC.Now, VC.vc_skip, VC.vc_ret, VC.vc_exit, VC.vc_block, VC.vc_cond, VC.vc_region, VC.lib, VC.regQ, VC.loopK, VC.reg, VC.opP, VC.pv, VC.thenF, VC.blkF, VC.retF, VC.resV, VC.oneV, VC.evo, VC.bin, VC.binI, VC.cmpI, VC.arithI, VC.ldv, VC.slv, VC.pickP, VC.holds, VC.chainOf, VC.look, VC.junk, VC.put, VC.eff, VC.callee, VC.pureB, VC.rdK, VC.rdKs, VC.okKs, VC.eqKs, VC.fillL, VC.putL, VC.stW, VC.stOK, VC.mixF, VC.setAll, Nat.reduceAdd, Nat.reduceSub, Nat.reduceMul, if_true, if_false, ↓reduceIte, forall_const, implies_true, reduceCtorEq, ne_eq, Nat.reduceBNe, Nat.reduceBEq, IntKind.signed, Nat.reduceEqDiff, Nat.reduceLeDiff, Nat.reduceLT, eq_self, Int.reduceEq, Int.reduceLT, Int.reduceLE, Int.reduceAdd, Int.reduceSub, VC.regC_nil, VC.regC_cons, VC.regCK_eq, VC.callQ, VC.tailQ, VC.goCall, VC.chStep]
    refine ⟨⟨by omega, by omega⟩, fun w3 hw3 => ?_⟩
    have h3 := h2.below hw3
    refine CALL_by (rstore_any (R := oOwn 137 1 s.k a.vo (ptrs a s.k) :: (List.range s.k).flatMap (opB a s.op)) h3 rfl hyn (s.op i).b) fun e w4 hp => ⟨_, hp.1, ?_⟩
    rw [VC.Now, VC.seqK_eq]
    simp -dsimp only [Fa.F53, VC.Now, VC.vc, VC.lib, VC.regQ, VC.loopK, VC.reg, VC.opP, VC.pv, VC.thenF, VC.blkF, VC.retF, VC.resV, VC.oneV, VC.evo, VC.bin, VC.binI, VC.cmpI, VC.arithI, VC.ldv, VC.slv, VC.pickP, VC.holds, VC.chainOf, VC.look, VC.junk, VC.put, VC.eff, VC.callee, VC.pureB, VC.rdK, VC.rdKs, VC.okKs, VC.eqKs, VC.fillL, VC.putL, VC.stW, VC.stOK, VC.mixF, VC.setAll, Nat.reduceAdd, Nat.reduceSub, Nat.reduceMul, if_true, if_false, ↓reduceIte, forall_const, implies_true, reduceCtorEq, ne_eq, Nat.reduceBNe, Nat.reduceBEq, IntKind.signed, Nat.reduceEqDiff, Nat.reduceLeDiff, Nat.reduceLT, eq_self, Int.reduceEq, Int.reduceLT, Int.reduceLE, Int.reduceAdd, Int.reduceSub, VC.regC_nil, VC.regC_cons, VC.regCK_eq, VC.callQ, VC.tailQ, VC.goCall, VC.chStep]
    rw [hr]
    have hg : GPost B n a s w3 (0, { s with cp := rstore s.cp y (s.op i).b }) (.returned (.int .i64 0)) w4 := ⟨rfl, a, rfl, rfl, hp.2⟩
    exact GPost.lift h (hB2.trans (hw3.mono hB2.size)) hg
end
end Go.Proofs.Ytnggjekppdlaoaa
