/- Transactions in an order: two acts; the maps are made. -/
import Derived.Test.YtelfmhiaafkimaaOrd1
namespace Go.Proofs.Ytelfmhiaafkimaa
open Go Go.RowKit Go.VC
set_option linter.unusedSimpArgs false
set_option linter.unusedVariables false
abbrev actV (k t i : Int) : Value := .agg #[.int .i64 k, .int .i64 t, .int .i64 i]
def clP (k1 t1 i1 k2 t2 i2 : Int) : Prop := (k1 ≤ 2 ∧ k2 ≤ 2) ∧ t1 ≠ t2 ∧ i1 = i2 ∧ (k1 = 2 ∨ k2 = 2)
instance (k1 t1 i1 k2 t2 i2 : Int) : Decidable (clP k1 t1 i1 k2 t2 i2) := by unfold clP; exact inferInstance
set_option maxRecDepth 8000 in
set_option maxHeartbeats 1000000 in
theorem clash_any (k1 t1 i1 k2 t2 i2 : Int) (w : World) : Calls Try.prog 83 #[actV k1 t1 i1, actV k2 t2 i2] w fun e w' => e = .returned (.bool (decide (clP k1 t1 i1 k2 t2 i2))) ∧ Below w.heap.size w w' := by
  have bx := Box.new w [.int .i64 k1, .int .i64 t1, .int .i64 i1] 99
  have by2 := Box.new (w.alloc (.cells #[.int .i64 k1, .int .i64 t1, .int .i64 i1] 99)) [.int .i64 k2, .int .i64 t2, .int .i64 i2] 99
  have hB : Below w.heap.size w ((w.alloc (.cells #[.int .i64 k1, .int .i64 t1, .int .i64 i1] 99)).alloc (.cells #[.int .i64 k2, .int .i64 t2, .int .i64 i2] 99)) := below_box (below_box (Below.refl _ _) _) _
  replace bx := bx.below ((Below.refl _ _).alloc (Nat.le_refl _) (.cells #[.int .i64 k2, .int .i64 t2, .int .i64 i2] 99))
  have hz : (w.alloc (.cells #[.int .i64 k1, .int .i64 t1, .int .i64 i1] 99)).heap.size = w.heap.size + 1 := by simp
  rw [hz] at by2
  refine calls_vc (rs := [.tmp 4]) Fa.mix Try.func83 rfl Try.ntmps83 rfl (by kernel_rfl) (Nat.le_of_ble_eq_true rfl) ?_
  (repeat rw [vc_seq]); refine vc_plain _ fun Q hQ => ?_; simp -dsimp (maxSteps := 2000000) only [Fa.F83, VC.Now, VC.vc_skip, VC.vc_ret, VC.vc_exit, VC.vc_block, VC.vc_cond, VC.vc_region, VC.lib, VC.mapN_drewN, VC.mapB_drewN, VC.regQ, VC.loopK, VC.reg, VC.opP, VC.opS, VC.opZ, VC.nomulB, VC.pv, VC.thenF, VC.blkF, VC.retF, VC.resV, VC.oneV, VC.evo, VC.bin, VC.binI, VC.cmpI, VC.arithI, VC.ldv, VC.slv, VC.pickP, VC.holds, VC.chainOf, VC.look, VC.junk, VC.put, VC.eff, VC.callee, VC.pureB, VC.rdK, VC.rdKs, VC.okKs, VC.eqKs, VC.fillL, VC.putL, VC.stW, VC.stOK, VC.mixF, VC.setAll, Nat.reduceAdd, Nat.reduceSub, Nat.reduceMul, if_true, if_false, ↓reduceIte, forall_const, implies_true, reduceCtorEq, ne_eq, Nat.reduceBNe, Nat.reduceBEq, IntKind.signed, Nat.reduceEqDiff, Nat.reduceLeDiff, Nat.reduceLT, eq_self, Int.reduceEq, Int.reduceLT, Int.reduceLE, Int.reduceAdd, Int.reduceSub, VC.regC_nil, VC.regC_cons, VC.regCK_eq, VC.callQ, VC.tailQ, VC.goCall, VC.chStep]
  change Q _ _ ((w.alloc (.cells #[.int .i64 k1, .int .i64 t1, .int .i64 i1] 99)).alloc (.cells #[.int .i64 k2, .int .i64 t2, .int .i64 i2] 99))
  generalize (w.alloc (.cells #[.int .i64 k1, .int .i64 t1, .int .i64 i1] 99)).alloc (.cells [.int .i64 k2, .int .i64 t2, .int .i64 i2].toArray 99) = wb at bx by2 hB ⊢
  have x0 := bx.at (i := 0) rfl
  have x1 := bx.at (i := 1) rfl
  have x2 := bx.at (i := 2) rfl
  have y0 := by2.at (i := 0) rfl
  have y1 := by2.at (i := 1) rfl
  have y2 := by2.at (i := 2) rfl
  have lx := bx.1
  have ly := by2.1
  subst hQ
  simp -dsimp (maxSteps := 2000000) only [Fa.F83, VC.Now, VC.vc_skip, VC.vc_ret, VC.vc_exit, VC.vc_block, VC.vc_cond, VC.vc_region, VC.lib, VC.mapN_drewN, VC.mapB_drewN, VC.regQ, VC.loopK, VC.reg, VC.opP, VC.opS, VC.opZ, VC.nomulB, VC.pv, VC.thenF, VC.blkF, VC.retF, VC.resV, VC.oneV, VC.evo, VC.bin, VC.binI, VC.cmpI, VC.arithI, VC.ldv, VC.slv, VC.pickP, VC.holds, VC.chainOf, VC.look, VC.junk, VC.put, VC.eff, VC.callee, VC.pureB, VC.rdK, VC.rdKs, VC.okKs, VC.eqKs, VC.fillL, VC.putL, VC.stW, VC.stOK, VC.mixF, VC.setAll, Nat.reduceAdd, Nat.reduceSub, Nat.reduceMul, if_true, if_false, ↓reduceIte, forall_const, implies_true, reduceCtorEq, ne_eq, Nat.reduceBNe, Nat.reduceBEq, IntKind.signed, Nat.reduceEqDiff, Nat.reduceLeDiff, Nat.reduceLT, eq_self, Int.reduceEq, Int.reduceLT, Int.reduceLE, Int.reduceAdd, Int.reduceSub, VC.regC_nil, VC.regC_cons, VC.regCK_eq, VC.callQ, VC.tailQ, VC.goCall, VC.chStep]
  by_cases h1 : k1 ≤ 2
  case neg =>
    have e1 := eq_false h1
    have hd : decide (clP k1 t1 i1 k2 t2 i2) = false := decide_eq_false fun hh => h1 hh.1.1
    simp -dsimp (maxSteps := 2000000) only [Fa.F83, rdI_of x0, x0, lx, ly, e1, undef, tu, uf, ul, ur, VC.Now, VC.vc, VC.lib, VC.mapN_drewN, VC.mapB_drewN, VC.regQ, VC.loopK, VC.reg, VC.opP, VC.opS, VC.opZ, VC.nomulB, VC.pv, VC.thenF, VC.blkF, VC.retF, VC.resV, VC.oneV, VC.evo, VC.bin, VC.binI, VC.cmpI, VC.arithI, VC.ldv, VC.slv, VC.pickP, VC.holds, VC.chainOf, VC.look, VC.junk, VC.put, VC.eff, VC.callee, VC.pureB, VC.rdK, VC.rdKs, VC.okKs, VC.eqKs, VC.fillL, VC.putL, VC.stW, VC.stOK, VC.mixF, VC.setAll, Nat.reduceAdd, Nat.reduceSub, Nat.reduceMul, if_true, if_false, ↓reduceIte, forall_const, implies_true, reduceCtorEq, ne_eq, Nat.reduceBNe, Nat.reduceBEq, IntKind.signed, Nat.reduceEqDiff, Nat.reduceLeDiff, Nat.reduceLT, eq_self, Int.reduceEq, Int.reduceLT, Int.reduceLE, Int.reduceAdd, Int.reduceSub, VC.regC_nil, VC.regC_cons, VC.regCK_eq, VC.callQ, VC.tailQ, VC.goCall, VC.chStep]
    rw [hd]
    intros
    exact ⟨rfl, hB⟩
  have e1 := eq_true h1
  by_cases h2 : k2 ≤ 2
  case neg =>
    have e2 := eq_false h2
    have hd : decide (clP k1 t1 i1 k2 t2 i2) = false := decide_eq_false fun hh => h2 hh.1.2
    simp -dsimp (maxSteps := 2000000) only [Fa.F83, rdI_of x0, x0, rdI_of y0, y0, lx, ly, e1, e2, undef, tu, uf, ul, ur, VC.Now, VC.vc, VC.lib, VC.mapN_drewN, VC.mapB_drewN, VC.regQ, VC.loopK, VC.reg, VC.opP, VC.opS, VC.opZ, VC.nomulB, VC.pv, VC.thenF, VC.blkF, VC.retF, VC.resV, VC.oneV, VC.evo, VC.bin, VC.binI, VC.cmpI, VC.arithI, VC.ldv, VC.slv, VC.pickP, VC.holds, VC.chainOf, VC.look, VC.junk, VC.put, VC.eff, VC.callee, VC.pureB, VC.rdK, VC.rdKs, VC.okKs, VC.eqKs, VC.fillL, VC.putL, VC.stW, VC.stOK, VC.mixF, VC.setAll, Nat.reduceAdd, Nat.reduceSub, Nat.reduceMul, if_true, if_false, ↓reduceIte, forall_const, implies_true, reduceCtorEq, ne_eq, Nat.reduceBNe, Nat.reduceBEq, IntKind.signed, Nat.reduceEqDiff, Nat.reduceLeDiff, Nat.reduceLT, eq_self, Int.reduceEq, Int.reduceLT, Int.reduceLE, Int.reduceAdd, Int.reduceSub, VC.regC_nil, VC.regC_cons, VC.regCK_eq, VC.callQ, VC.tailQ, VC.goCall, VC.chStep]
    rw [hd]
    intros
    exact ⟨rfl, hB⟩
  have e2 := eq_true h2
  by_cases h3 : t1 = t2
  · have e3 := eq_true h3
    have hd : decide (clP k1 t1 i1 k2 t2 i2) = false := decide_eq_false fun hh => hh.2.1 h3
    simp -dsimp (maxSteps := 2000000) only [Fa.F83, rdI_of x0, x0, rdI_of y0, y0, rdI_of x1, x1, rdI_of y1, y1, lx, ly, e1, e2, e3, undef, tu, uf, ul, ur, VC.Now, VC.vc, VC.lib, VC.mapN_drewN, VC.mapB_drewN, VC.regQ, VC.loopK, VC.reg, VC.opP, VC.opS, VC.opZ, VC.nomulB, VC.pv, VC.thenF, VC.blkF, VC.retF, VC.resV, VC.oneV, VC.evo, VC.bin, VC.binI, VC.cmpI, VC.arithI, VC.ldv, VC.slv, VC.pickP, VC.holds, VC.chainOf, VC.look, VC.junk, VC.put, VC.eff, VC.callee, VC.pureB, VC.rdK, VC.rdKs, VC.okKs, VC.eqKs, VC.fillL, VC.putL, VC.stW, VC.stOK, VC.mixF, VC.setAll, Nat.reduceAdd, Nat.reduceSub, Nat.reduceMul, if_true, if_false, ↓reduceIte, forall_const, implies_true, reduceCtorEq, ne_eq, Nat.reduceBNe, Nat.reduceBEq, IntKind.signed, Nat.reduceEqDiff, Nat.reduceLeDiff, Nat.reduceLT, eq_self, Int.reduceEq, Int.reduceLT, Int.reduceLE, Int.reduceAdd, Int.reduceSub, VC.regC_nil, VC.regC_cons, VC.regCK_eq, VC.callQ, VC.tailQ, VC.goCall, VC.chStep]
    rw [hd]
    intros
    exact ⟨rfl, hB⟩
  have e3 := eq_false h3
  by_cases h4 : i1 = i2
  case neg =>
    have e4 := eq_false h4
    have hd : decide (clP k1 t1 i1 k2 t2 i2) = false := decide_eq_false fun hh => h4 hh.2.2.1
    simp -dsimp (maxSteps := 2000000) only [Fa.F83, rdI_of x0, x0, rdI_of y0, y0, rdI_of x1, x1, rdI_of y1, y1, rdI_of x2, x2, rdI_of y2, y2, lx, ly, e1, e2, e3, e4, undef, tu, uf, ul, ur, VC.Now, VC.vc, VC.lib, VC.mapN_drewN, VC.mapB_drewN, VC.regQ, VC.loopK, VC.reg, VC.opP, VC.opS, VC.opZ, VC.nomulB, VC.pv, VC.thenF, VC.blkF, VC.retF, VC.resV, VC.oneV, VC.evo, VC.bin, VC.binI, VC.cmpI, VC.arithI, VC.ldv, VC.slv, VC.pickP, VC.holds, VC.chainOf, VC.look, VC.junk, VC.put, VC.eff, VC.callee, VC.pureB, VC.rdK, VC.rdKs, VC.okKs, VC.eqKs, VC.fillL, VC.putL, VC.stW, VC.stOK, VC.mixF, VC.setAll, Nat.reduceAdd, Nat.reduceSub, Nat.reduceMul, if_true, if_false, ↓reduceIte, forall_const, implies_true, reduceCtorEq, ne_eq, Nat.reduceBNe, Nat.reduceBEq, IntKind.signed, Nat.reduceEqDiff, Nat.reduceLeDiff, Nat.reduceLT, eq_self, Int.reduceEq, Int.reduceLT, Int.reduceLE, Int.reduceAdd, Int.reduceSub, VC.regC_nil, VC.regC_cons, VC.regCK_eq, VC.callQ, VC.tailQ, VC.goCall, VC.chStep]
    rw [hd]
    intros
    exact ⟨rfl, hB⟩
  have e4 := eq_true h4
  by_cases h5 : k1 = 2
  · have e5 := eq_true h5
    have hd : decide (clP k1 t1 i1 k2 t2 i2) = true := decide_eq_true ⟨⟨h1, h2⟩, h3, h4, Or.inl h5⟩
    simp -dsimp (maxSteps := 2000000) only [Fa.F83, rdI_of x0, x0, rdI_of y0, y0, rdI_of x1, x1, rdI_of y1, y1, rdI_of x2, x2, rdI_of y2, y2, lx, ly, e1, e2, e3, e4, e5, undef, tu, uf, ul, ur, VC.Now, VC.vc, VC.lib, VC.mapN_drewN, VC.mapB_drewN, VC.regQ, VC.loopK, VC.reg, VC.opP, VC.opS, VC.opZ, VC.nomulB, VC.pv, VC.thenF, VC.blkF, VC.retF, VC.resV, VC.oneV, VC.evo, VC.bin, VC.binI, VC.cmpI, VC.arithI, VC.ldv, VC.slv, VC.pickP, VC.holds, VC.chainOf, VC.look, VC.junk, VC.put, VC.eff, VC.callee, VC.pureB, VC.rdK, VC.rdKs, VC.okKs, VC.eqKs, VC.fillL, VC.putL, VC.stW, VC.stOK, VC.mixF, VC.setAll, Nat.reduceAdd, Nat.reduceSub, Nat.reduceMul, if_true, if_false, ↓reduceIte, forall_const, implies_true, reduceCtorEq, ne_eq, Nat.reduceBNe, Nat.reduceBEq, IntKind.signed, Nat.reduceEqDiff, Nat.reduceLeDiff, Nat.reduceLT, eq_self, Int.reduceEq, Int.reduceLT, Int.reduceLE, Int.reduceAdd, Int.reduceSub, VC.regC_nil, VC.regC_cons, VC.regCK_eq, VC.callQ, VC.tailQ, VC.goCall, VC.chStep]
    rw [hd]
    intros
    exact ⟨rfl, hB⟩
  have e5 := eq_false h5
  have hd : decide (clP k1 t1 i1 k2 t2 i2) = decide (k2 = 2) := by
    by_cases h6 : k2 = 2
    · rw [decide_eq_true h6]; exact decide_eq_true ⟨⟨h1, h2⟩, h3, h4, Or.inr h6⟩
    · rw [decide_eq_false h6]; exact decide_eq_false fun hh => hh.2.2.2.elim h5 h6
  simp -dsimp (maxSteps := 2000000) only [Fa.F83, rdI_of x0, x0, rdI_of y0, y0, rdI_of x1, x1, rdI_of y1, y1, rdI_of x2, x2, rdI_of y2, y2, lx, ly, e1, e2, e3, e4, e5, undef, tu, uf, ul, ur, VC.Now, VC.vc, VC.lib, VC.mapN_drewN, VC.mapB_drewN, VC.regQ, VC.loopK, VC.reg, VC.opP, VC.opS, VC.opZ, VC.nomulB, VC.pv, VC.thenF, VC.blkF, VC.retF, VC.resV, VC.oneV, VC.evo, VC.bin, VC.binI, VC.cmpI, VC.arithI, VC.ldv, VC.slv, VC.pickP, VC.holds, VC.chainOf, VC.look, VC.junk, VC.put, VC.eff, VC.callee, VC.pureB, VC.rdK, VC.rdKs, VC.okKs, VC.eqKs, VC.fillL, VC.putL, VC.stW, VC.stOK, VC.mixF, VC.setAll, Nat.reduceAdd, Nat.reduceSub, Nat.reduceMul, if_true, if_false, ↓reduceIte, forall_const, implies_true, reduceCtorEq, ne_eq, Nat.reduceBNe, Nat.reduceBEq, IntKind.signed, Nat.reduceEqDiff, Nat.reduceLeDiff, Nat.reduceLT, eq_self, Int.reduceEq, Int.reduceLT, Int.reduceLE, Int.reduceAdd, Int.reduceSub, VC.regC_nil, VC.regC_cons, VC.regCK_eq, VC.callQ, VC.tailQ, VC.goCall, VC.chStep]
  rw [hd]
  intros
  exact ⟨rfl, hB⟩
set_option maxRecDepth 8000 in
set_option maxHeartbeats 1000000 in
theorem clashR_any (k1 t1 i1 k2 t2 i2 : Int) (w : World) (b1 : 1 ≤ k1 ∧ k1 ≤ 4) (b2 : 1 ≤ k2 ∧ k2 ≤ 4) : Calls Try.prog 45 #[actV k1 t1 i1, actV k2 t2 i2] w fun e w' => e = .returned (.bool (decide (clP k1 t1 i1 k2 t2 i2))) ∧ Below w.heap.size w w' := by
  have bx := Box.new w [.int .i64 k1, .int .i64 t1, .int .i64 i1] 99
  have by2 := Box.new (w.alloc (.cells #[.int .i64 k1, .int .i64 t1, .int .i64 i1] 99)) [.int .i64 k2, .int .i64 t2, .int .i64 i2] 99
  have hB : Below w.heap.size w ((w.alloc (.cells #[.int .i64 k1, .int .i64 t1, .int .i64 i1] 99)).alloc (.cells #[.int .i64 k2, .int .i64 t2, .int .i64 i2] 99)) := below_box (below_box (Below.refl _ _) _) _
  replace bx := bx.below ((Below.refl _ _).alloc (Nat.le_refl _) (.cells #[.int .i64 k2, .int .i64 t2, .int .i64 i2] 99))
  have hz : (w.alloc (.cells #[.int .i64 k1, .int .i64 t1, .int .i64 i1] 99)).heap.size = w.heap.size + 1 := by simp
  rw [hz] at by2
  refine calls_vc (rs := [.tmp 4]) Fa.mix Try.func45 rfl Try.ntmps45 rfl (by kernel_rfl) (Nat.le_of_ble_eq_true rfl) ?_
  (repeat rw [vc_seq]); refine vc_plain _ fun Q hQ => ?_; simp -dsimp (maxSteps := 2000000) only [Fa.F45, VC.Now, VC.vc_skip, VC.vc_ret, VC.vc_exit, VC.vc_block, VC.vc_cond, VC.vc_region, VC.lib, VC.mapN_drewN, VC.mapB_drewN, VC.regQ, VC.loopK, VC.reg, VC.opP, VC.opS, VC.opZ, VC.nomulB, VC.pv, VC.thenF, VC.blkF, VC.retF, VC.resV, VC.oneV, VC.evo, VC.bin, VC.binI, VC.cmpI, VC.arithI, VC.ldv, VC.slv, VC.pickP, VC.holds, VC.chainOf, VC.look, VC.junk, VC.put, VC.eff, VC.callee, VC.pureB, VC.rdK, VC.rdKs, VC.okKs, VC.eqKs, VC.fillL, VC.putL, VC.stW, VC.stOK, VC.mixF, VC.setAll, Nat.reduceAdd, Nat.reduceSub, Nat.reduceMul, if_true, if_false, ↓reduceIte, forall_const, implies_true, reduceCtorEq, ne_eq, Nat.reduceBNe, Nat.reduceBEq, IntKind.signed, Nat.reduceEqDiff, Nat.reduceLeDiff, Nat.reduceLT, eq_self, Int.reduceEq, Int.reduceLT, Int.reduceLE, Int.reduceAdd, Int.reduceSub, VC.regC_nil, VC.regC_cons, VC.regCK_eq, VC.callQ, VC.tailQ, VC.goCall, VC.chStep]
  change Q _ _ ((w.alloc (.cells #[.int .i64 k1, .int .i64 t1, .int .i64 i1] 99)).alloc (.cells #[.int .i64 k2, .int .i64 t2, .int .i64 i2] 99))
  generalize (w.alloc (.cells #[.int .i64 k1, .int .i64 t1, .int .i64 i1] 99)).alloc (.cells [.int .i64 k2, .int .i64 t2, .int .i64 i2].toArray 99) = wb at bx by2 hB ⊢
  have x0 := bx.at (i := 0) rfl
  have x1 := bx.at (i := 1) rfl
  have x2 := bx.at (i := 2) rfl
  have y0 := by2.at (i := 0) rfl
  have y1 := by2.at (i := 1) rfl
  have y2 := by2.at (i := 2) rfl
  have lx := bx.1
  have ly := by2.1
  subst hQ
  simp -dsimp (maxSteps := 2000000) only [Fa.F45, VC.Now, VC.vc_skip, VC.vc_ret, VC.vc_exit, VC.vc_block, VC.vc_cond, VC.vc_region, VC.lib, VC.mapN_drewN, VC.mapB_drewN, VC.regQ, VC.loopK, VC.reg, VC.opP, VC.opS, VC.opZ, VC.nomulB, VC.pv, VC.thenF, VC.blkF, VC.retF, VC.resV, VC.oneV, VC.evo, VC.bin, VC.binI, VC.cmpI, VC.arithI, VC.ldv, VC.slv, VC.pickP, VC.holds, VC.chainOf, VC.look, VC.junk, VC.put, VC.eff, VC.callee, VC.pureB, VC.rdK, VC.rdKs, VC.okKs, VC.eqKs, VC.fillL, VC.putL, VC.stW, VC.stOK, VC.mixF, VC.setAll, Nat.reduceAdd, Nat.reduceSub, Nat.reduceMul, if_true, if_false, ↓reduceIte, forall_const, implies_true, reduceCtorEq, ne_eq, Nat.reduceBNe, Nat.reduceBEq, IntKind.signed, Nat.reduceEqDiff, Nat.reduceLeDiff, Nat.reduceLT, eq_self, Int.reduceEq, Int.reduceLT, Int.reduceLE, Int.reduceAdd, Int.reduceSub, VC.regC_nil, VC.regC_cons, VC.regCK_eq, VC.callQ, VC.tailQ, VC.goCall, VC.chStep]
  by_cases h1 : k1 ≤ 2
  case neg =>
    have e1 : (2 < k1) = True := eq_true (by omega)
    have hd : decide (clP k1 t1 i1 k2 t2 i2) = false := decide_eq_false fun hh => h1 hh.1.1
    simp -dsimp (maxSteps := 2000000) only [Fa.F45, rdI_of x0, x0, lx, ly, e1, undef, tu, uf, ul, ur, VC.Now, VC.vc, VC.lib, VC.mapN_drewN, VC.mapB_drewN, VC.regQ, VC.loopK, VC.reg, VC.opP, VC.opS, VC.opZ, VC.nomulB, VC.pv, VC.thenF, VC.blkF, VC.retF, VC.resV, VC.oneV, VC.evo, VC.bin, VC.binI, VC.cmpI, VC.arithI, VC.ldv, VC.slv, VC.pickP, VC.holds, VC.chainOf, VC.look, VC.junk, VC.put, VC.eff, VC.callee, VC.pureB, VC.rdK, VC.rdKs, VC.okKs, VC.eqKs, VC.fillL, VC.putL, VC.stW, VC.stOK, VC.mixF, VC.setAll, Nat.reduceAdd, Nat.reduceSub, Nat.reduceMul, if_true, if_false, ↓reduceIte, forall_const, implies_true, reduceCtorEq, ne_eq, Nat.reduceBNe, Nat.reduceBEq, IntKind.signed, Nat.reduceEqDiff, Nat.reduceLeDiff, Nat.reduceLT, eq_self, Int.reduceEq, Int.reduceLT, Int.reduceLE, Int.reduceAdd, Int.reduceSub, VC.regC_nil, VC.regC_cons, VC.regCK_eq, VC.callQ, VC.tailQ, VC.goCall, VC.chStep]
    rw [hd]
    intros
    exact ⟨rfl, hB⟩
  have e1 : (2 < k1) = False := eq_false (by omega)
  by_cases h2 : k2 ≤ 2
  case neg =>
    have e2 : (2 < k2) = True := eq_true (by omega)
    have hd : decide (clP k1 t1 i1 k2 t2 i2) = false := decide_eq_false fun hh => h2 hh.1.2
    simp -dsimp (maxSteps := 2000000) only [Fa.F45, rdI_of x0, x0, rdI_of y0, y0, lx, ly, e1, e2, undef, tu, uf, ul, ur, VC.Now, VC.vc, VC.lib, VC.mapN_drewN, VC.mapB_drewN, VC.regQ, VC.loopK, VC.reg, VC.opP, VC.opS, VC.opZ, VC.nomulB, VC.pv, VC.thenF, VC.blkF, VC.retF, VC.resV, VC.oneV, VC.evo, VC.bin, VC.binI, VC.cmpI, VC.arithI, VC.ldv, VC.slv, VC.pickP, VC.holds, VC.chainOf, VC.look, VC.junk, VC.put, VC.eff, VC.callee, VC.pureB, VC.rdK, VC.rdKs, VC.okKs, VC.eqKs, VC.fillL, VC.putL, VC.stW, VC.stOK, VC.mixF, VC.setAll, Nat.reduceAdd, Nat.reduceSub, Nat.reduceMul, if_true, if_false, ↓reduceIte, forall_const, implies_true, reduceCtorEq, ne_eq, Nat.reduceBNe, Nat.reduceBEq, IntKind.signed, Nat.reduceEqDiff, Nat.reduceLeDiff, Nat.reduceLT, eq_self, Int.reduceEq, Int.reduceLT, Int.reduceLE, Int.reduceAdd, Int.reduceSub, VC.regC_nil, VC.regC_cons, VC.regCK_eq, VC.callQ, VC.tailQ, VC.goCall, VC.chStep]
    rw [hd]
    intros
    exact ⟨rfl, hB⟩
  have e2 : (2 < k2) = False := eq_false (by omega)
  by_cases h3 : t1 = t2
  · have e3 := eq_true h3
    have hd : decide (clP k1 t1 i1 k2 t2 i2) = false := decide_eq_false fun hh => hh.2.1 h3
    simp -dsimp (maxSteps := 2000000) only [Fa.F45, rdI_of x0, x0, rdI_of y0, y0, rdI_of x1, x1, rdI_of y1, y1, lx, ly, e1, e2, e3, undef, tu, uf, ul, ur, VC.Now, VC.vc, VC.lib, VC.mapN_drewN, VC.mapB_drewN, VC.regQ, VC.loopK, VC.reg, VC.opP, VC.opS, VC.opZ, VC.nomulB, VC.pv, VC.thenF, VC.blkF, VC.retF, VC.resV, VC.oneV, VC.evo, VC.bin, VC.binI, VC.cmpI, VC.arithI, VC.ldv, VC.slv, VC.pickP, VC.holds, VC.chainOf, VC.look, VC.junk, VC.put, VC.eff, VC.callee, VC.pureB, VC.rdK, VC.rdKs, VC.okKs, VC.eqKs, VC.fillL, VC.putL, VC.stW, VC.stOK, VC.mixF, VC.setAll, Nat.reduceAdd, Nat.reduceSub, Nat.reduceMul, if_true, if_false, ↓reduceIte, forall_const, implies_true, reduceCtorEq, ne_eq, Nat.reduceBNe, Nat.reduceBEq, IntKind.signed, Nat.reduceEqDiff, Nat.reduceLeDiff, Nat.reduceLT, eq_self, Int.reduceEq, Int.reduceLT, Int.reduceLE, Int.reduceAdd, Int.reduceSub, VC.regC_nil, VC.regC_cons, VC.regCK_eq, VC.callQ, VC.tailQ, VC.goCall, VC.chStep]
    rw [hd]
    intros
    exact ⟨rfl, hB⟩
  have e3 := eq_false h3
  by_cases h4 : i1 = i2
  case neg =>
    have e4 := eq_false h4
    have hd : decide (clP k1 t1 i1 k2 t2 i2) = false := decide_eq_false fun hh => h4 hh.2.2.1
    simp -dsimp (maxSteps := 2000000) only [Fa.F45, rdI_of x0, x0, rdI_of y0, y0, rdI_of x1, x1, rdI_of y1, y1, rdI_of x2, x2, rdI_of y2, y2, lx, ly, e1, e2, e3, e4, undef, tu, uf, ul, ur, VC.Now, VC.vc, VC.lib, VC.mapN_drewN, VC.mapB_drewN, VC.regQ, VC.loopK, VC.reg, VC.opP, VC.opS, VC.opZ, VC.nomulB, VC.pv, VC.thenF, VC.blkF, VC.retF, VC.resV, VC.oneV, VC.evo, VC.bin, VC.binI, VC.cmpI, VC.arithI, VC.ldv, VC.slv, VC.pickP, VC.holds, VC.chainOf, VC.look, VC.junk, VC.put, VC.eff, VC.callee, VC.pureB, VC.rdK, VC.rdKs, VC.okKs, VC.eqKs, VC.fillL, VC.putL, VC.stW, VC.stOK, VC.mixF, VC.setAll, Nat.reduceAdd, Nat.reduceSub, Nat.reduceMul, if_true, if_false, ↓reduceIte, forall_const, implies_true, reduceCtorEq, ne_eq, Nat.reduceBNe, Nat.reduceBEq, IntKind.signed, Nat.reduceEqDiff, Nat.reduceLeDiff, Nat.reduceLT, eq_self, Int.reduceEq, Int.reduceLT, Int.reduceLE, Int.reduceAdd, Int.reduceSub, VC.regC_nil, VC.regC_cons, VC.regCK_eq, VC.callQ, VC.tailQ, VC.goCall, VC.chStep]
    rw [hd]
    intros
    exact ⟨rfl, hB⟩
  have e4 := eq_true h4
  have hd : decide (clP k1 t1 i1 k2 t2 i2) = decide (2 < k1 + k2) := by
    by_cases h6 : k1 = 2 ∨ k2 = 2
    · rw [decide_eq_true (show 2 < k1 + k2 by omega)]; exact decide_eq_true ⟨⟨h1, h2⟩, h3, h4, h6⟩
    · rw [decide_eq_false (show ¬ 2 < k1 + k2 by omega)]; exact decide_eq_false fun hh => h6 hh.2.2.2
  simp -dsimp (maxSteps := 2000000) only [Fa.F45, rdI_of x0, x0, rdI_of y0, y0, rdI_of x1, x1, rdI_of y1, y1, rdI_of x2, x2, rdI_of y2, y2, lx, ly, e1, e2, e3, e4, undef, tu, uf, ul, ur, VC.Now, VC.vc, VC.lib, VC.mapN_drewN, VC.mapB_drewN, VC.regQ, VC.loopK, VC.reg, VC.opP, VC.opS, VC.opZ, VC.nomulB, VC.pv, VC.thenF, VC.blkF, VC.retF, VC.resV, VC.oneV, VC.evo, VC.bin, VC.binI, VC.cmpI, VC.arithI, VC.ldv, VC.slv, VC.pickP, VC.holds, VC.chainOf, VC.look, VC.junk, VC.put, VC.eff, VC.callee, VC.pureB, VC.rdK, VC.rdKs, VC.okKs, VC.eqKs, VC.fillL, VC.putL, VC.stW, VC.stOK, VC.mixF, VC.setAll, Nat.reduceAdd, Nat.reduceSub, Nat.reduceMul, if_true, if_false, ↓reduceIte, forall_const, implies_true, reduceCtorEq, ne_eq, Nat.reduceBNe, Nat.reduceBEq, IntKind.signed, Nat.reduceEqDiff, Nat.reduceLeDiff, Nat.reduceLT, eq_self, Int.reduceEq, Int.reduceLT, Int.reduceLE, Int.reduceAdd, Int.reduceSub, VC.regC_nil, VC.regC_cons, VC.regCK_eq, VC.callQ, VC.tailQ, VC.goCall, VC.chStep]
  rw [hd]
  intros
  exact ⟨fits_i64 (by omega) (by omega), rfl, hB⟩
end Go.Proofs.Ytelfmhiaafkimaa
