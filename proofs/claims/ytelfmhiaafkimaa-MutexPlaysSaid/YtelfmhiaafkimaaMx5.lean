/- One in at a time: what comes is taken. -/
import Derived.Test.YtelfmhiaafkimaaMx2
import Derived.Test.YtelfmhiaafkimaaCmp
namespace Go.Proofs.Ytelfmhiaafkimaa
open Go Go.RowKit Go.VC
set_option linter.unusedSimpArgs false
set_option linter.unusedVariables false
theorem mine_eq (k x : Int) (i j : Nat) : decide (orL [sgn3 k x, sgn3 (i : Int) (j : Int)] < 0) = mineB k i x j := by
  unfold mineB
  show decide ((if sgn3 k x = 0 then (if sgn3 (i : Int) (j : Int) = 0 then (0 : Int) else sgn3 (i : Int) (j : Int)) else sgn3 k x) < 0) = _
  by_cases h1 : k = x
  · rw [if_pos (sgn3_zero.2 h1)]
    by_cases h2 : (i : Int) = j
    · rw [if_pos (sgn3_zero.2 h2)]
      rw [decide_eq_false (by omega), decide_eq_false (by omega)]
    · rw [if_neg (fun hh => h2 (sgn3_zero.1 hh))]
      by_cases h3 : (i : Int) < j
      · rw [decide_eq_true (sgn3_neg.2 h3), decide_eq_true (Or.inr ⟨h1, by omega⟩)]
      · rw [decide_eq_false (fun hh => h3 (sgn3_neg.1 hh)), decide_eq_false (by omega)]
  · rw [if_neg (fun hh => h1 (sgn3_zero.1 hh))]
    by_cases h3 : k < x
    · rw [decide_eq_true (sgn3_neg.2 h3), decide_eq_true (Or.inl h3)]
    · rw [decide_eq_false (fun hh => h3 (sgn3_neg.1 hh)), decide_eq_false (by omega)]
section
variable {B n : Nat} {a : XA} {s : MxS} {v : XV} {w : World}

set_option maxRecDepth 8000 in
set_option maxHeartbeats 8000000 in
theorem take_any (h : Hp B (XObs n a s v) w) (hv : XM n v) {i j : Nat} (hi : i < n) (hj : j < n) (hn : n ≤ 6) (hin : s.inn.length ≤ 10000) (hwy : ∀ a b, (s.way a b).length ≤ 40000) (hc : v.cnt ≤ 40000) (hwl : (s.pr i).waits.length ≤ 5000) (hys : 0 ≤ (s.pr i).yes ∧ (s.pr i).yes ≤ 1000000) :
    Calls Try.prog 100 #[ptrV a.wb, iV i, iV j] w (MxPost B n a s v w 2 (iV (mtake n i j s).1) (mtake n i j s).2) := by
  refine calls_vc (rs := [.tmp 6]) Fa.mix Try.func100 rfl Try.ntmps100 rfl (by kernel_rfl) (Nat.le_of_ble_eq_true rfl) ?_
  (repeat rw [vc_seq]); refine vc_plain _ fun Q hQ => ?_; simp -dsimp (maxSteps := 2000000) only [Fa.F100, VC.Now, VC.vc_skip, VC.vc_ret, VC.vc_exit, VC.vc_block, VC.vc_cond, VC.vc_region, VC.lib, VC.mapN_drewN, VC.mapB_drewN, VC.regQ, VC.loopK, VC.reg, VC.opP, VC.opS, VC.opZ, VC.nomulB, VC.pv, VC.thenF, VC.blkF, VC.retF, VC.resV, VC.oneV, VC.evo, VC.bin, VC.binI, VC.cmpI, VC.arithI, VC.ldv, VC.slv, VC.pickP, VC.holds, VC.chainOf, VC.look, VC.junk, VC.put, VC.eff, VC.callee, VC.pureB, VC.rdK, VC.rdKs, VC.okKs, VC.eqKs, VC.fillL, VC.putL, VC.stW, VC.stOK, VC.mixF, VC.setAll, Nat.reduceAdd, Nat.reduceSub, Nat.reduceMul, if_true, if_false, ↓reduceIte, forall_const, implies_true, reduceCtorEq, ne_eq, Nat.reduceBNe, Nat.reduceBEq, IntKind.signed, Nat.reduceEqDiff, Nat.reduceLeDiff, Nat.reduceLT, eq_self, Int.reduceEq, Int.reduceLT, Int.reduceLE, Int.reduceAdd, Int.reduceSub, VC.regC_nil, VC.regC_cons, VC.regCK_eq, VC.callQ, VC.tailQ, VC.goCall, VC.chStep]
  subst hQ
  simp -dsimp (maxSteps := 2000000) only [Fa.F100, VC.Now, VC.vc_skip, VC.vc_ret, VC.vc_exit, VC.vc_block, VC.vc_cond, VC.vc_region, VC.lib, VC.mapN_drewN, VC.mapB_drewN, VC.regQ, VC.loopK, VC.reg, VC.opP, VC.opS, VC.opZ, VC.nomulB, VC.pv, VC.thenF, VC.blkF, VC.retF, VC.resV, VC.oneV, VC.evo, VC.bin, VC.binI, VC.cmpI, VC.arithI, VC.ldv, VC.slv, VC.pickP, VC.holds, VC.chainOf, VC.look, VC.junk, VC.put, VC.eff, VC.callee, VC.pureB, VC.rdK, VC.rdKs, VC.okKs, VC.eqKs, VC.fillL, VC.putL, VC.stW, VC.stOK, VC.mixF, VC.setAll, Nat.reduceAdd, Nat.reduceSub, Nat.reduceMul, if_true, if_false, ↓reduceIte, forall_const, implies_true, reduceCtorEq, ne_eq, Nat.reduceBNe, Nat.reduceBEq, IntKind.signed, Nat.reduceEqDiff, Nat.reduceLeDiff, Nat.reduceLT, eq_self, Int.reduceEq, Int.reduceLT, Int.reduceLE, Int.reduceAdd, Int.reduceSub, VC.regC_nil, VC.regC_cons, VC.regCK_eq, VC.callQ, VC.tailQ, VC.goCall, VC.chStep]
  (repeat rw [vc_seq]); refine vc_plain _ fun Q hQ => ?_; simp -dsimp (maxSteps := 2000000) only [Fa.F100, VC.Now, VC.vc_skip, VC.vc_ret, VC.vc_exit, VC.vc_block, VC.vc_cond, VC.vc_region, VC.lib, VC.mapN_drewN, VC.mapB_drewN, VC.regQ, VC.loopK, VC.reg, VC.opP, VC.opS, VC.opZ, VC.nomulB, VC.pv, VC.thenF, VC.blkF, VC.retF, VC.resV, VC.oneV, VC.evo, VC.bin, VC.binI, VC.cmpI, VC.arithI, VC.ldv, VC.slv, VC.pickP, VC.holds, VC.chainOf, VC.look, VC.junk, VC.put, VC.eff, VC.callee, VC.pureB, VC.rdK, VC.rdKs, VC.okKs, VC.eqKs, VC.fillL, VC.putL, VC.mixF, VC.setAll, Nat.reduceAdd, Nat.reduceSub, Nat.reduceMul, if_true, if_false, ↓reduceIte, forall_const, implies_true, reduceCtorEq, ne_eq, Nat.reduceBNe, Nat.reduceBEq, IntKind.signed, Nat.reduceEqDiff, Nat.reduceLeDiff, Nat.reduceLT, eq_self, Int.reduceEq, Int.reduceLT, Int.reduceLE, Int.reduceAdd, Int.reduceSub, VC.regC_nil, VC.regC_cons, VC.regCK_eq, VC.callQ, VC.tailQ, VC.goCall, VC.chStep]
  obtain ⟨f1, f2, f3⟩ := boxMade w [iV 0, iV 0] [iV j, iV i] 154 rfl (by intro v hv; simp at hv; rcases hv with rfl | rfl <;> rfl)
  refine ⟨f1, ?_⟩
  clear f1
  have h1 := h.below f3
  have sb := h.below_st f3
  have nkb : ¬ foot (XObs n a s v) w.heap.size := fun hf => by have := (h.foot_lt hf).2; omega
  generalize stW (w.alloc (.cells #[iV 0, iV 0] 154)) ⟨w.heap.size, 0, none⟩ 0 [iV j, iV i] = w1 at f2 sb h1 ⊢
  clear f3
  generalize w.heap.size = kb at f2 nkb ⊢
  have bw : Box w1 a.wb [.slice (some ⟨a.gp, 0, none⟩) n a.gc, .map (some a.mb), v.inV] := h1.get 0 rfl
  have m1 := bw.at (i := 1) rfl
  have hbl := bw.1
  have k0 := f2.at (i := 0) rfl
  have k1 := f2.at (i := 1) rfl
  have hkl := f2.1
  have hij := idx_lt hj hi
  have hkey := EW_ok (i := j) (j := i) (by omega) (by omega)
  have hkm : v.cnt < maxLen := by unfold maxLen; omega
  have hval := hv.val j i hj hi
  have h1w := h1
  rw [XObs_way] at h1w
  have hQ1 : OwnQ w1 3 (v.qv (j * n + i)) ((s.way j i).map iV) := by
    have := h1w.fget hij
    rw [(idx_div hi).1, (idx_div hi).2] at this
    exact this
  have hM1 : MapV Try.prog EW w1 a.mb v.cnt v.M := h1.get 2 rfl
  obtain ⟨Aq, cq, eq⟩ := hQ1.form
  rw [List.length_map] at eq
  obtain ⟨L, hL⟩ : ∃ L, L = (s.way j i).length := ⟨_, rfl⟩
  rw [← hL] at eq
  subst hQ
  simp -dsimp (maxSteps := 2000000) only [Fa.F100, VC.Now, VC.vc_skip, VC.vc_ret, VC.vc_exit, VC.vc_block, VC.vc_cond, VC.vc_region, VC.lib, VC.mapN_drewN, VC.mapB_drewN, VC.regQ, VC.loopK, VC.reg, VC.opP, VC.opS, VC.opZ, VC.nomulB, VC.pv, VC.thenF, VC.blkF, VC.retF, VC.resV, VC.oneV, VC.evo, VC.bin, VC.binI, VC.cmpI, VC.arithI, VC.ldv, VC.slv, VC.pickP, VC.holds, VC.chainOf, VC.look, VC.junk, VC.put, VC.eff, VC.callee, VC.pureB, VC.rdK, VC.rdKs, VC.okKs, VC.eqKs, VC.fillL, VC.putL, VC.stW, VC.stOK, VC.mixF, VC.setAll, Nat.reduceAdd, Nat.reduceSub, Nat.reduceMul, if_true, if_false, ↓reduceIte, forall_const, implies_true, reduceCtorEq, ne_eq, Nat.reduceBNe, Nat.reduceBEq, IntKind.signed, Nat.reduceEqDiff, Nat.reduceLeDiff, Nat.reduceLT, eq_self, Int.reduceEq, Int.reduceLT, Int.reduceLE, Int.reduceAdd, Int.reduceSub, VC.regC_nil, VC.regC_cons, VC.regCK_eq, VC.callQ, VC.tailQ, VC.goCall, VC.chStep]
  (repeat rw [vc_seq]); refine vc_plain _ fun Q hQ => ?_; simp -dsimp (maxSteps := 2000000) only [Fa.F100, VC.Now, VC.vc_skip, VC.vc_ret, VC.vc_exit, VC.vc_block, VC.vc_cond, VC.vc_region, VC.lib, VC.mapN_drewN, VC.mapB_drewN, VC.regQ, VC.loopK, VC.reg, VC.opP, VC.opS, VC.opZ, VC.nomulB, VC.pv, VC.thenF, VC.blkF, VC.retF, VC.resV, VC.oneV, VC.evo, VC.bin, VC.binI, VC.cmpI, VC.arithI, VC.ldv, VC.slv, VC.pickP, VC.holds, VC.chainOf, VC.look, VC.junk, VC.put, VC.eff, VC.callee, VC.pureB, VC.rdK, VC.rdKs, VC.okKs, VC.eqKs, VC.fillL, VC.putL, VC.stW, VC.stOK, VC.mixF, VC.setAll, Nat.reduceAdd, Nat.reduceSub, Nat.reduceMul, if_true, if_false, ↓reduceIte, forall_const, implies_true, reduceCtorEq, ne_eq, Nat.reduceBNe, Nat.reduceBEq, IntKind.signed, Nat.reduceEqDiff, Nat.reduceLeDiff, Nat.reduceLT, eq_self, Int.reduceEq, Int.reduceLT, Int.reduceLE, Int.reduceAdd, Int.reduceSub, VC.regC_nil, VC.regC_cons, VC.regCK_eq, VC.callQ, VC.tailQ, VC.goCall, VC.chStep]
  refine WP_held 99 (fun _ => False) (.take 0 (.take 1 (.take 2 (.take 3 (.take 4 (.one 5 (.one 6 (.take 7 .done)))))))) Fa.mix (by kernel_rfl) rfl ?_
  simp -dsimp (maxSteps := 2000000) only [VC.heldF_done, VC.heldF_last, VC.planF_done, VC.planF_take, VC.planF_one, VC.planF_two, VC.planK_eq, VC.heldF_take, VC.heldF_one, VC.heldF_two, VC.heldF_twoL, VC.heldK_eq, VC.okRd, Fa.F100, rdM_of m1, m1, rdI_of k0, k0, rdI_of k1, k1, hbl, hkl, VC.Now, VC.vc, VC.lib, VC.mapN_drewN, VC.mapB_drewN, VC.regQ, VC.loopK, VC.reg, VC.opP, VC.opS, VC.opZ, VC.nomulB, VC.pv, VC.thenF, VC.blkF, VC.retF, VC.resV, VC.oneV, VC.evo, VC.bin, VC.binI, VC.cmpI, VC.arithI, VC.ldv, VC.slv, VC.pickP, VC.holds, VC.chainOf, VC.look, VC.junk, VC.put, VC.eff, VC.callee, VC.pureB, VC.rdK, VC.rdKs, VC.okKs, VC.eqKs, VC.fillL, VC.putL, VC.stW, VC.stOK, VC.mixF, VC.setAll, Nat.reduceAdd, Nat.reduceSub, Nat.reduceMul, if_true, if_false, ↓reduceIte, forall_const, implies_true, reduceCtorEq, ne_eq, Nat.reduceBNe, Nat.reduceBEq, IntKind.signed, Nat.reduceEqDiff, Nat.reduceLeDiff, Nat.reduceLT, eq_self, Int.reduceEq, Int.reduceLT, Int.reduceLE, Int.reduceAdd, Int.reduceSub, VC.regC_nil, VC.regC_cons, VC.regCK_eq, VC.callQ, VC.tailQ, VC.goCall, VC.chStep]
  refine OPW_lookV (x := ((j : Int), (i : Int))) (z := nilS) ((h1.drewN 1).get 2 rfl : MapV Try.prog EW (w1.drewN 1) a.mb v.cnt v.M) rfl (by kernel_rfl) rfl rfl hkey hval ?_
  rw [eq]
  simp -dsimp (maxSteps := 2000000) only [VC.heldF_done, VC.heldF_last, VC.planF_done, VC.planF_take, VC.planF_one, VC.planF_two, VC.planK_eq, VC.heldF_take, VC.heldF_one, VC.heldF_two, VC.heldF_twoL, VC.heldK_eq, VC.okRd, Fa.F100, rdM_of m1, m1, rdI_of k0, k0, rdI_of k1, k1, hbl, hkl, VC.Now, VC.vc, VC.lib, VC.mapN_drewN, VC.mapB_drewN, VC.regQ, VC.loopK, VC.reg, VC.opP, VC.opS, VC.opZ, VC.nomulB, VC.pv, VC.thenF, VC.blkF, VC.retF, VC.resV, VC.oneV, VC.evo, VC.bin, VC.binI, VC.cmpI, VC.arithI, VC.ldv, VC.slv, VC.pickP, VC.holds, VC.chainOf, VC.look, VC.junk, VC.put, VC.eff, VC.callee, VC.pureB, VC.rdK, VC.rdKs, VC.okKs, VC.eqKs, VC.fillL, VC.putL, VC.stW, VC.stOK, VC.mixF, VC.setAll, Nat.reduceAdd, Nat.reduceSub, Nat.reduceMul, if_true, if_false, ↓reduceIte, forall_const, implies_true, reduceCtorEq, ne_eq, Nat.reduceBNe, Nat.reduceBEq, IntKind.signed, Nat.reduceEqDiff, Nat.reduceLeDiff, Nat.reduceLT, eq_self, Int.reduceEq, Int.reduceLT, Int.reduceLE, Int.reduceAdd, Int.reduceSub, VC.regC_nil, VC.regC_cons, VC.regCK_eq, VC.callQ, VC.tailQ, VC.goCall, VC.chStep]
  have agf : Agree (fun _ => False) w1 (w1.drewN 1) := Agree.of_below (below_drewN (Below.refl _ w1) 1)
  have hB1 : St B (XObs n a s v) w (XObs n a s v) (w1.drewN 1) := sb.drewN 1
  cases hw : s.way j i with
  | nil =>
    have hs : mtake n i j s = (5, s) := by unfold mtake; rw [hw]
    have e0 : ((L : Int) = 0) = True := eq_true (by rw [hL, hw]; rfl)
    refine ⟨agf, agf, ?_⟩
    subst hQ
    simp -dsimp (maxSteps := 2000000) only [Fa.F100, e0, VC.Now, VC.vc, VC.lib, VC.mapN_drewN, VC.mapB_drewN, VC.regQ, VC.loopK, VC.reg, VC.opP, VC.opS, VC.opZ, VC.nomulB, VC.pv, VC.thenF, VC.blkF, VC.retF, VC.resV, VC.oneV, VC.evo, VC.bin, VC.binI, VC.cmpI, VC.arithI, VC.ldv, VC.slv, VC.pickP, VC.holds, VC.chainOf, VC.look, VC.junk, VC.put, VC.eff, VC.callee, VC.pureB, VC.rdK, VC.rdKs, VC.okKs, VC.eqKs, VC.fillL, VC.putL, VC.stW, VC.stOK, VC.mixF, VC.setAll, Nat.reduceAdd, Nat.reduceSub, Nat.reduceMul, if_true, if_false, ↓reduceIte, forall_const, implies_true, reduceCtorEq, ne_eq, Nat.reduceBNe, Nat.reduceBEq, IntKind.signed, Nat.reduceEqDiff, Nat.reduceLeDiff, Nat.reduceLT, eq_self, Int.reduceEq, Int.reduceLT, Int.reduceLE, Int.reduceAdd, Int.reduceSub, VC.regC_nil, VC.regC_cons, VC.regCK_eq, VC.callQ, VC.tailQ, VC.goCall, VC.chStep]
    rw [hs]
    exact ⟨rfl, v, hB1, hv, Nat.le_add_right _ _⟩
  | cons x q =>
    have hL1 : L = q.length + 1 := by rw [hL, hw]; rfl
    have e0 : ((L : Int) = 0) = False := eq_false (by omega)
    rw [hw] at hQ1
    refine ⟨agf, agf, ?_⟩
    subst hQ
    have h2 := h1.drewN 1
    have f3 := f2.below (below_drewN (Below.refl _ w1) 1)
    have hQ2 : OwnQ (w1.drewN 1) 3 (v.qv (j * n + i)) ((x :: q).map iV) := hQ1
    clear sb h1 agf bw
    generalize w1.drewN 1 = w2 at h2 f3 hQ2 hB1 ⊢
    have bw : Box w2 a.wb [.slice (some ⟨a.gp, 0, none⟩) n a.gc, .map (some a.mb), v.inV] := h2.get 0 rfl
    have m1 := bw.at (i := 1) rfl
    have hbl := bw.1
    have k0 := f3.at (i := 0) rfl
    have k1 := f3.at (i := 1) rfl
    have hkl := f3.1
    simp -dsimp (maxSteps := 2000000) only [Fa.F100, e0, VC.Now, VC.vc_skip, VC.vc_ret, VC.vc_exit, VC.vc_block, VC.vc_cond, VC.vc_region, VC.lib, VC.mapN_drewN, VC.mapB_drewN, VC.regQ, VC.loopK, VC.reg, VC.opP, VC.opS, VC.opZ, VC.nomulB, VC.pv, VC.thenF, VC.blkF, VC.retF, VC.resV, VC.oneV, VC.evo, VC.bin, VC.binI, VC.cmpI, VC.arithI, VC.ldv, VC.slv, VC.pickP, VC.holds, VC.chainOf, VC.look, VC.junk, VC.put, VC.eff, VC.callee, VC.pureB, VC.rdK, VC.rdKs, VC.okKs, VC.eqKs, VC.fillL, VC.putL, VC.stW, VC.stOK, VC.mixF, VC.setAll, Nat.reduceAdd, Nat.reduceSub, Nat.reduceMul, if_true, if_false, ↓reduceIte, forall_const, implies_true, reduceCtorEq, ne_eq, Nat.reduceBNe, Nat.reduceBEq, IntKind.signed, Nat.reduceEqDiff, Nat.reduceLeDiff, Nat.reduceLT, eq_self, Int.reduceEq, Int.reduceLT, Int.reduceLE, Int.reduceAdd, Int.reduceSub, VC.regC_nil, VC.regC_cons, VC.regCK_eq, VC.callQ, VC.tailQ, VC.goCall, VC.chStep]
    (repeat rw [vc_seq]); refine vc_plain _ fun Q hQ => ?_; simp -dsimp (maxSteps := 2000000) only [Fa.F100, e0, VC.Now, VC.vc_skip, VC.vc_ret, VC.vc_exit, VC.vc_block, VC.vc_cond, VC.vc_region, VC.lib, VC.mapN_drewN, VC.mapB_drewN, VC.regQ, VC.loopK, VC.reg, VC.opP, VC.opS, VC.opZ, VC.nomulB, VC.pv, VC.thenF, VC.blkF, VC.retF, VC.resV, VC.oneV, VC.evo, VC.bin, VC.binI, VC.cmpI, VC.arithI, VC.ldv, VC.slv, VC.pickP, VC.holds, VC.chainOf, VC.look, VC.junk, VC.put, VC.eff, VC.callee, VC.pureB, VC.rdK, VC.rdKs, VC.okKs, VC.eqKs, VC.fillL, VC.putL, VC.stW, VC.stOK, VC.mixF, VC.setAll, Nat.reduceAdd, Nat.reduceSub, Nat.reduceMul, if_true, if_false, ↓reduceIte, forall_const, implies_true, reduceCtorEq, ne_eq, Nat.reduceBNe, Nat.reduceBEq, IntKind.signed, Nat.reduceEqDiff, Nat.reduceLeDiff, Nat.reduceLT, eq_self, Int.reduceEq, Int.reduceLT, Int.reduceLE, Int.reduceAdd, Int.reduceSub, VC.regC_nil, VC.regC_cons, VC.regCK_eq, VC.callQ, VC.tailQ, VC.goCall, VC.chStep]
    obtain ⟨gq, oq, cap, eq2, hcap, hgq, hcell, _⟩ := hQ2.some (by simp)
    have e3 := eq.symm.trans eq2
    injection e3 with e4 _ e6
    subst e4
    subst e6
    have t0 : w2.cell? ⟨gq, oq, none⟩ = some (iV x) := hcell 0 _ rfl
    have hkey2 := hkey
    refine WP_held 99 (fun _ => False) (.take 0 (.take 1 (.take 2 (.take 3 (.take 4 (.one 5 (.take 6 (.take 7 (.take 8 .done))))))))) Fa.mix (by kernel_rfl) rfl ?_
    simp -dsimp (maxSteps := 2000000) only [VC.heldF_done, VC.heldF_last, VC.planF_done, VC.planF_take, VC.planF_one, VC.planF_two, VC.planK_eq, VC.heldF_take, VC.heldF_one, VC.heldF_two, VC.heldF_twoL, VC.heldK_eq, VC.okRd, Fa.F100, rdM_of m1, m1, rdI_of k0, k0, rdI_of k1, k1, hbl, hkl, VC.Now, VC.vc, VC.lib, VC.mapN_drewN, VC.mapB_drewN, VC.regQ, VC.loopK, VC.reg, VC.opP, VC.opS, VC.opZ, VC.nomulB, VC.pv, VC.thenF, VC.blkF, VC.retF, VC.resV, VC.oneV, VC.evo, VC.bin, VC.binI, VC.cmpI, VC.arithI, VC.ldv, VC.slv, VC.pickP, VC.holds, VC.chainOf, VC.look, VC.junk, VC.put, VC.eff, VC.callee, VC.pureB, VC.rdK, VC.rdKs, VC.okKs, VC.eqKs, VC.fillL, VC.putL, VC.stW, VC.stOK, VC.mixF, VC.setAll, Nat.reduceAdd, Nat.reduceSub, Nat.reduceMul, if_true, if_false, ↓reduceIte, forall_const, implies_true, reduceCtorEq, ne_eq, Nat.reduceBNe, Nat.reduceBEq, IntKind.signed, Nat.reduceEqDiff, Nat.reduceLeDiff, Nat.reduceLT, eq_self, Int.reduceEq, Int.reduceLT, Int.reduceLE, Int.reduceAdd, Int.reduceSub, VC.regC_nil, VC.regC_cons, VC.regCK_eq, VC.callQ, VC.tailQ, VC.goCall, VC.chStep]
    refine OPW_lookV (x := ((j : Int), (i : Int))) (z := nilS) ((h2.drewN 1).get 2 rfl : MapV Try.prog EW (w2.drewN 1) a.mb v.cnt v.M) rfl (by kernel_rfl) rfl rfl hkey hval ?_
    rw [eq]
    simp -dsimp (maxSteps := 2000000) only [VC.heldF_done, VC.heldF_last, VC.planF_done, VC.planF_take, VC.planF_one, VC.planF_two, VC.planK_eq, VC.heldF_take, VC.heldF_one, VC.heldF_two, VC.heldF_twoL, VC.heldK_eq, VC.okRd, Fa.F100, rdM_of m1, m1, rdI_of k0, k0, rdI_of k1, k1, hbl, hkl, rdI_of t0, t0, hgq, Int.toNat_natCast, Nat.add_zero, VC.Now, VC.vc, VC.lib, VC.mapN_drewN, VC.mapB_drewN, VC.regQ, VC.loopK, VC.reg, VC.opP, VC.opS, VC.opZ, VC.nomulB, VC.pv, VC.thenF, VC.blkF, VC.retF, VC.resV, VC.oneV, VC.evo, VC.bin, VC.binI, VC.cmpI, VC.arithI, VC.ldv, VC.slv, VC.pickP, VC.holds, VC.chainOf, VC.look, VC.junk, VC.put, VC.eff, VC.callee, VC.pureB, VC.rdK, VC.rdKs, VC.okKs, VC.eqKs, VC.fillL, VC.putL, VC.stW, VC.stOK, VC.mixF, VC.setAll, Nat.reduceAdd, Nat.reduceSub, Nat.reduceMul, if_true, if_false, ↓reduceIte, forall_const, implies_true, reduceCtorEq, ne_eq, Nat.reduceBNe, Nat.reduceBEq, IntKind.signed, Nat.reduceEqDiff, Nat.reduceLeDiff, Nat.reduceLT, eq_self, Int.reduceEq, Int.reduceLT, Int.reduceLE, Int.reduceAdd, Int.reduceSub, VC.regC_nil, VC.regC_cons, VC.regCK_eq, VC.callQ, VC.tailQ, VC.goCall, VC.chStep]
    have agf2 : Agree (fun _ => False) w2 (w2.drewN 1) := Agree.of_below (below_drewN (Below.refl _ w2) 1)
    refine ⟨agf2, by omega, ?_⟩
    subst hQ
    have h3 := h2.drewN 1
    have f4 := f3.below (below_drewN (Below.refl _ w2) 1)
    have hQ3 : OwnQ (w2.drewN 1) 3 (v.qv (j * n + i)) ((x :: q).map iV) := hQ2
    have hB2 := hB1.drewN 1
    clear h2 f3 hQ2 hB1 agf2 bw m1 hbl k0 k1 hkl t0 hcell hgq hQ1 f2
    generalize w2.drewN 1 = w3 at h3 f4 hQ3 hB2 ⊢
    have bw : Box w3 a.wb [.slice (some ⟨a.gp, 0, none⟩) n a.gc, .map (some a.mb), v.inV] := h3.get 0 rfl
    have m1 := bw.at (i := 1) rfl
    have hbl := bw.1
    have k0 := f4.at (i := 0) rfl
    have k1 := f4.at (i := 1) rfl
    have hkl := f4.1
    simp -dsimp (maxSteps := 2000000) only [Fa.F100, VC.Now, VC.vc_skip, VC.vc_ret, VC.vc_exit, VC.vc_block, VC.vc_cond, VC.vc_region, VC.lib, VC.mapN_drewN, VC.mapB_drewN, VC.regQ, VC.loopK, VC.reg, VC.opP, VC.opS, VC.opZ, VC.nomulB, VC.pv, VC.thenF, VC.blkF, VC.retF, VC.resV, VC.oneV, VC.evo, VC.bin, VC.binI, VC.cmpI, VC.arithI, VC.ldv, VC.slv, VC.pickP, VC.holds, VC.chainOf, VC.look, VC.junk, VC.put, VC.eff, VC.callee, VC.pureB, VC.rdK, VC.rdKs, VC.okKs, VC.eqKs, VC.fillL, VC.putL, VC.stW, VC.stOK, VC.mixF, VC.setAll, Nat.reduceAdd, Nat.reduceSub, Nat.reduceMul, if_true, if_false, ↓reduceIte, forall_const, implies_true, reduceCtorEq, ne_eq, Nat.reduceBNe, Nat.reduceBEq, IntKind.signed, Nat.reduceEqDiff, Nat.reduceLeDiff, Nat.reduceLT, eq_self, Int.reduceEq, Int.reduceLT, Int.reduceLE, Int.reduceAdd, Int.reduceSub, VC.regC_nil, VC.regC_cons, VC.regCK_eq, VC.callQ, VC.tailQ, VC.goCall, VC.chStep]
    (repeat rw [vc_seq]); refine vc_plain _ fun Q hQ => ?_; simp -dsimp (maxSteps := 2000000) only [Fa.F100, VC.Now, VC.vc_skip, VC.vc_ret, VC.vc_exit, VC.vc_block, VC.vc_cond, VC.vc_region, VC.lib, VC.mapN_drewN, VC.mapB_drewN, VC.regQ, VC.loopK, VC.reg, VC.opP, VC.opS, VC.opZ, VC.nomulB, VC.pv, VC.thenF, VC.blkF, VC.retF, VC.resV, VC.oneV, VC.evo, VC.bin, VC.binI, VC.cmpI, VC.arithI, VC.ldv, VC.slv, VC.pickP, VC.holds, VC.chainOf, VC.look, VC.junk, VC.put, VC.eff, VC.callee, VC.pureB, VC.rdK, VC.rdKs, VC.okKs, VC.eqKs, VC.fillL, VC.putL, VC.stW, VC.stOK, VC.mixF, VC.setAll, Nat.reduceAdd, Nat.reduceSub, Nat.reduceMul, if_true, if_false, ↓reduceIte, forall_const, implies_true, reduceCtorEq, ne_eq, Nat.reduceBNe, Nat.reduceBEq, IntKind.signed, Nat.reduceEqDiff, Nat.reduceLeDiff, Nat.reduceLT, eq_self, Int.reduceEq, Int.reduceLT, Int.reduceLE, Int.reduceAdd, Int.reduceSub, VC.regC_nil, VC.regC_cons, VC.regCK_eq, VC.callQ, VC.tailQ, VC.goCall, VC.chStep]
    refine WP_held 12 (fun _ => False) (.take 0 (.take 1 (.take 2 (.take 3 (.take 4 (.take 5 (.take 6 (.take 7 (.take 8 (.take 9 (.one 10 (.take 11 (.one 12 .done))))))))))))) Fa.mix (by kernel_rfl) rfl ?_
    simp -dsimp (maxSteps := 2000000) only [VC.heldF_done, VC.heldF_last, VC.planF_done, VC.planF_take, VC.planF_one, VC.planF_two, VC.planK_eq, VC.heldF_take, VC.heldF_one, VC.heldF_two, VC.heldF_twoL, VC.heldK_eq, VC.okRd, Fa.F100, rdM_of m1, m1, rdI_of k0, k0, rdI_of k1, k1, hbl, hkl, VC.Now, VC.vc, VC.lib, VC.mapN_drewN, VC.mapB_drewN, VC.regQ, VC.loopK, VC.reg, VC.opP, VC.opS, VC.opZ, VC.nomulB, VC.pv, VC.thenF, VC.blkF, VC.retF, VC.resV, VC.oneV, VC.evo, VC.bin, VC.binI, VC.cmpI, VC.arithI, VC.ldv, VC.slv, VC.pickP, VC.holds, VC.chainOf, VC.look, VC.junk, VC.put, VC.eff, VC.callee, VC.pureB, VC.rdK, VC.rdKs, VC.okKs, VC.eqKs, VC.fillL, VC.putL, VC.stW, VC.stOK, VC.mixF, VC.setAll, Nat.reduceAdd, Nat.reduceSub, Nat.reduceMul, if_true, if_false, ↓reduceIte, forall_const, implies_true, reduceCtorEq, ne_eq, Nat.reduceBNe, Nat.reduceBEq, IntKind.signed, Nat.reduceEqDiff, Nat.reduceLeDiff, Nat.reduceLT, eq_self, Int.reduceEq, Int.reduceLT, Int.reduceLE, Int.reduceAdd, Int.reduceSub, VC.regC_nil, VC.regC_cons, VC.regCK_eq, VC.callQ, VC.tailQ, VC.goCall, VC.chStep]
    refine OPW_lookV (x := ((j : Int), (i : Int))) (z := nilS) ((h3.drewN 1).get 2 rfl : MapV Try.prog EW (w3.drewN 1) a.mb v.cnt v.M) rfl (by kernel_rfl) rfl rfl hkey hval ?_
    rw [eq]
    simp -dsimp (maxSteps := 2000000) only [VC.heldF_done, VC.heldF_last, VC.planF_done, VC.planF_take, VC.planF_one, VC.planF_two, VC.planK_eq, VC.heldF_take, VC.heldF_one, VC.heldF_two, VC.heldF_twoL, VC.heldK_eq, VC.okRd, Fa.F100, rdM_of m1, m1, rdI_of k0, k0, rdI_of k1, k1, hbl, hkl, VC.Now, VC.vc, VC.lib, VC.mapN_drewN, VC.mapB_drewN, VC.regQ, VC.loopK, VC.reg, VC.opP, VC.opS, VC.opZ, VC.nomulB, VC.pv, VC.thenF, VC.blkF, VC.retF, VC.resV, VC.oneV, VC.evo, VC.bin, VC.binI, VC.cmpI, VC.arithI, VC.ldv, VC.slv, VC.pickP, VC.holds, VC.chainOf, VC.look, VC.junk, VC.put, VC.eff, VC.callee, VC.pureB, VC.rdK, VC.rdKs, VC.okKs, VC.eqKs, VC.fillL, VC.putL, VC.stW, VC.stOK, VC.mixF, VC.setAll, Nat.reduceAdd, Nat.reduceSub, Nat.reduceMul, if_true, if_false, ↓reduceIte, forall_const, implies_true, reduceCtorEq, ne_eq, Nat.reduceBNe, Nat.reduceBEq, IntKind.signed, Nat.reduceEqDiff, Nat.reduceLeDiff, Nat.reduceLT, eq_self, Int.reduceEq, Int.reduceLT, Int.reduceLE, Int.reduceAdd, Int.reduceSub, VC.regC_nil, VC.regC_cons, VC.regCK_eq, VC.callQ, VC.tailQ, VC.goCall, VC.chStep]
    have agf3 : Agree (fun _ => False) w3 (w3.drewN 1) := Agree.of_below (below_drewN (Below.refl _ w3) 1)
    refine ⟨agf3, by omega, ?_⟩
    obtain ⟨tv, htv⟩ : ∃ tv, tv = Value.slice (if cq = 1 then some ⟨gq, oq, none⟩ else (some (⟨gq, oq, none⟩ : Addr)).map (·.add 1)) (L - 1) (cq - 1) := ⟨_, rfl⟩
    have hQt : OwnQ (w3.drewN 1) 3 tv (q.map iV) := by
      rw [htv]
      have hh : OwnQ (w3.drewN 1) 3 (.slice (some ⟨gq, oq, none⟩) L cq) (iV x :: q.map iV) := by rw [← eq]; exact hQ3
      exact hh.tail
    have hob : tv.ownBlock = (v.qv (j * n + i)).ownBlock := by
      rw [htv, eq]
      split
      · rfl
      · simp only [Option.map_some, add_mk]; rfl
    refine OPW_updV (x := ((j : Int), (i : Int))) (c := tv) ((h3.drewN 1).get 2 rfl : MapV Try.prog EW (w3.drewN 1) a.mb v.cnt v.M) rfl (by kernel_rfl) rfl rfl (by rw [htv]; rfl) hkey hkm fun w5 hM5 ht5 => ?_
    obtain ⟨c5, hc5⟩ : ∃ c5, c5 = if (v.M ((j : Int), (i : Int))).isSome = true then v.cnt else v.cnt + 1 := ⟨_, rfl⟩
    have hc5' : c5 ≤ v.cnt + 1 := by rw [hc5]; split <;> omega
    rw [← hc5] at hM5
    have h3d := h3.drewN 1
    have hB3 := hB2.drewN 1
    have h3w := h3d
    rw [XObs_way] at h3w
    have stc := Hp.fcut (vs := v.qv) (xs := fun t => (s.way (t / n) (t % n)).map iV) h3w hij hQt hob
    obtain ⟨s2, hs2⟩ : ∃ s2 : MxS, s2 = { s with way := fun a b => if a = j ∧ b = i then q else s.way a b } := ⟨_, rfl⟩
    rw [wayO_upd (v := v) hj hi q tv s2 (fun a b => by rw [hs2])] at stc
    have stc : St B (XObs n a s v) (w3.drewN 1) (XObs n a s2 { v with qv := upd v.qv (j * n + i) tv }) (w3.drewN 1) := by
      rw [XObs_way n a s v, XObs_way n a s2, hs2]
      rw [hs2] at stc
      exact stc
    have st5 := (hB3.trans stc).trans (stc.hp.turned 2 rfl hM5 ht5)
    have st5 : St B (XObs n a s v) w (XObs n a s2 { v with cnt := c5, M := updV v.M ((j : Int), (i : Int)) tv, qv := upd v.qv (j * n + i) tv }) w5 := st5
    have hv5 := hv.upd (c := c5) (u := tv) hj hi
    simp -dsimp (maxSteps := 2000000) only [VC.heldF_done, VC.heldF_last, VC.planF_done, VC.planF_take, VC.planF_one, VC.planF_two, VC.planK_eq, VC.heldF_take, VC.heldF_one, VC.heldF_two, VC.heldF_twoL, VC.heldK_eq, VC.okRd, Fa.F100, rdM_of m1, m1, rdI_of k0, k0, rdI_of k1, k1, hbl, hkl, VC.Now, VC.vc, VC.lib, VC.mapN_drewN, VC.mapB_drewN, VC.regQ, VC.loopK, VC.reg, VC.opP, VC.opS, VC.opZ, VC.nomulB, VC.pv, VC.thenF, VC.blkF, VC.retF, VC.resV, VC.oneV, VC.evo, VC.bin, VC.binI, VC.cmpI, VC.arithI, VC.ldv, VC.slv, VC.pickP, VC.holds, VC.chainOf, VC.look, VC.junk, VC.put, VC.eff, VC.callee, VC.pureB, VC.rdK, VC.rdKs, VC.okKs, VC.eqKs, VC.fillL, VC.putL, VC.stW, VC.stOK, VC.mixF, VC.setAll, Nat.reduceAdd, Nat.reduceSub, Nat.reduceMul, if_true, if_false, ↓reduceIte, forall_const, implies_true, reduceCtorEq, ne_eq, Nat.reduceBNe, Nat.reduceBEq, IntKind.signed, Nat.reduceEqDiff, Nat.reduceLeDiff, Nat.reduceLT, eq_self, Int.reduceEq, Int.reduceLT, Int.reduceLE, Int.reduceAdd, Int.reduceSub, VC.regC_nil, VC.regC_cons, VC.regCK_eq, VC.callQ, VC.tailQ, VC.goCall, VC.chStep]
    clear h3 f4 hQ3 hB2 agf3 hQt hob stc h3d hB3 h3w hM5 ht5 bw m1 hbl k0 k1 hkl hM1 h1w hv
    obtain ⟨v5, hv5e⟩ : ∃ v5 : XV, v5 = { v with cnt := c5, M := updV v.M ((j : Int), (i : Int)) tv, qv := upd v.qv (j * n + i) tv } := ⟨_, rfl⟩
    rw [← hv5e] at st5 hv5
    have hcv : v5.cnt ≤ v.cnt + 1 := by rw [hv5e]; exact hc5'
    have hpr2 : s2.pr = s.pr := by rw [hs2]
    have hin2 : s2.inn = s.inn := by rw [hs2]
    have h5 := st5.hp
    have bw : Box w5 a.wb [.slice (some ⟨a.gp, 0, none⟩) n a.gc, .map (some a.mb), v5.inV] := h5.get 0 rfl
    have m0 := bw.at (i := 0) rfl
    have hbl := bw.1
    have hgl := (h5.get 1 rfl : Box w5 a.gp _).1
    have g0 := ptrF h5 hi
    have bp := procF h5 hi
    rw [hpr2] at bp
    have hpl := bp.1
    by_cases hx : x = 0
    · have ex : (x = 0) = True := eq_true hx
      have hs : mtake n i j s = (0, menter n i { s2 with pr := upd s2.pr i { s2.pr i with yes := (s2.pr i).yes + 1 } }) := by unfold mtake; rw [hw, hs2]; simp only [if_pos hx]
      have p4 := bp.at (i := 4) rfl
      have f4 := bp.soft (i := 4) (by show 4 < 5; omega)
      have k4 : (w5.cell? ⟨a.pb i, 4, none⟩).isSome = true := by rw [p4]; rfl
      have st6 := XObs_proc h5 hi 4 (iV ((s2.pr i).yes + 1)) { s2.pr i with yes := (s2.pr i).yes + 1 } rfl rfl
      subst hQ
      simp -dsimp (maxSteps := 2000000) only [Fa.F100, rdSA_of m0, rdSN_of m0, rdSC_of m0, m0, hbl, rdP_of g0, g0, hgl, rdI_of p4, p4, hpl, f4, k4, ex, Int.toNat_natCast, Nat.zero_add, VC.Now, VC.vc, VC.lib, VC.mapN_drewN, VC.mapB_drewN, VC.regQ, VC.loopK, VC.reg, VC.opP, VC.opS, VC.opZ, VC.nomulB, VC.pv, VC.thenF, VC.blkF, VC.retF, VC.resV, VC.oneV, VC.evo, VC.bin, VC.binI, VC.cmpI, VC.arithI, VC.ldv, VC.slv, VC.pickP, VC.holds, VC.chainOf, VC.look, VC.junk, VC.put, VC.eff, VC.callee, VC.pureB, VC.rdK, VC.rdKs, VC.okKs, VC.eqKs, VC.fillL, VC.putL, VC.stW, VC.stOK, VC.mixF, VC.setAll, Nat.reduceAdd, Nat.reduceSub, Nat.reduceMul, if_true, if_false, ↓reduceIte, forall_const, implies_true, reduceCtorEq, ne_eq, Nat.reduceBNe, Nat.reduceBEq, IntKind.signed, Nat.reduceEqDiff, Nat.reduceLeDiff, Nat.reduceLT, eq_self, Int.reduceEq, Int.reduceLT, Int.reduceLE, Int.reduceAdd, Int.reduceSub, VC.regC_nil, VC.regC_cons, VC.regCK_eq, VC.callQ, VC.tailQ, VC.goCall, VC.chStep]
      refine ⟨⟨by omega, by omega⟩, fits_i64 (by omega) (by omega), ?_⟩
      rw [hpr2] at st6 hs
      have s6 := st5.trans st6
      generalize w5.setCell ⟨a.pb i, 4, none⟩ (.int .i64 ((s.pr i).yes + 1)) = w6 at s6 ⊢
      refine CALL_by (enter_any s6.hp hv5 hi hn (by show s2.inn.length ≤ _; rw [hin2]; exact hin)) fun e w7 hp => ?_
      obtain ⟨he, v7, st7, hv7, hc7⟩ := hp
      refine ⟨_, he, ?_⟩
      rw [VC.Now, VC.seqK_eq]
      simp -dsimp (maxSteps := 2000000) only [Fa.F100, VC.Now, VC.vc, VC.lib, VC.mapN_drewN, VC.mapB_drewN, VC.regQ, VC.loopK, VC.reg, VC.opP, VC.opS, VC.opZ, VC.nomulB, VC.pv, VC.thenF, VC.blkF, VC.retF, VC.resV, VC.oneV, VC.evo, VC.bin, VC.binI, VC.cmpI, VC.arithI, VC.ldv, VC.slv, VC.pickP, VC.holds, VC.chainOf, VC.look, VC.junk, VC.put, VC.eff, VC.callee, VC.pureB, VC.rdK, VC.rdKs, VC.okKs, VC.eqKs, VC.fillL, VC.putL, VC.stW, VC.stOK, VC.mixF, VC.setAll, Nat.reduceAdd, Nat.reduceSub, Nat.reduceMul, if_true, if_false, ↓reduceIte, forall_const, implies_true, reduceCtorEq, ne_eq, Nat.reduceBNe, Nat.reduceBEq, IntKind.signed, Nat.reduceEqDiff, Nat.reduceLeDiff, Nat.reduceLT, eq_self, Int.reduceEq, Int.reduceLT, Int.reduceLE, Int.reduceAdd, Int.reduceSub, VC.regC_nil, VC.regC_cons, VC.regCK_eq, VC.callQ, VC.tailQ, VC.goCall, VC.chStep]
      rw [hs]
      refine ⟨rfl, v7, s6.trans ?_, hv7, by omega⟩
      exact st7
    have ex : (x = 0) = False := eq_false hx
    have p0 := bp.at (i := 0) rfl
    have f0 := bp.soft (i := 0) (by show 0 < 5; omega)
    have k0 : (w5.cell? ⟨a.pb i, 0, none⟩).isSome = true := by rw [p0]; rfl
    have st6 := XObs_proc h5 hi 0 (iV (max (s.pr i).n x)) { s.pr i with n := max (s.pr i).n x } (by rw [hpr2]; rfl) (by rw [hpr2])
    have b6 := bp.set 0 (iV (max (s.pr i).n x))
    obtain ⟨w6, hw6⟩ : ∃ w6, w6 = w5.setCell ⟨a.pb i, 0, none⟩ (.int .i64 (max (s.pr i).n x)) := ⟨_, rfl⟩
    rw [← hw6] at st6 b6
    have hmax : (if (s.pr i).n < x then x else (s.pr i).n) = max (s.pr i).n x := by split <;> omega
    have p2 := b6.at (i := 2) rfl
    have hpl6 := b6.1
    subst hQ
    simp -dsimp (maxSteps := 2000000) only [Fa.F100, rdSA_of m0, rdSN_of m0, rdSC_of m0, m0, hbl, rdP_of g0, g0, hgl, rdI_of p0, p0, hpl, f0, k0, hmax, ← hw6, rdI_of p2, p2, hpl6, ex, Int.toNat_natCast, Nat.zero_add, VC.Now, VC.vc, VC.lib, VC.mapN_drewN, VC.mapB_drewN, VC.regQ, VC.loopK, VC.reg, VC.opP, VC.opS, VC.opZ, VC.nomulB, VC.pv, VC.thenF, VC.blkF, VC.retF, VC.resV, VC.oneV, VC.evo, VC.bin, VC.binI, VC.cmpI, VC.arithI, VC.ldv, VC.slv, VC.pickP, VC.holds, VC.chainOf, VC.look, VC.junk, VC.put, VC.eff, VC.callee, VC.pureB, VC.rdK, VC.rdKs, VC.okKs, VC.eqKs, VC.fillL, VC.putL, VC.stW, VC.stOK, VC.mixF, VC.setAll, Nat.reduceAdd, Nat.reduceSub, Nat.reduceMul, if_true, if_false, ↓reduceIte, forall_const, implies_true, reduceCtorEq, ne_eq, Nat.reduceBNe, Nat.reduceBEq, IntKind.signed, Nat.reduceEqDiff, Nat.reduceLeDiff, Nat.reduceLT, eq_self, Int.reduceEq, Int.reduceLT, Int.reduceLE, Int.reduceAdd, Int.reduceSub, VC.regC_nil, VC.regC_cons, VC.regCK_eq, VC.callQ, VC.tailQ, VC.goCall, VC.chStep]
    refine ⟨⟨by omega, by omega⟩, ?_⟩
    refine CALL_of (compare_any (s.pr i).key x w6) fun w7 hw7 => ?_
    subst hw7
    rw [VC.Now, VC.seqK_eq]
    simp -dsimp (maxSteps := 2000000) only [Fa.F100, VC.Now, VC.vc, VC.lib, VC.mapN_drewN, VC.mapB_drewN, VC.regQ, VC.loopK, VC.reg, VC.opP, VC.opS, VC.opZ, VC.nomulB, VC.pv, VC.thenF, VC.blkF, VC.retF, VC.resV, VC.oneV, VC.evo, VC.bin, VC.binI, VC.cmpI, VC.arithI, VC.ldv, VC.slv, VC.pickP, VC.holds, VC.chainOf, VC.look, VC.junk, VC.put, VC.eff, VC.callee, VC.pureB, VC.rdK, VC.rdKs, VC.okKs, VC.eqKs, VC.fillL, VC.putL, VC.stW, VC.stOK, VC.mixF, VC.setAll, Nat.reduceAdd, Nat.reduceSub, Nat.reduceMul, if_true, if_false, ↓reduceIte, forall_const, implies_true, reduceCtorEq, ne_eq, Nat.reduceBNe, Nat.reduceBEq, IntKind.signed, Nat.reduceEqDiff, Nat.reduceLeDiff, Nat.reduceLT, eq_self, Int.reduceEq, Int.reduceLT, Int.reduceLE, Int.reduceAdd, Int.reduceSub, VC.regC_nil, VC.regC_cons, VC.regCK_eq, VC.callQ, VC.tailQ, VC.goCall, VC.chStep]
    refine CALL_of (compare_any i j w7) fun w8 hw8 => ?_
    subst hw8
    rw [VC.Now, VC.seqK_eq]
    simp -dsimp (maxSteps := 2000000) only [Fa.F100, VC.Now, VC.vc, VC.lib, VC.mapN_drewN, VC.mapB_drewN, VC.regQ, VC.loopK, VC.reg, VC.opP, VC.opS, VC.opZ, VC.nomulB, VC.pv, VC.thenF, VC.blkF, VC.retF, VC.resV, VC.oneV, VC.evo, VC.bin, VC.binI, VC.cmpI, VC.arithI, VC.ldv, VC.slv, VC.pickP, VC.holds, VC.chainOf, VC.look, VC.junk, VC.put, VC.eff, VC.callee, VC.pureB, VC.rdK, VC.rdKs, VC.okKs, VC.eqKs, VC.fillL, VC.putL, VC.stW, VC.stOK, VC.mixF, VC.setAll, Nat.reduceAdd, Nat.reduceSub, Nat.reduceMul, if_true, if_false, ↓reduceIte, forall_const, implies_true, reduceCtorEq, ne_eq, Nat.reduceBNe, Nat.reduceBEq, IntKind.signed, Nat.reduceEqDiff, Nat.reduceLeDiff, Nat.reduceLT, eq_self, Int.reduceEq, Int.reduceLT, Int.reduceLE, Int.reduceAdd, Int.reduceSub, VC.regC_nil, VC.regC_cons, VC.regCK_eq, VC.callQ, VC.tailQ, VC.goCall, VC.chStep]
    have hrd : Rd (w8.alloc (.cells #[.int .i64 (sgn3 (s.pr i).key x), .int .i64 (sgn3 i j)] 3)) (some ⟨w8.heap.size, 0, none⟩) ([sgn3 (s.pr i).key x, sgn3 i j].map (Value.int .i64)) := fun _ => ⟨w8.heap.size, 0, rfl, by simp, fun k hk => by rw [Nat.zero_add, cell_new rfl]; simp⟩
    have h8 := st6.hp.alloc (.cells #[.int .i64 (sgn3 (s.pr i).key x), .int .i64 (sgn3 i j)] 3)
    have s8 := (st5.trans st6).alloc (.cells #[.int .i64 (sgn3 (s.pr i).key x), .int .i64 (sgn3 i j)] 3)
    refine CALL_of (or_any _ 2 [sgn3 (s.pr i).key x, sgn3 i j] _ hrd (by simp)) fun w9 hB9 => ?_
    have h9 := h8.below hB9
    have s9 := s8.trans (h8.below_st hB9)
    rw [VC.Now, VC.seqK_eq]
    have hpr6 : ({ s2 with pr := upd s2.pr i { s.pr i with n := max (s.pr i).n x } } : MxS).pr i = { s.pr i with n := max (s.pr i).n x } := by show upd s2.pr i _ i = _; rw [upd_same]
    have bp9 := procF h9 hi
    rw [hpr6] at bp9
    have p1 := bp9.at (i := 1) rfl
    have hpl9 := bp9.1
    have hmine := mine_eq (s.pr i).key x i j
    have hway2 : ∀ a b, (s2.way a b).length ≤ 40000 := fun a b => by
      rw [hs2]
      show (if a = j ∧ b = i then q else s.way a b).length ≤ _
      split
      · have := hwy j i; rw [hw] at this; simp at this; omega
      · exact hwy a b
    by_cases hA : (s.pr i).how = 2 ∨ ((s.pr i).how = 1 ∧ mineB (s.pr i).key i x j = true)
    · have hs : mtake n i j s = (0, { s2 with pr := upd s.pr i { s.pr i with n := max (s.pr i).n x, waits := (s.pr i).waits ++ [j] } }) := by
        unfold mtake; rw [hw, hs2]; simp only [if_neg hx]; rw [if_pos hA]
      by_cases q2 : (s.pr i).how = 2
      · have e2 := eq_true q2
        have own := waitF h9 hi
        rw [hpr6] at own
        have own : OwnK w9 0 3 1 (s.pr i).waits.length (v5.wv i) (natL (s.pr i).waits) := own
        obtain ⟨Aw, cw, ew, _⟩ := id own
        have p3 := bp9.at (i := 3) rfl
        rw [ew] at p3
        simp -dsimp (maxSteps := 2000000) only [Fa.F100, hmine, rdI_of p1, p1, hpl9, e2, rdSA_of p3, rdSN_of p3, rdSC_of p3, p3, undef, tu, uf, ul, ur, VC.Now, VC.vc, VC.lib, VC.mapN_drewN, VC.mapB_drewN, VC.regQ, VC.loopK, VC.reg, VC.opP, VC.opS, VC.opZ, VC.nomulB, VC.pv, VC.thenF, VC.blkF, VC.retF, VC.resV, VC.oneV, VC.evo, VC.bin, VC.binI, VC.cmpI, VC.arithI, VC.ldv, VC.slv, VC.pickP, VC.holds, VC.chainOf, VC.look, VC.junk, VC.put, VC.eff, VC.callee, VC.pureB, VC.rdK, VC.rdKs, VC.okKs, VC.eqKs, VC.fillL, VC.putL, VC.stW, VC.stOK, VC.mixF, VC.setAll, Nat.reduceAdd, Nat.reduceSub, Nat.reduceMul, if_true, if_false, ↓reduceIte, forall_const, implies_true, reduceCtorEq, ne_eq, Nat.reduceBNe, Nat.reduceBEq, IntKind.signed, Nat.reduceEqDiff, Nat.reduceLeDiff, Nat.reduceLT, eq_self, Int.reduceEq, Int.reduceLT, Int.reduceLE, Int.reduceAdd, Int.reduceSub, VC.regC_nil, VC.regC_cons, VC.regCK_eq, VC.callQ, VC.tailQ, VC.goCall, VC.chStep]
        intro u5
        refine OPW_appK (v := v5.wv i) rfl Fa.apI23 (by rw [ew]; rfl) rfl rfl (by simp [Value.oneCell']) own (Nat.zero_le _) (by omega) (by decide) fun v11 w11 ho11 hg11 hst11 => ?_
        have hnl : natL (s.pr i).waits ++ [.int .i64 (j : Int)] = natL ((s.pr i).waits ++ [j]) := by simp
        rw [hnl] at ho11
        obtain ⟨A11, c11, rfl, _⟩ := id ho11
        have ho11' : OwnK w11 0 3 1 ((s.pr i).waits ++ [j]).length (.slice A11 ((s.pr i).waits.length + 1) c11) (natL ((s.pr i).waits ++ [j])) := by rw [List.length_append]; exact ho11
        have s12 := XObs_wait h9 hi ho11' (Agree.grown hg11 fun g hg => hg) (hst11.imp id fun ⟨g, h1, h2⟩ => fun g' h3 => by rw [h1] at h3; cases h3; exact h2)
        have bp11 : Box w11 (a.pb i) _ := bp9.agree (Agree.grown (X := fun g => (v5.wv i).ownBlock = some g) hg11 fun g hg => hg) (fun hh => by
          have hL : (headO n a { s2 with pr := upd s2.pr i { s.pr i with n := max (s.pr i).n x } } v5 ++ procO n a { s2 with pr := upd s2.pr i { s.pr i with n := max (s.pr i).n x } } v5).length = 4 + n := by simp; omega
          have h9w : Hp B ((headO n a { s2 with pr := upd s2.pr i { s.pr i with n := max (s.pr i).n x } } v5 ++ procO n a { s2 with pr := upd s2.pr i { s.pr i with n := max (s.pr i).n x } } v5) ++ (waitO n { s2 with pr := upd s2.pr i { s.pr i with n := max (s.pr i).n x } } v5 ++ wayO n { s2 with pr := upd s2.pr i { s.pr i with n := max (s.pr i).n x } } v5)) w9 := by rw [List.append_assoc]; exact h9
          have g1 := fam_at (L := headO n a { s2 with pr := upd s2.pr i { s.pr i with n := max (s.pr i).n x } } v5) (N := n) (t := i) (F := fun k => oBox (a.pb k) (mpL ((upd s2.pr i { s.pr i with n := max (s.pr i).n x }) k) (v5.wv k))) (R := waitO n { s2 with pr := upd s2.pr i { s.pr i with n := max (s.pr i).n x } } v5 ++ wayO n { s2 with pr := upd s2.pr i { s.pr i with n := max (s.pr i).n x } } v5) hi
          have g2 := fam_at (L := headO n a { s2 with pr := upd s2.pr i { s.pr i with n := max (s.pr i).n x } } v5 ++ procO n a { s2 with pr := upd s2.pr i { s.pr i with n := max (s.pr i).n x } } v5) (N := n) (t := i) (F := fun k => oOwn 3 1 ((upd s2.pr i { s.pr i with n := max (s.pr i).n x }) k).waits.length (v5.wv k) (natL ((upd s2.pr i { s.pr i with n := max (s.pr i).n x }) k).waits)) (R := wayO n { s2 with pr := upd s2.pr i { s.pr i with n := max (s.pr i).n x } } v5) hi
          rw [← List.append_assoc] at g1
          rw [hL] at g2
          exact h9w.ne (4 + i) (4 + n + i) (by omega) g1 g2 (a.pb i) rfl hh)
        have f3 := bp11.soft (i := 3) (by show 3 < 5; omega)
        have k3 : (w11.cell? ⟨a.pb i, 3, none⟩).isSome = true := by rw [bp11.at (i := 3) rfl]; rfl
        have hp11 := bp11.1
        rw [VC.Now, VC.seqK_eq]
        simp -dsimp (maxSteps := 2000000) only [Fa.F100, f3, k3, hp11, VC.Now, VC.vc, VC.lib, VC.mapN_drewN, VC.mapB_drewN, VC.regQ, VC.loopK, VC.reg, VC.opP, VC.opS, VC.opZ, VC.nomulB, VC.pv, VC.thenF, VC.blkF, VC.retF, VC.resV, VC.oneV, VC.evo, VC.bin, VC.binI, VC.cmpI, VC.arithI, VC.ldv, VC.slv, VC.pickP, VC.holds, VC.chainOf, VC.look, VC.junk, VC.put, VC.eff, VC.callee, VC.pureB, VC.rdK, VC.rdKs, VC.okKs, VC.eqKs, VC.fillL, VC.putL, VC.stW, VC.stOK, VC.mixF, VC.setAll, Nat.reduceAdd, Nat.reduceSub, Nat.reduceMul, if_true, if_false, ↓reduceIte, forall_const, implies_true, reduceCtorEq, ne_eq, Nat.reduceBNe, Nat.reduceBEq, IntKind.signed, Nat.reduceEqDiff, Nat.reduceLeDiff, Nat.reduceLT, eq_self, Int.reduceEq, Int.reduceLT, Int.reduceLE, Int.reduceAdd, Int.reduceSub, VC.regC_nil, VC.regC_cons, VC.regCK_eq, VC.callQ, VC.tailQ, VC.goCall, VC.chStep]
        refine ⟨?_, _, s9.trans ?_, hv5.same (v' := { v5 with wv := upd v5.wv i (.slice A11 ((s.pr i).waits.length + 1) c11) }) rfl rfl, by show v5.cnt ≤ _; omega⟩
        · rw [hs]
        · rw [hs]
          rw [hpr6] at s12
          have e9 : ({ ({ s2 with pr := upd s2.pr i { s.pr i with n := max (s.pr i).n x } } : MxS) with pr := upd (upd s2.pr i { s.pr i with n := max (s.pr i).n x }) i { s.pr i with n := max (s.pr i).n x, waits := (s.pr i).waits ++ [j] } } : MxS) = { s2 with pr := upd s.pr i { s.pr i with n := max (s.pr i).n x, waits := (s.pr i).waits ++ [j] } } := by
            rw [upd_upd, hpr2]
          rw [← e9]
          exact s12
      · have e2 := eq_false q2
        obtain ⟨q3, q4⟩ := hA.resolve_left q2
        have e3 := eq_true q3
        rw [q4] at hmine
        have own := waitF h9 hi
        rw [hpr6] at own
        have own : OwnK w9 0 3 1 (s.pr i).waits.length (v5.wv i) (natL (s.pr i).waits) := own
        obtain ⟨Aw, cw, ew, _⟩ := id own
        have p3 := bp9.at (i := 3) rfl
        rw [ew] at p3
        simp -dsimp (maxSteps := 2000000) only [Fa.F100, hmine, rdI_of p1, p1, hpl9, e2, e3, rdSA_of p3, rdSN_of p3, rdSC_of p3, p3, undef, tu, uf, ul, ur, VC.Now, VC.vc, VC.lib, VC.mapN_drewN, VC.mapB_drewN, VC.regQ, VC.loopK, VC.reg, VC.opP, VC.opS, VC.opZ, VC.nomulB, VC.pv, VC.thenF, VC.blkF, VC.retF, VC.resV, VC.oneV, VC.evo, VC.bin, VC.binI, VC.cmpI, VC.arithI, VC.ldv, VC.slv, VC.pickP, VC.holds, VC.chainOf, VC.look, VC.junk, VC.put, VC.eff, VC.callee, VC.pureB, VC.rdK, VC.rdKs, VC.okKs, VC.eqKs, VC.fillL, VC.putL, VC.stW, VC.stOK, VC.mixF, VC.setAll, Nat.reduceAdd, Nat.reduceSub, Nat.reduceMul, if_true, if_false, ↓reduceIte, forall_const, implies_true, reduceCtorEq, ne_eq, Nat.reduceBNe, Nat.reduceBEq, IntKind.signed, Nat.reduceEqDiff, Nat.reduceLeDiff, Nat.reduceLT, eq_self, Int.reduceEq, Int.reduceLT, Int.reduceLE, Int.reduceAdd, Int.reduceSub, VC.regC_nil, VC.regC_cons, VC.regCK_eq, VC.callQ, VC.tailQ, VC.goCall, VC.chStep]
        intro u5
        refine OPW_appK (v := v5.wv i) rfl Fa.apI23 (by rw [ew]; rfl) rfl rfl (by simp [Value.oneCell']) own (Nat.zero_le _) (by omega) (by decide) fun v11 w11 ho11 hg11 hst11 => ?_
        have hnl : natL (s.pr i).waits ++ [.int .i64 (j : Int)] = natL ((s.pr i).waits ++ [j]) := by simp
        rw [hnl] at ho11
        obtain ⟨A11, c11, rfl, _⟩ := id ho11
        have ho11' : OwnK w11 0 3 1 ((s.pr i).waits ++ [j]).length (.slice A11 ((s.pr i).waits.length + 1) c11) (natL ((s.pr i).waits ++ [j])) := by rw [List.length_append]; exact ho11
        have s12 := XObs_wait h9 hi ho11' (Agree.grown hg11 fun g hg => hg) (hst11.imp id fun ⟨g, h1, h2⟩ => fun g' h3 => by rw [h1] at h3; cases h3; exact h2)
        have bp11 : Box w11 (a.pb i) _ := bp9.agree (Agree.grown (X := fun g => (v5.wv i).ownBlock = some g) hg11 fun g hg => hg) (fun hh => by
          have hL : (headO n a { s2 with pr := upd s2.pr i { s.pr i with n := max (s.pr i).n x } } v5 ++ procO n a { s2 with pr := upd s2.pr i { s.pr i with n := max (s.pr i).n x } } v5).length = 4 + n := by simp; omega
          have h9w : Hp B ((headO n a { s2 with pr := upd s2.pr i { s.pr i with n := max (s.pr i).n x } } v5 ++ procO n a { s2 with pr := upd s2.pr i { s.pr i with n := max (s.pr i).n x } } v5) ++ (waitO n { s2 with pr := upd s2.pr i { s.pr i with n := max (s.pr i).n x } } v5 ++ wayO n { s2 with pr := upd s2.pr i { s.pr i with n := max (s.pr i).n x } } v5)) w9 := by rw [List.append_assoc]; exact h9
          have g1 := fam_at (L := headO n a { s2 with pr := upd s2.pr i { s.pr i with n := max (s.pr i).n x } } v5) (N := n) (t := i) (F := fun k => oBox (a.pb k) (mpL ((upd s2.pr i { s.pr i with n := max (s.pr i).n x }) k) (v5.wv k))) (R := waitO n { s2 with pr := upd s2.pr i { s.pr i with n := max (s.pr i).n x } } v5 ++ wayO n { s2 with pr := upd s2.pr i { s.pr i with n := max (s.pr i).n x } } v5) hi
          have g2 := fam_at (L := headO n a { s2 with pr := upd s2.pr i { s.pr i with n := max (s.pr i).n x } } v5 ++ procO n a { s2 with pr := upd s2.pr i { s.pr i with n := max (s.pr i).n x } } v5) (N := n) (t := i) (F := fun k => oOwn 3 1 ((upd s2.pr i { s.pr i with n := max (s.pr i).n x }) k).waits.length (v5.wv k) (natL ((upd s2.pr i { s.pr i with n := max (s.pr i).n x }) k).waits)) (R := wayO n { s2 with pr := upd s2.pr i { s.pr i with n := max (s.pr i).n x } } v5) hi
          rw [← List.append_assoc] at g1
          rw [hL] at g2
          exact h9w.ne (4 + i) (4 + n + i) (by omega) g1 g2 (a.pb i) rfl hh)
        have f3 := bp11.soft (i := 3) (by show 3 < 5; omega)
        have k3 : (w11.cell? ⟨a.pb i, 3, none⟩).isSome = true := by rw [bp11.at (i := 3) rfl]; rfl
        have hp11 := bp11.1
        rw [VC.Now, VC.seqK_eq]
        simp -dsimp (maxSteps := 2000000) only [Fa.F100, f3, k3, hp11, VC.Now, VC.vc, VC.lib, VC.mapN_drewN, VC.mapB_drewN, VC.regQ, VC.loopK, VC.reg, VC.opP, VC.opS, VC.opZ, VC.nomulB, VC.pv, VC.thenF, VC.blkF, VC.retF, VC.resV, VC.oneV, VC.evo, VC.bin, VC.binI, VC.cmpI, VC.arithI, VC.ldv, VC.slv, VC.pickP, VC.holds, VC.chainOf, VC.look, VC.junk, VC.put, VC.eff, VC.callee, VC.pureB, VC.rdK, VC.rdKs, VC.okKs, VC.eqKs, VC.fillL, VC.putL, VC.stW, VC.stOK, VC.mixF, VC.setAll, Nat.reduceAdd, Nat.reduceSub, Nat.reduceMul, if_true, if_false, ↓reduceIte, forall_const, implies_true, reduceCtorEq, ne_eq, Nat.reduceBNe, Nat.reduceBEq, IntKind.signed, Nat.reduceEqDiff, Nat.reduceLeDiff, Nat.reduceLT, eq_self, Int.reduceEq, Int.reduceLT, Int.reduceLE, Int.reduceAdd, Int.reduceSub, VC.regC_nil, VC.regC_cons, VC.regCK_eq, VC.callQ, VC.tailQ, VC.goCall, VC.chStep]
        refine ⟨?_, _, s9.trans ?_, hv5.same (v' := { v5 with wv := upd v5.wv i (.slice A11 ((s.pr i).waits.length + 1) c11) }) rfl rfl, by show v5.cnt ≤ _; omega⟩
        · rw [hs]
        · rw [hs]
          rw [hpr6] at s12
          have e9 : ({ ({ s2 with pr := upd s2.pr i { s.pr i with n := max (s.pr i).n x } } : MxS) with pr := upd (upd s2.pr i { s.pr i with n := max (s.pr i).n x }) i { s.pr i with n := max (s.pr i).n x, waits := (s.pr i).waits ++ [j] } } : MxS) = { s2 with pr := upd s.pr i { s.pr i with n := max (s.pr i).n x, waits := (s.pr i).waits ++ [j] } } := by
            rw [upd_upd, hpr2]
          rw [← e9]
          exact s12
    · have hs : mtake n i j s = (0, msend i j 0 { s2 with pr := upd s.pr i { s.pr i with n := max (s.pr i).n x } }) := by
        unfold mtake; rw [hw, hs2]; simp only [if_neg hx]; rw [if_neg hA]
      have e2 : ((s.pr i).how = 2) = False := eq_false fun hh => hA (Or.inl hh)
      by_cases q3 : (s.pr i).how = 1
      · have e3 := eq_true q3
        have q4 : mineB (s.pr i).key i x j = false := by
          cases hh : mineB (s.pr i).key i x j with
          | false => rfl
          | true => exact absurd (Or.inr ⟨q3, hh⟩) hA
        rw [q4] at hmine
        simp -dsimp (maxSteps := 2000000) only [Fa.F100, hmine, rdI_of p1, p1, hpl9, e2, e3, undef, tu, uf, ul, ur, VC.Now, VC.vc, VC.lib, VC.mapN_drewN, VC.mapB_drewN, VC.regQ, VC.loopK, VC.reg, VC.opP, VC.opS, VC.opZ, VC.nomulB, VC.pv, VC.thenF, VC.blkF, VC.retF, VC.resV, VC.oneV, VC.evo, VC.bin, VC.binI, VC.cmpI, VC.arithI, VC.ldv, VC.slv, VC.pickP, VC.holds, VC.chainOf, VC.look, VC.junk, VC.put, VC.eff, VC.callee, VC.pureB, VC.rdK, VC.rdKs, VC.okKs, VC.eqKs, VC.fillL, VC.putL, VC.stW, VC.stOK, VC.mixF, VC.setAll, Nat.reduceAdd, Nat.reduceSub, Nat.reduceMul, if_true, if_false, ↓reduceIte, forall_const, implies_true, reduceCtorEq, ne_eq, Nat.reduceBNe, Nat.reduceBEq, IntKind.signed, Nat.reduceEqDiff, Nat.reduceLeDiff, Nat.reduceLT, eq_self, Int.reduceEq, Int.reduceLT, Int.reduceLE, Int.reduceAdd, Int.reduceSub, VC.regC_nil, VC.regC_cons, VC.regCK_eq, VC.callQ, VC.tailQ, VC.goCall, VC.chStep]
        intro u5
        refine CALL_by (send_any h9 hv5 hi hj hn 0 (by have := hway2 i j; show (s2.way i j).length ≤ _; omega) (by omega)) fun e w10 hp => ?_
        obtain ⟨he, v10, s10, hv10, _, _, hc10⟩ := hp
        refine ⟨_, he, ?_⟩
        rw [VC.Now, VC.seqK_eq]
        simp -dsimp (maxSteps := 2000000) only [Fa.F100, VC.Now, VC.vc, VC.lib, VC.mapN_drewN, VC.mapB_drewN, VC.regQ, VC.loopK, VC.reg, VC.opP, VC.opS, VC.opZ, VC.nomulB, VC.pv, VC.thenF, VC.blkF, VC.retF, VC.resV, VC.oneV, VC.evo, VC.bin, VC.binI, VC.cmpI, VC.arithI, VC.ldv, VC.slv, VC.pickP, VC.holds, VC.chainOf, VC.look, VC.junk, VC.put, VC.eff, VC.callee, VC.pureB, VC.rdK, VC.rdKs, VC.okKs, VC.eqKs, VC.fillL, VC.putL, VC.stW, VC.stOK, VC.mixF, VC.setAll, Nat.reduceAdd, Nat.reduceSub, Nat.reduceMul, if_true, if_false, ↓reduceIte, forall_const, implies_true, reduceCtorEq, ne_eq, Nat.reduceBNe, Nat.reduceBEq, IntKind.signed, Nat.reduceEqDiff, Nat.reduceLeDiff, Nat.reduceLT, eq_self, Int.reduceEq, Int.reduceLT, Int.reduceLE, Int.reduceAdd, Int.reduceSub, VC.regC_nil, VC.regC_cons, VC.regCK_eq, VC.callQ, VC.tailQ, VC.goCall, VC.chStep]
        refine ⟨by rw [hs], v10, s9.trans ?_, hv10, by omega⟩
        rw [hs, ← hpr2]
        rw [← hpr2] at s10
        exact s10
      · have e3 := eq_false q3
        simp -dsimp (maxSteps := 2000000) only [Fa.F100, hmine, rdI_of p1, p1, hpl9, e2, e3, undef, tu, uf, ul, ur, VC.Now, VC.vc, VC.lib, VC.mapN_drewN, VC.mapB_drewN, VC.regQ, VC.loopK, VC.reg, VC.opP, VC.opS, VC.opZ, VC.nomulB, VC.pv, VC.thenF, VC.blkF, VC.retF, VC.resV, VC.oneV, VC.evo, VC.bin, VC.binI, VC.cmpI, VC.arithI, VC.ldv, VC.slv, VC.pickP, VC.holds, VC.chainOf, VC.look, VC.junk, VC.put, VC.eff, VC.callee, VC.pureB, VC.rdK, VC.rdKs, VC.okKs, VC.eqKs, VC.fillL, VC.putL, VC.stW, VC.stOK, VC.mixF, VC.setAll, Nat.reduceAdd, Nat.reduceSub, Nat.reduceMul, if_true, if_false, ↓reduceIte, forall_const, implies_true, reduceCtorEq, ne_eq, Nat.reduceBNe, Nat.reduceBEq, IntKind.signed, Nat.reduceEqDiff, Nat.reduceLeDiff, Nat.reduceLT, eq_self, Int.reduceEq, Int.reduceLT, Int.reduceLE, Int.reduceAdd, Int.reduceSub, VC.regC_nil, VC.regC_cons, VC.regCK_eq, VC.callQ, VC.tailQ, VC.goCall, VC.chStep]
        intro u5
        refine CALL_by (send_any h9 hv5 hi hj hn 0 (by have := hway2 i j; show (s2.way i j).length ≤ _; omega) (by omega)) fun e w10 hp => ?_
        obtain ⟨he, v10, s10, hv10, _, _, hc10⟩ := hp
        refine ⟨_, he, ?_⟩
        rw [VC.Now, VC.seqK_eq]
        simp -dsimp (maxSteps := 2000000) only [Fa.F100, VC.Now, VC.vc, VC.lib, VC.mapN_drewN, VC.mapB_drewN, VC.regQ, VC.loopK, VC.reg, VC.opP, VC.opS, VC.opZ, VC.nomulB, VC.pv, VC.thenF, VC.blkF, VC.retF, VC.resV, VC.oneV, VC.evo, VC.bin, VC.binI, VC.cmpI, VC.arithI, VC.ldv, VC.slv, VC.pickP, VC.holds, VC.chainOf, VC.look, VC.junk, VC.put, VC.eff, VC.callee, VC.pureB, VC.rdK, VC.rdKs, VC.okKs, VC.eqKs, VC.fillL, VC.putL, VC.stW, VC.stOK, VC.mixF, VC.setAll, Nat.reduceAdd, Nat.reduceSub, Nat.reduceMul, if_true, if_false, ↓reduceIte, forall_const, implies_true, reduceCtorEq, ne_eq, Nat.reduceBNe, Nat.reduceBEq, IntKind.signed, Nat.reduceEqDiff, Nat.reduceLeDiff, Nat.reduceLT, eq_self, Int.reduceEq, Int.reduceLT, Int.reduceLE, Int.reduceAdd, Int.reduceSub, VC.regC_nil, VC.regC_cons, VC.regCK_eq, VC.callQ, VC.tailQ, VC.goCall, VC.chStep]
        refine ⟨by rw [hs], v10, s9.trans ?_, hv10, by omega⟩
        rw [hs, ← hpr2]
        rw [← hpr2] at s10
        exact s10
end
end Go.Proofs.Ytelfmhiaafkimaa
