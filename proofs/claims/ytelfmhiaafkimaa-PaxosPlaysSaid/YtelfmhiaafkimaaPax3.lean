/- A choice: a voter is asked. -/
import Derived.Test.YtelfmhiaafkimaaPax2
namespace Go.Proofs.Ytelfmhiaafkimaa
open Go Go.RowKit Go.VC
set_option linter.unusedSimpArgs false
set_option linter.unusedVariables false
section
variable {B n t : Nat} {a : PA} {s : PS} {w : World}

set_option maxRecDepth 8000 in
set_option maxHeartbeats 4000000 in
theorem ask_any (h : Hp B (PObs n a s) w) (hok : POK n t s) (ht : t ≤ 120) {i x : Nat} (hi : i < s.k) (hx : x < n) (hn : n ≤ 5) :
    Calls Try.prog 84 #[ptrV a.wb, .int .i64 (s.num i), ptrV (a.pb i), .pointer (some ⟨a.gv, x * 3, none⟩)] w (PPost B n a s w (pask n i x s)) := by
  have h0 : Hp B (PMid n a s i a.vf a.vh s.vt s.fixd s.chosen (s.bal i) (s.bal i).tooks (tookM (s.bal i))) w := h.perm (pmid_start hi)
  have hr : Recs w a.gv n 3 (fun i => vtrC (s.vt i)) := h0.get 1 rfl
  have hgv := hr.1
  have v0 := hr.at (i := x) (j := 0) hx (by omega) rfl
  simp only [Nat.add_zero] at v0
  by_cases q1 : s.num i ≤ (s.vt x).p
  · have e1 := eq_true q1
    have hres : pask n i x s = (6, s) := by unfold pask; rw [if_pos q1]
    refine calls_vc (rs := [.tmp 8]) Fa.mix Try.func84 rfl Try.ntmps84 rfl (by kernel_rfl) (Nat.le_of_ble_eq_true rfl) ?_
    simp -dsimp only [Fa.F84, e1, rdI_of v0, v0, hgv, VC.Now, VC.vc, VC.lib, VC.mapN_drewN, VC.mapB_drewN, VC.regQ, VC.loopK, VC.reg, VC.opP, VC.pv, VC.thenF, VC.blkF, VC.retF, VC.resV, VC.oneV, VC.evo, VC.bin, VC.binI, VC.cmpI, VC.arithI, VC.ldv, VC.slv, VC.pickP, VC.holds, VC.chainOf, VC.look, VC.junk, VC.put, VC.eff, VC.callee, VC.pureB, VC.rdK, VC.rdKs, VC.okKs, VC.eqKs, VC.fillL, VC.putL, VC.stW, VC.stOK, VC.mixF, VC.setAll, Nat.reduceAdd, Nat.reduceSub, Nat.reduceMul, if_true, if_false, ↓reduceIte, forall_const, implies_true, reduceCtorEq, ne_eq, Nat.reduceBNe, Nat.reduceBEq, IntKind.signed, Nat.reduceEqDiff, Nat.reduceLeDiff, Nat.reduceLT, eq_self, Int.reduceEq, Int.reduceLT, Int.reduceLE, Int.reduceAdd, Int.reduceSub, VC.regC_nil, VC.regC_cons, VC.regCK_eq, VC.callQ, VC.tailQ, VC.goCall, VC.chStep]
    exact PPost.same h (Below.refl _ _) hres
  have e1 := eq_false q1
  have f0 := hr.soft (i := x) (j := 0) hx (by omega)
  have k0 : (w.cell? ⟨a.gv, x * 3, none⟩).isSome = true := by rw [v0]; rfl
  simp only [Nat.add_zero] at f0
  refine calls_vc (rs := [.tmp 8]) Fa.mix Try.func84 rfl Try.ntmps84 rfl (by kernel_rfl) (Nat.le_of_ble_eq_true rfl) ?_
  (repeat rw [vc_seq]); refine vc_plain _ fun Q hQ => ?_; simp -dsimp only [Fa.F84, VC.Now, VC.vc_skip, VC.vc_ret, VC.vc_exit, VC.vc_block, VC.vc_cond, VC.vc_region, VC.lib, VC.mapN_drewN, VC.mapB_drewN, VC.regQ, VC.loopK, VC.reg, VC.opP, VC.pv, VC.thenF, VC.blkF, VC.retF, VC.resV, VC.oneV, VC.evo, VC.bin, VC.binI, VC.cmpI, VC.arithI, VC.ldv, VC.slv, VC.pickP, VC.holds, VC.chainOf, VC.look, VC.junk, VC.put, VC.eff, VC.callee, VC.pureB, VC.rdK, VC.rdKs, VC.okKs, VC.eqKs, VC.fillL, VC.putL, VC.stW, VC.stOK, VC.mixF, VC.setAll, Nat.reduceAdd, Nat.reduceSub, Nat.reduceMul, if_true, if_false, ↓reduceIte, forall_const, implies_true, reduceCtorEq, ne_eq, Nat.reduceBNe, Nat.reduceBEq, IntKind.signed, Nat.reduceEqDiff, Nat.reduceLeDiff, Nat.reduceLT, eq_self, Int.reduceEq, Int.reduceLT, Int.reduceLE, Int.reduceAdd, Int.reduceSub, VC.regC_nil, VC.regC_cons, VC.regCK_eq, VC.callQ, VC.tailQ, VC.goCall, VC.chStep]
  subst hQ; simp -dsimp only [VC.Now, VC.vc_skip, VC.vc_ret, VC.vc_exit, VC.vc_block, VC.vc_cond, VC.vc_region, VC.lib, VC.mapN_drewN, VC.mapB_drewN, VC.regQ, VC.loopK, VC.reg, VC.opP, VC.pv, VC.thenF, VC.blkF, VC.retF, VC.resV, VC.oneV, VC.evo, VC.bin, VC.binI, VC.cmpI, VC.arithI, VC.ldv, VC.slv, VC.pickP, VC.holds, VC.chainOf, VC.look, VC.junk, VC.put, VC.eff, VC.callee, VC.pureB, VC.rdK, VC.rdKs, VC.okKs, VC.eqKs, VC.fillL, VC.putL, VC.stW, VC.stOK, VC.mixF, VC.setAll, Nat.reduceAdd, Nat.reduceSub, Nat.reduceMul, if_true, if_false, ↓reduceIte, forall_const, implies_true, reduceCtorEq, ne_eq, Nat.reduceBNe, Nat.reduceBEq, IntKind.signed, Nat.reduceEqDiff, Nat.reduceLeDiff, Nat.reduceLT, eq_self, Int.reduceEq, Int.reduceLT, Int.reduceLE, Int.reduceAdd, Int.reduceSub, VC.regC_nil, VC.regC_cons, VC.regCK_eq, VC.callQ, VC.tailQ, VC.goCall, VC.chStep]; (repeat rw [vc_seq]); refine vc_plain _ fun Q hQ => ?_; simp -dsimp only [Fa.F84, e1, rdI_of v0, v0, hgv, VC.Now, VC.vc_skip, VC.vc_ret, VC.vc_exit, VC.vc_block, VC.vc_cond, VC.vc_region, VC.lib, VC.mapN_drewN, VC.mapB_drewN, VC.regQ, VC.loopK, VC.reg, VC.opP, VC.pv, VC.thenF, VC.blkF, VC.retF, VC.resV, VC.oneV, VC.evo, VC.bin, VC.binI, VC.cmpI, VC.arithI, VC.ldv, VC.slv, VC.pickP, VC.holds, VC.chainOf, VC.look, VC.junk, VC.put, VC.eff, VC.callee, VC.pureB, VC.rdK, VC.rdKs, VC.okKs, VC.eqKs, VC.fillL, VC.putL, VC.stW, VC.stOK, VC.mixF, VC.setAll, Nat.reduceAdd, Nat.reduceSub, Nat.reduceMul, if_true, if_false, ↓reduceIte, forall_const, implies_true, reduceCtorEq, ne_eq, Nat.reduceBNe, Nat.reduceBEq, IntKind.signed, Nat.reduceEqDiff, Nat.reduceLeDiff, Nat.reduceLT, eq_self, Int.reduceEq, Int.reduceLT, Int.reduceLE, Int.reduceAdd, Int.reduceSub, VC.regC_nil, VC.regC_cons, VC.regCK_eq, VC.callQ, VC.tailQ, VC.goCall, VC.chStep]
  subst hQ; simp -dsimp only [VC.Now, VC.vc_skip, VC.vc_ret, VC.vc_exit, VC.vc_block, VC.vc_cond, VC.vc_region, VC.lib, VC.mapN_drewN, VC.mapB_drewN, VC.regQ, VC.loopK, VC.reg, VC.opP, VC.pv, VC.thenF, VC.blkF, VC.retF, VC.resV, VC.oneV, VC.evo, VC.bin, VC.binI, VC.cmpI, VC.arithI, VC.ldv, VC.slv, VC.pickP, VC.holds, VC.chainOf, VC.look, VC.junk, VC.put, VC.eff, VC.callee, VC.pureB, VC.rdK, VC.rdKs, VC.okKs, VC.eqKs, VC.fillL, VC.putL, VC.stW, VC.stOK, VC.mixF, VC.setAll, Nat.reduceAdd, Nat.reduceSub, Nat.reduceMul, if_true, if_false, ↓reduceIte, forall_const, implies_true, reduceCtorEq, ne_eq, Nat.reduceBNe, Nat.reduceBEq, IntKind.signed, Nat.reduceEqDiff, Nat.reduceLeDiff, Nat.reduceLT, eq_self, Int.reduceEq, Int.reduceLT, Int.reduceLE, Int.reduceAdd, Int.reduceSub, VC.regC_nil, VC.regC_cons, VC.regCK_eq, VC.callQ, VC.tailQ, VC.goCall, VC.chStep]; (repeat rw [vc_seq]); refine vc_plain _ fun Q hQ => ?_; simp -dsimp only [Fa.F84, k0, f0, hgv, VC.Now, VC.vc_skip, VC.vc_ret, VC.vc_exit, VC.vc_block, VC.vc_cond, VC.vc_region, VC.lib, VC.mapN_drewN, VC.mapB_drewN, VC.regQ, VC.loopK, VC.reg, VC.opP, VC.pv, VC.thenF, VC.blkF, VC.retF, VC.resV, VC.oneV, VC.evo, VC.bin, VC.binI, VC.cmpI, VC.arithI, VC.ldv, VC.slv, VC.pickP, VC.holds, VC.chainOf, VC.look, VC.junk, VC.put, VC.eff, VC.callee, VC.pureB, VC.rdK, VC.rdKs, VC.okKs, VC.eqKs, VC.fillL, VC.putL, VC.stW, VC.stOK, VC.mixF, VC.setAll, Nat.reduceAdd, Nat.reduceSub, Nat.reduceMul, if_true, if_false, ↓reduceIte, forall_const, implies_true, reduceCtorEq, ne_eq, Nat.reduceBNe, Nat.reduceBEq, IntKind.signed, Nat.reduceEqDiff, Nat.reduceLeDiff, Nat.reduceLT, eq_self, Int.reduceEq, Int.reduceLT, Int.reduceLE, Int.reduceAdd, Int.reduceSub, VC.regC_nil, VC.regC_cons, VC.regCK_eq, VC.callQ, VC.tailQ, VC.goCall, VC.chStep]
  have st1 := h0.setRec (en := vtrC) (P := s.vt) 1 rfl hx (j := 0) (by omega) rfl (v := .int .i64 (s.num i)) (p := ⟨s.num i, (s.vt x).tk⟩) rfl
  simp only [Nat.add_zero] at st1
  generalize w.setCell ⟨a.gv, x * 3, none⟩ (.int .i64 (s.num i)) = w1 at st1 ⊢
  have hvt1 : upd s.vt x ⟨s.num i, (s.vt x).tk⟩ x = ⟨s.num i, (s.vt x).tk⟩ := upd_same _ _ _
  generalize hvt : upd s.vt x ⟨s.num i, (s.vt x).tk⟩ = vt1 at st1 hvt1
  have hh1 := st1.hp
  have bb : Box w1 (a.pb i) (balC (a.tb i) (s.bal i)) := hh1.get 5 rfl
  have b3 := bb.at (i := 4) rfl
  have hbl := bb.1
  cases hf : (s.bal i).fixed with
  | true =>
    have hres : pask n i x s = (0, { s with vt := vt1 }) := by unfold pask; rw [if_neg q1, if_pos hf, hvt]
    rw [hf] at b3
    subst hQ
    simp -dsimp only [Fa.F84, rdB_of b3, b3, hbl, VC.Now, VC.vc, VC.lib, VC.mapN_drewN, VC.mapB_drewN, VC.regQ, VC.loopK, VC.reg, VC.opP, VC.pv, VC.thenF, VC.blkF, VC.retF, VC.resV, VC.oneV, VC.evo, VC.bin, VC.binI, VC.cmpI, VC.arithI, VC.ldv, VC.slv, VC.pickP, VC.holds, VC.chainOf, VC.look, VC.junk, VC.put, VC.eff, VC.callee, VC.pureB, VC.rdK, VC.rdKs, VC.okKs, VC.eqKs, VC.fillL, VC.putL, VC.stW, VC.stOK, VC.mixF, VC.setAll, Nat.reduceAdd, Nat.reduceSub, Nat.reduceMul, if_true, if_false, ↓reduceIte, forall_const, implies_true, reduceCtorEq, ne_eq, Nat.reduceBNe, Nat.reduceBEq, IntKind.signed, Nat.reduceEqDiff, Nat.reduceLeDiff, Nat.reduceLT, eq_self, Int.reduceEq, Int.reduceLT, Int.reduceLE, Int.reduceAdd, Int.reduceSub, VC.regC_nil, VC.regC_cons, VC.regCK_eq, VC.callQ, VC.tailQ, VC.goCall, VC.chStep]
    have e := pmid_end (n := n) (a := a) (s := s) hi (vf := a.vf) (vh := a.vh) (vt := vt1) (fx := s.fixd) (ch := s.chosen) (o := s.bal i)
    rw [upd_self] at e
    rw [hres]
    exact ⟨rfl, a, rfl, rfl, st1.perm (pmid_start hi).symm e⟩
  | false =>
    rw [hf] at b3
    have hr1 : Recs w1 a.gv n 3 (fun j => vtrC (vt1 j)) := hh1.get 1 rfl
    have t1 := hr1.at (i := x) (j := 1) (v := .int .i64 (s.vt x).tk.n) hx (by omega) (by rw [hvt1]; rfl)
    have t2 := hr1.at (i := x) (j := 2) (v := .int .i64 (s.vt x).tk.v) hx (by omega) (by rw [hvt1]; rfl)
    have hg1 := hr1.1
    have b1 := bb.at (i := 1) rfl
    have b2 := bb.at (i := 2) rfl
    have g1 := bb.soft (i := 1) (by show 1 < 6; omega)
    have g2 := bb.soft (i := 2) (by show 2 < 6; omega)
    subst hQ; simp -dsimp only [VC.Now, VC.vc_skip, VC.vc_ret, VC.vc_exit, VC.vc_block, VC.vc_cond, VC.vc_region, VC.lib, VC.mapN_drewN, VC.mapB_drewN, VC.regQ, VC.loopK, VC.reg, VC.opP, VC.pv, VC.thenF, VC.blkF, VC.retF, VC.resV, VC.oneV, VC.evo, VC.bin, VC.binI, VC.cmpI, VC.arithI, VC.ldv, VC.slv, VC.pickP, VC.holds, VC.chainOf, VC.look, VC.junk, VC.put, VC.eff, VC.callee, VC.pureB, VC.rdK, VC.rdKs, VC.okKs, VC.eqKs, VC.fillL, VC.putL, VC.stW, VC.stOK, VC.mixF, VC.setAll, Nat.reduceAdd, Nat.reduceSub, Nat.reduceMul, if_true, if_false, ↓reduceIte, forall_const, implies_true, reduceCtorEq, ne_eq, Nat.reduceBNe, Nat.reduceBEq, IntKind.signed, Nat.reduceEqDiff, Nat.reduceLeDiff, Nat.reduceLT, eq_self, Int.reduceEq, Int.reduceLT, Int.reduceLE, Int.reduceAdd, Int.reduceSub, VC.regC_nil, VC.regC_cons, VC.regCK_eq, VC.callQ, VC.tailQ, VC.goCall, VC.chStep]; (repeat rw [vc_seq]); refine vc_plain _ fun Q hQ => ?_; simp -dsimp only [Fa.F84, rdB_of b3, b3, hbl, VC.Now, VC.vc_skip, VC.vc_ret, VC.vc_exit, VC.vc_block, VC.vc_cond, VC.vc_region, VC.lib, VC.mapN_drewN, VC.mapB_drewN, VC.regQ, VC.loopK, VC.reg, VC.opP, VC.pv, VC.thenF, VC.blkF, VC.retF, VC.resV, VC.oneV, VC.evo, VC.bin, VC.binI, VC.cmpI, VC.arithI, VC.ldv, VC.slv, VC.pickP, VC.holds, VC.chainOf, VC.look, VC.junk, VC.put, VC.eff, VC.callee, VC.pureB, VC.rdK, VC.rdKs, VC.okKs, VC.eqKs, VC.fillL, VC.putL, VC.stW, VC.stOK, VC.mixF, VC.setAll, Nat.reduceAdd, Nat.reduceSub, Nat.reduceMul, if_true, if_false, ↓reduceIte, forall_const, implies_true, reduceCtorEq, ne_eq, Nat.reduceBNe, Nat.reduceBEq, IntKind.signed, Nat.reduceEqDiff, Nat.reduceLeDiff, Nat.reduceLT, eq_self, Int.reduceEq, Int.reduceLT, Int.reduceLE, Int.reduceAdd, Int.reduceSub, VC.regC_nil, VC.regC_cons, VC.regCK_eq, VC.callQ, VC.tailQ, VC.goCall, VC.chStep]
    have hto1 : ∀ b, told1 (s.bal i).best (s.vt x).tk = b → (if (s.bal i).best.n < (s.vt x).tk.n then (s.vt x).tk else (s.bal i).best) = b := fun b h => h
    by_cases q2 : (s.bal i).best.n < (s.vt x).tk.n
    · have e2 := eq_true q2
      subst hQ; simp -dsimp only [VC.Now, VC.vc_skip, VC.vc_ret, VC.vc_exit, VC.vc_block, VC.vc_cond, VC.vc_region, VC.lib, VC.mapN_drewN, VC.mapB_drewN, VC.regQ, VC.loopK, VC.reg, VC.opP, VC.pv, VC.thenF, VC.blkF, VC.retF, VC.resV, VC.oneV, VC.evo, VC.bin, VC.binI, VC.cmpI, VC.arithI, VC.ldv, VC.slv, VC.pickP, VC.holds, VC.chainOf, VC.look, VC.junk, VC.put, VC.eff, VC.callee, VC.pureB, VC.rdK, VC.rdKs, VC.okKs, VC.eqKs, VC.fillL, VC.putL, VC.stW, VC.stOK, VC.mixF, VC.setAll, Nat.reduceAdd, Nat.reduceSub, Nat.reduceMul, if_true, if_false, ↓reduceIte, forall_const, implies_true, reduceCtorEq, ne_eq, Nat.reduceBNe, Nat.reduceBEq, IntKind.signed, Nat.reduceEqDiff, Nat.reduceLeDiff, Nat.reduceLT, eq_self, Int.reduceEq, Int.reduceLT, Int.reduceLE, Int.reduceAdd, Int.reduceSub, VC.regC_nil, VC.regC_cons, VC.regCK_eq, VC.callQ, VC.tailQ, VC.goCall, VC.chStep]; (repeat rw [vc_seq]); refine vc_plain _ fun Q hQ => ?_; simp -dsimp only [Fa.F84, e2, rdI_of t1, t1, rdI_of t2, t2, rdI_of b1, b1, b2, g1, g2, hg1, hbl, VC.Now, VC.vc_skip, VC.vc_ret, VC.vc_exit, VC.vc_block, VC.vc_cond, VC.vc_region, VC.lib, VC.mapN_drewN, VC.mapB_drewN, VC.regQ, VC.loopK, VC.reg, VC.opP, VC.pv, VC.thenF, VC.blkF, VC.retF, VC.resV, VC.oneV, VC.evo, VC.bin, VC.binI, VC.cmpI, VC.arithI, VC.ldv, VC.slv, VC.pickP, VC.holds, VC.chainOf, VC.look, VC.junk, VC.put, VC.eff, VC.callee, VC.pureB, VC.rdK, VC.rdKs, VC.okKs, VC.eqKs, VC.fillL, VC.putL, VC.stW, VC.stOK, VC.mixF, VC.setAll, Nat.reduceAdd, Nat.reduceSub, Nat.reduceMul, if_true, if_false, ↓reduceIte, forall_const, implies_true, reduceCtorEq, ne_eq, Nat.reduceBNe, Nat.reduceBEq, IntKind.signed, Nat.reduceEqDiff, Nat.reduceLeDiff, Nat.reduceLT, eq_self, Int.reduceEq, Int.reduceLT, Int.reduceLE, Int.reduceAdd, Int.reduceSub, VC.regC_nil, VC.regC_cons, VC.regCK_eq, VC.callQ, VC.tailQ, VC.goCall, VC.chStep]
      intro m
      subst hQ
      simp -dsimp only [Fa.F84, e2, rdI_of t1, t1, rdI_of t2, t2, rdI_of b1, b1, b2, g1, g2, hg1, hbl, VC.Now, VC.vc_skip, VC.vc_ret, VC.vc_exit, VC.vc_block, VC.vc_cond, VC.vc_region, VC.lib, VC.mapN_drewN, VC.mapB_drewN, VC.regQ, VC.loopK, VC.reg, VC.opP, VC.pv, VC.thenF, VC.blkF, VC.retF, VC.resV, VC.oneV, VC.evo, VC.bin, VC.binI, VC.cmpI, VC.arithI, VC.ldv, VC.slv, VC.pickP, VC.holds, VC.chainOf, VC.look, VC.junk, VC.put, VC.eff, VC.callee, VC.pureB, VC.rdK, VC.rdKs, VC.okKs, VC.eqKs, VC.fillL, VC.putL, VC.stW, VC.stOK, VC.mixF, VC.setAll, Nat.reduceAdd, Nat.reduceSub, Nat.reduceMul, if_true, if_false, ↓reduceIte, forall_const, implies_true, reduceCtorEq, ne_eq, Nat.reduceBNe, Nat.reduceBEq, IntKind.signed, Nat.reduceEqDiff, Nat.reduceLeDiff, Nat.reduceLT, eq_self, Int.reduceEq, Int.reduceLT, Int.reduceLE, Int.reduceAdd, Int.reduceSub, VC.regC_nil, VC.regC_cons, VC.regCK_eq, VC.callQ, VC.tailQ, VC.goCall, VC.chStep]
      have hta : told1 (s.bal i).best (s.vt x).tk = (s.vt x).tk := if_pos q2
      generalize htb : told1 (s.bal i).best (s.vt x).tk = tb at hto1 hta
      have st2 : St B (PMid n a s i a.vf a.vh s.vt s.fixd s.chosen (s.bal i) (s.bal i).tooks (tookM (s.bal i))) w (PMid n a s i a.vf a.vh vt1 s.fixd s.chosen { s.bal i with best := tb } (s.bal i).tooks (tookM (s.bal i))) (((w1.drewN m).setCell ⟨a.pb i, 1, none⟩ (.int .i64 (s.vt x).tk.n)).setCell ⟨a.pb i, 2, none⟩ (.int .i64 (s.vt x).tk.v)) := by
        have k1 := (st1.drewN m).hp.setBox 5 rfl 1 (.int .i64 (s.vt x).tk.n)
        have k2 := k1.hp.setBox 5 rfl 2 (.int .i64 (s.vt x).tk.v)
        rw [hta]
        exact ((st1.drewN m).trans k1).trans k2
      generalize ((w1.drewN m).setCell ⟨a.pb i, 1, none⟩ (.int .i64 (s.vt x).tk.n)).setCell ⟨a.pb i, 2, none⟩ (.int .i64 (s.vt x).tk.v) = w2 at st2 ⊢
      clear st1 hh1 bb b1 b2 b3 g1 g2 t1 t2 hr1 hbl
      have hh2 := st2.hp
      have bb : Box w2 (a.pb i) (balC (a.tb i) { s.bal i with best := tb }) := hh2.get 5 rfl
      have d3 := bb.at (i := 3) rfl
      have f3 := bb.soft (i := 3) (by show 3 < 6; omega)
      have hbl := bb.1
      have hpr := (hok.bal i hi).2.1
      (repeat rw [vc_seq]); refine vc_plain _ fun Q hQ => ?_; simp -dsimp only [Fa.F84, rdI_of d3, d3, f3, hbl, VC.Now, VC.vc_skip, VC.vc_ret, VC.vc_exit, VC.vc_block, VC.vc_cond, VC.vc_region, VC.lib, VC.mapN_drewN, VC.mapB_drewN, VC.regQ, VC.loopK, VC.reg, VC.opP, VC.pv, VC.thenF, VC.blkF, VC.retF, VC.resV, VC.oneV, VC.evo, VC.bin, VC.binI, VC.cmpI, VC.arithI, VC.ldv, VC.slv, VC.pickP, VC.holds, VC.chainOf, VC.look, VC.junk, VC.put, VC.eff, VC.callee, VC.pureB, VC.rdK, VC.rdKs, VC.okKs, VC.eqKs, VC.fillL, VC.putL, VC.stW, VC.stOK, VC.mixF, VC.setAll, Nat.reduceAdd, Nat.reduceSub, Nat.reduceMul, if_true, if_false, ↓reduceIte, forall_const, implies_true, reduceCtorEq, ne_eq, Nat.reduceBNe, Nat.reduceBEq, IntKind.signed, Nat.reduceEqDiff, Nat.reduceLeDiff, Nat.reduceLT, eq_self, Int.reduceEq, Int.reduceLT, Int.reduceLE, Int.reduceAdd, Int.reduceSub, VC.regC_nil, VC.regC_cons, VC.regCK_eq, VC.callQ, VC.tailQ, VC.goCall, VC.chStep]
      refine ⟨fits_i64 (by omega) (by omega), ?_⟩
      rw [show (((s.bal i).prom : Int) + 1) = (((s.bal i).prom + 1 : Nat) : Int) by omega]
      have st3 := st2.trans (hh2.setBox 5 rfl 3 (.int .i64 (((s.bal i).prom + 1 : Nat) : Int)))
      generalize w2.setCell ⟨a.pb i, 3, none⟩ (.int .i64 (((s.bal i).prom + 1 : Nat) : Int)) = w3 at st3 ⊢
      clear st2 hh2 bb d3 f3 hbl
      have hh3 := st3.hp
      have bb : Box w3 (a.pb i) (balC (a.tb i) { s.bal i with best := tb, prom := (s.bal i).prom + 1 }) := hh3.get 5 rfl
      have d3 := bb.at (i := 3) rfl
      have hbl := bb.1
      subst hQ
      simp -dsimp only [Fa.F84, rdI_of d3, d3, hbl, VC.Now, VC.vc_skip, VC.vc_ret, VC.vc_exit, VC.vc_block, VC.vc_cond, VC.vc_region, VC.lib, VC.mapN_drewN, VC.mapB_drewN, VC.regQ, VC.loopK, VC.reg, VC.opP, VC.pv, VC.thenF, VC.blkF, VC.retF, VC.resV, VC.oneV, VC.evo, VC.bin, VC.binI, VC.cmpI, VC.arithI, VC.ldv, VC.slv, VC.pickP, VC.holds, VC.chainOf, VC.look, VC.junk, VC.put, VC.eff, VC.callee, VC.pureB, VC.rdK, VC.rdKs, VC.okKs, VC.eqKs, VC.fillL, VC.putL, VC.stW, VC.stOK, VC.mixF, VC.setAll, Nat.reduceAdd, Nat.reduceSub, Nat.reduceMul, if_true, if_false, ↓reduceIte, forall_const, implies_true, reduceCtorEq, ne_eq, Nat.reduceBNe, Nat.reduceBEq, IntKind.signed, Nat.reduceEqDiff, Nat.reduceLeDiff, Nat.reduceLT, eq_self, Int.reduceEq, Int.reduceLT, Int.reduceLE, Int.reduceAdd, Int.reduceSub, VC.regC_nil, VC.regC_cons, VC.regCK_eq, VC.callQ, VC.tailQ, VC.goCall, VC.chStep]
      (repeat rw [vc_seq]); refine vc_plain _ fun Q hQ => ?_; simp -dsimp only [Fa.F84, rdI_of d3, d3, hbl, VC.Now, VC.vc_skip, VC.vc_ret, VC.vc_exit, VC.vc_block, VC.vc_cond, VC.vc_region, VC.lib, VC.mapN_drewN, VC.mapB_drewN, VC.regQ, VC.loopK, VC.reg, VC.opP, VC.pv, VC.thenF, VC.blkF, VC.retF, VC.resV, VC.oneV, VC.evo, VC.bin, VC.binI, VC.cmpI, VC.arithI, VC.ldv, VC.slv, VC.pickP, VC.holds, VC.chainOf, VC.look, VC.junk, VC.put, VC.eff, VC.callee, VC.pureB, VC.rdK, VC.rdKs, VC.okKs, VC.eqKs, VC.fillL, VC.putL, VC.stW, VC.stOK, VC.mixF, VC.setAll, Nat.reduceAdd, Nat.reduceSub, Nat.reduceMul, if_true, if_false, ↓reduceIte, forall_const, implies_true, reduceCtorEq, ne_eq, Nat.reduceBNe, Nat.reduceBEq, IntKind.signed, Nat.reduceEqDiff, Nat.reduceLeDiff, Nat.reduceLT, eq_self, Int.reduceEq, Int.reduceLT, Int.reduceLE, Int.reduceAdd, Int.reduceSub, VC.regC_nil, VC.regC_cons, VC.regCK_eq, VC.callQ, VC.tailQ, VC.goCall, VC.chStep]
      refine CALL_by (most_any (hh3.get 0 rfl) ((s.bal i).prom + 1) (by omega)) fun e w4 hp => ⟨_, hp.1, ?_⟩
      have st4 := st3.later hp.2
      clear st3 hh3 bb d3 hbl hp
      rw [VC.Now, VC.seqK_eq]
      have hh4 := st4.hp
      have bb : Box w4 (a.pb i) (balC (a.tb i) { s.bal i with best := tb, prom := (s.bal i).prom + 1 }) := hh4.get 5 rfl
      have d0 := bb.at (i := 0) rfl
      have d1 := bb.at (i := 1) rfl
      have d2 := bb.at (i := 2) rfl
      have d4 := bb.at (i := 4) rfl
      have f1 := bb.soft (i := 1) (by show 1 < 6; omega)
      have f2 := bb.soft (i := 2) (by show 2 < 6; omega)
      have f4 := bb.soft (i := 4) (by show 4 < 6; omega)
      have hbl := bb.1
      by_cases q3 : n < 2 * ((s.bal i).prom + 1)
      · have e3 := decide_eq_true q3
        simp -dsimp only [Fa.F84, e3, d4, f4, hbl, VC.Now, VC.vc_skip, VC.vc_ret, VC.vc_exit, VC.vc_block, VC.vc_cond, VC.vc_region, VC.lib, VC.mapN_drewN, VC.mapB_drewN, VC.regQ, VC.loopK, VC.reg, VC.opP, VC.pv, VC.thenF, VC.blkF, VC.retF, VC.resV, VC.oneV, VC.evo, VC.bin, VC.binI, VC.cmpI, VC.arithI, VC.ldv, VC.slv, VC.pickP, VC.holds, VC.chainOf, VC.look, VC.junk, VC.put, VC.eff, VC.callee, VC.pureB, VC.rdK, VC.rdKs, VC.okKs, VC.eqKs, VC.fillL, VC.putL, VC.stW, VC.stOK, VC.mixF, VC.setAll, Nat.reduceAdd, Nat.reduceSub, Nat.reduceMul, if_true, if_false, ↓reduceIte, forall_const, implies_true, reduceCtorEq, ne_eq, Nat.reduceBNe, Nat.reduceBEq, IntKind.signed, Nat.reduceEqDiff, Nat.reduceLeDiff, Nat.reduceLT, eq_self, Int.reduceEq, Int.reduceLT, Int.reduceLE, Int.reduceAdd, Int.reduceSub, VC.regC_nil, VC.regC_cons, VC.regCK_eq, VC.callQ, VC.tailQ, VC.goCall, VC.chStep]
        subst hQ
        simp -dsimp only [Fa.F84, e3, d4, f4, hbl, VC.Now, VC.vc_skip, VC.vc_ret, VC.vc_exit, VC.vc_block, VC.vc_cond, VC.vc_region, VC.lib, VC.mapN_drewN, VC.mapB_drewN, VC.regQ, VC.loopK, VC.reg, VC.opP, VC.pv, VC.thenF, VC.blkF, VC.retF, VC.resV, VC.oneV, VC.evo, VC.bin, VC.binI, VC.cmpI, VC.arithI, VC.ldv, VC.slv, VC.pickP, VC.holds, VC.chainOf, VC.look, VC.junk, VC.put, VC.eff, VC.callee, VC.pureB, VC.rdK, VC.rdKs, VC.okKs, VC.eqKs, VC.fillL, VC.putL, VC.stW, VC.stOK, VC.mixF, VC.setAll, Nat.reduceAdd, Nat.reduceSub, Nat.reduceMul, if_true, if_false, ↓reduceIte, forall_const, implies_true, reduceCtorEq, ne_eq, Nat.reduceBNe, Nat.reduceBEq, IntKind.signed, Nat.reduceEqDiff, Nat.reduceLeDiff, Nat.reduceLT, eq_self, Int.reduceEq, Int.reduceLT, Int.reduceLE, Int.reduceAdd, Int.reduceSub, VC.regC_nil, VC.regC_cons, VC.regCK_eq, VC.callQ, VC.tailQ, VC.goCall, VC.chStep]
        (repeat rw [vc_seq]); refine vc_plain _ fun Q hQ => ?_; simp -dsimp only [Fa.F84, e3, d4, f4, hbl, VC.Now, VC.vc_skip, VC.vc_ret, VC.vc_exit, VC.vc_block, VC.vc_cond, VC.vc_region, VC.lib, VC.mapN_drewN, VC.mapB_drewN, VC.regQ, VC.loopK, VC.reg, VC.opP, VC.pv, VC.thenF, VC.blkF, VC.retF, VC.resV, VC.oneV, VC.evo, VC.bin, VC.binI, VC.cmpI, VC.arithI, VC.ldv, VC.slv, VC.pickP, VC.holds, VC.chainOf, VC.look, VC.junk, VC.put, VC.eff, VC.callee, VC.pureB, VC.rdK, VC.rdKs, VC.okKs, VC.eqKs, VC.fillL, VC.putL, VC.stW, VC.stOK, VC.mixF, VC.setAll, Nat.reduceAdd, Nat.reduceSub, Nat.reduceMul, if_true, if_false, ↓reduceIte, forall_const, implies_true, reduceCtorEq, ne_eq, Nat.reduceBNe, Nat.reduceBEq, IntKind.signed, Nat.reduceEqDiff, Nat.reduceLeDiff, Nat.reduceLT, eq_self, Int.reduceEq, Int.reduceLT, Int.reduceLE, Int.reduceAdd, Int.reduceSub, VC.regC_nil, VC.regC_cons, VC.regCK_eq, VC.callQ, VC.tailQ, VC.goCall, VC.chStep]
        have st5 := st4.trans (hh4.setBox 5 rfl 4 (.bool true))
        generalize w4.setCell ⟨a.pb i, 4, none⟩ (.bool true) = w5 at st5 ⊢
        clear st4 hh4 bb d0 d1 d2 d4 f1 f2 f4 hbl
        have hh5 := st5.hp
        have bb : Box w5 (a.pb i) (balC (a.tb i) { s.bal i with best := tb, prom := (s.bal i).prom + 1, fixed := true }) := hh5.get 5 rfl
        have d0 := bb.at (i := 0) rfl
        have d1 := bb.at (i := 1) rfl
        have d2 := bb.at (i := 2) rfl
        have f1 := bb.soft (i := 1) (by show 1 < 6; omega)
        have f2 := bb.soft (i := 2) (by show 2 < 6; omega)
        have hbl := bb.1
        by_cases q4 : tb.n = 0
        · have e4 := eq_true q4
          subst hQ
          simp -dsimp only [Fa.F84, e4, rdI_of d1, d1, hbl, VC.Now, VC.vc_skip, VC.vc_ret, VC.vc_exit, VC.vc_block, VC.vc_cond, VC.vc_region, VC.lib, VC.mapN_drewN, VC.mapB_drewN, VC.regQ, VC.loopK, VC.reg, VC.opP, VC.pv, VC.thenF, VC.blkF, VC.retF, VC.resV, VC.oneV, VC.evo, VC.bin, VC.binI, VC.cmpI, VC.arithI, VC.ldv, VC.slv, VC.pickP, VC.holds, VC.chainOf, VC.look, VC.junk, VC.put, VC.eff, VC.callee, VC.pureB, VC.rdK, VC.rdKs, VC.okKs, VC.eqKs, VC.fillL, VC.putL, VC.stW, VC.stOK, VC.mixF, VC.setAll, Nat.reduceAdd, Nat.reduceSub, Nat.reduceMul, if_true, if_false, ↓reduceIte, forall_const, implies_true, reduceCtorEq, ne_eq, Nat.reduceBNe, Nat.reduceBEq, IntKind.signed, Nat.reduceEqDiff, Nat.reduceLeDiff, Nat.reduceLT, eq_self, Int.reduceEq, Int.reduceLT, Int.reduceLE, Int.reduceAdd, Int.reduceSub, VC.regC_nil, VC.regC_cons, VC.regCK_eq, VC.callQ, VC.tailQ, VC.goCall, VC.chStep]
          (repeat rw [vc_seq]); refine vc_plain _ fun Q hQ => ?_; simp -dsimp only [Fa.F84, e4, rdI_of d0, d0, rdI_of d1, d1, d2, f2, hbl, VC.Now, VC.vc_skip, VC.vc_ret, VC.vc_exit, VC.vc_block, VC.vc_cond, VC.vc_region, VC.lib, VC.mapN_drewN, VC.mapB_drewN, VC.regQ, VC.loopK, VC.reg, VC.opP, VC.pv, VC.thenF, VC.blkF, VC.retF, VC.resV, VC.oneV, VC.evo, VC.bin, VC.binI, VC.cmpI, VC.arithI, VC.ldv, VC.slv, VC.pickP, VC.holds, VC.chainOf, VC.look, VC.junk, VC.put, VC.eff, VC.callee, VC.pureB, VC.rdK, VC.rdKs, VC.okKs, VC.eqKs, VC.fillL, VC.putL, VC.stW, VC.stOK, VC.mixF, VC.setAll, Nat.reduceAdd, Nat.reduceSub, Nat.reduceMul, if_true, if_false, ↓reduceIte, forall_const, implies_true, reduceCtorEq, ne_eq, Nat.reduceBNe, Nat.reduceBEq, IntKind.signed, Nat.reduceEqDiff, Nat.reduceLeDiff, Nat.reduceLT, eq_self, Int.reduceEq, Int.reduceLT, Int.reduceLE, Int.reduceAdd, Int.reduceSub, VC.regC_nil, VC.regC_cons, VC.regCK_eq, VC.callQ, VC.tailQ, VC.goCall, VC.chStep]
          subst hQ
          simp -dsimp only [Fa.F84, e4, rdI_of d0, d0, rdI_of d1, d1, d2, f2, hbl, VC.Now, VC.vc_skip, VC.vc_ret, VC.vc_exit, VC.vc_block, VC.vc_cond, VC.vc_region, VC.lib, VC.mapN_drewN, VC.mapB_drewN, VC.regQ, VC.loopK, VC.reg, VC.opP, VC.pv, VC.thenF, VC.blkF, VC.retF, VC.resV, VC.oneV, VC.evo, VC.bin, VC.binI, VC.cmpI, VC.arithI, VC.ldv, VC.slv, VC.pickP, VC.holds, VC.chainOf, VC.look, VC.junk, VC.put, VC.eff, VC.callee, VC.pureB, VC.rdK, VC.rdKs, VC.okKs, VC.eqKs, VC.fillL, VC.putL, VC.stW, VC.stOK, VC.mixF, VC.setAll, Nat.reduceAdd, Nat.reduceSub, Nat.reduceMul, if_true, if_false, ↓reduceIte, forall_const, implies_true, reduceCtorEq, ne_eq, Nat.reduceBNe, Nat.reduceBEq, IntKind.signed, Nat.reduceEqDiff, Nat.reduceLeDiff, Nat.reduceLT, eq_self, Int.reduceEq, Int.reduceLT, Int.reduceLE, Int.reduceAdd, Int.reduceSub, VC.regC_nil, VC.regC_cons, VC.regCK_eq, VC.callQ, VC.tailQ, VC.goCall, VC.chStep]
          have st6 := st5.trans (hh5.setBox 5 rfl 2 (.int .i64 (s.bal i).own))
          have hva : fixB (s.bal i).own (s.num i) tb = ⟨s.num i, (s.bal i).own⟩ := by unfold fixB; rw [if_pos q4]
          replace st6 : St B _ w (PMid n a s i a.vf a.vh vt1 s.fixd s.chosen { s.bal i with best := ⟨tb.n, (s.bal i).own⟩, prom := (s.bal i).prom + 1, fixed := true } (s.bal i).tooks (tookM (s.bal i))) _ := st6
          generalize w5.setCell ⟨a.pb i, 2, none⟩ (.int .i64 (s.bal i).own) = w6 at st6 ⊢
          clear st5 hh5 bb d0 d1 d2 f1 f2 hbl
          have hh6 := st6.hp
          have bb : Box w6 (a.pb i) (balC (a.tb i) { s.bal i with best := ⟨tb.n, (s.bal i).own⟩, prom := (s.bal i).prom + 1, fixed := true }) := hh6.get 5 rfl
          have d1 := bb.at (i := 1) rfl
          have f1 := bb.soft (i := 1) (by show 1 < 6; omega)
          have hbl := bb.1
          (repeat rw [vc_seq]); refine vc_plain _ fun Q hQ => ?_; simp -dsimp only [Fa.F84, d1, f1, hbl, VC.Now, VC.vc_skip, VC.vc_ret, VC.vc_exit, VC.vc_block, VC.vc_cond, VC.vc_region, VC.lib, VC.mapN_drewN, VC.mapB_drewN, VC.regQ, VC.loopK, VC.reg, VC.opP, VC.pv, VC.thenF, VC.blkF, VC.retF, VC.resV, VC.oneV, VC.evo, VC.bin, VC.binI, VC.cmpI, VC.arithI, VC.ldv, VC.slv, VC.pickP, VC.holds, VC.chainOf, VC.look, VC.junk, VC.put, VC.eff, VC.callee, VC.pureB, VC.rdK, VC.rdKs, VC.okKs, VC.eqKs, VC.fillL, VC.putL, VC.stW, VC.stOK, VC.mixF, VC.setAll, Nat.reduceAdd, Nat.reduceSub, Nat.reduceMul, if_true, if_false, ↓reduceIte, forall_const, implies_true, reduceCtorEq, ne_eq, Nat.reduceBNe, Nat.reduceBEq, IntKind.signed, Nat.reduceEqDiff, Nat.reduceLeDiff, Nat.reduceLT, eq_self, Int.reduceEq, Int.reduceLT, Int.reduceLE, Int.reduceAdd, Int.reduceSub, VC.regC_nil, VC.regC_cons, VC.regCK_eq, VC.callQ, VC.tailQ, VC.goCall, VC.chStep]
          have st7 := st6.trans (hh6.setBox 5 rfl 1 (.int .i64 (s.num i)))
          replace st7 : St B _ w (PMid n a s i a.vf a.vh vt1 s.fixd s.chosen { s.bal i with best := ⟨s.num i, (s.bal i).own⟩, prom := (s.bal i).prom + 1, fixed := true } (s.bal i).tooks (tookM (s.bal i))) _ := st7
          generalize w6.setCell ⟨a.pb i, 1, none⟩ (.int .i64 (s.num i)) = w7 at st7 ⊢
          clear st6 hh6 bb d1 f1 hbl
          have hh7 := st7.hp
          have bb : Box w7 (a.pb i) (balC (a.tb i) { s.bal i with best := ⟨s.num i, (s.bal i).own⟩, prom := (s.bal i).prom + 1, fixed := true }) := hh7.get 5 rfl
          have d1 := bb.at (i := 1) rfl
          have d2 := bb.at (i := 2) rfl
          have hbl := bb.1
          have bw : Box w7 a.wb [.slice (some ⟨a.gv, 0, none⟩) n n, .map (some a.mb), a.vc, nilS, a.vf, a.vh] := hh7.get 0 rfl
          have y4 := bw.at (i := 4) rfl
          have hwl := bw.1
          have hown : OwnK w7 0 117 2 s.fixd.length a.vf (s.fixd.flatMap bL) := hh7.get 3 rfl
          obtain ⟨Af, cf, ef, _⟩ := id hown
          rw [ef] at y4
          have nwb : ¬ a.vf.ownBlock = some a.wb := fun hf => hh7.ne 3 0 (by decide) rfl rfl a.wb hf rfl
          have npb : ¬ a.vf.ownBlock = some (a.pb i) := fun hf => hh7.ne 3 5 (by decide) rfl rfl (a.pb i) hf rfl
          have hHd := hh7.drewN 1
          have ag0 : Agree (fun j => a.vf.ownBlock = some j) w7 (w7.drewN 1) := Agree.of_below (below_drewN (Below.refl _ w7) 1)
          subst hQ
          refine WP_held 15 (fun j => a.vf.ownBlock = some j) (.take 0 (.take 1 (.take 2 (.take 3 (.take 4 (.take 5 (.take 6 (.take 7 (.take 8 (.take 9 (.one 10 (.one 11 (.one 12 (.one 13 (.take 14 (.one 15 .done)))))))))))))))) Fa.mix (by kernel_rfl) rfl ?_
          simp -dsimp only [VC.heldF_done, VC.heldF_last, VC.planF_done, VC.planF_take, VC.planF_one, VC.planF_two, VC.planK_eq, VC.heldF_take, VC.heldF_one, VC.heldF_two, VC.heldF_twoL, VC.heldK_eq, VC.okRd, Fa.F84, rdSA_of y4, rdSN_of y4, rdSC_of y4, y4, rdI_of d1, d1, rdI_of d2, d2, hbl, hwl, VC.Now, VC.vc, VC.lib, VC.mapN_drewN, VC.mapB_drewN, VC.regQ, VC.loopK, VC.reg, VC.opP, VC.pv, VC.thenF, VC.blkF, VC.retF, VC.resV, VC.oneV, VC.evo, VC.bin, VC.binI, VC.cmpI, VC.arithI, VC.ldv, VC.slv, VC.pickP, VC.holds, VC.chainOf, VC.look, VC.junk, VC.put, VC.eff, VC.callee, VC.pureB, VC.rdK, VC.rdKs, VC.okKs, VC.eqKs, VC.fillL, VC.putL, VC.stW, VC.stOK, VC.mixF, VC.setAll, Nat.reduceAdd, Nat.reduceSub, Nat.reduceMul, if_true, if_false, ↓reduceIte, forall_const, implies_true, reduceCtorEq, ne_eq, Nat.reduceBNe, Nat.reduceBEq, IntKind.signed, Nat.reduceEqDiff, Nat.reduceLeDiff, Nat.reduceLT, eq_self, Int.reduceEq, Int.reduceLT, Int.reduceLE, Int.reduceAdd, Int.reduceSub, VC.regC_nil, VC.regC_cons, VC.regCK_eq, VC.callQ, VC.tailQ, VC.goCall, VC.chStep]
          refine ⟨nwb, npb, ag0.trans (Agree.of_below ((Below.refl _ _).alloc (Nat.le_refl _) _)), ?_⟩
          have hfl := hok.fixd
          refine OPW_appK (v := a.vf) rfl Fa.apI35 (by rw [ef]; rfl) rfl rfl (by simp [Value.oneCell']) (hHd.get 3 rfl) (Nat.zero_le _) (by omega) (by decide) fun v8 w8 ho8 hg8 hst8 => ?_
          have hfe : (s.fixd ++ [(⟨s.num i, (s.bal i).own⟩ : Bal)]).flatMap bL = s.fixd.flatMap bL ++ [.int .i64 (s.num i), .int .i64 (s.bal i).own] := by rw [List.flatMap_append]; rfl
          have hfn : (s.fixd ++ [(⟨s.num i, (s.bal i).own⟩ : Bal)]).length = s.fixd.length + 1 := by simp
          rw [← hfe, ← hfn] at ho8
          obtain ⟨⟨r1, r2⟩, st8⟩ := hHd.growField 0 3 rfl rfl (by decide) ho8 hg8 hst8 4 (by show 4 < 6; omega)
          obtain ⟨A8, c8, rfl, _⟩ := id ho8
          have ag8 := ag0.trans (Agree.grown hg8 fun l hl => hl)
          have hw8 : a.wb < w8.heap.size := by simpa using (st8.hp.get 0 rfl : Box _ a.wb _).1
          have hres : pask n i x s = (0, { s with vt := vt1, bal := upd s.bal i { s.bal i with best := ⟨s.num i, (s.bal i).own⟩, prom := (s.bal i).prom + 1, fixed := true }, fixd := s.fixd ++ [⟨s.num i, (s.bal i).own⟩] }) := by unfold pask; rw [if_neg q1, if_neg (by rw [hf]; decide), if_pos q3, hvt, htb, hva]
          have e := pmid_end (n := n) (a := a) (s := s) hi (vf := .slice A8 (s.fixd ++ [(⟨s.num i, (s.bal i).own⟩ : Bal)]).length c8) (vh := a.vh) (vt := vt1) (fx := s.fixd ++ [⟨s.num i, (s.bal i).own⟩]) (ch := s.chosen) (o := { s.bal i with best := ⟨s.num i, (s.bal i).own⟩, prom := (s.bal i).prom + 1, fixed := true })
          simp -dsimp only [VC.heldF_done, VC.heldF_last, VC.planF_done, VC.planF_take, VC.planF_one, VC.planF_two, VC.planK_eq, VC.heldF_take, VC.heldF_one, VC.heldF_two, VC.heldF_twoL, VC.heldK_eq, VC.okRd, Fa.F84, rdSA_of y4, rdSN_of y4, rdSC_of y4, y4, rdI_of d1, d1, rdI_of d2, d2, hbl, hwl, hw8, VC.Now, VC.vc, VC.lib, VC.mapN_drewN, VC.mapB_drewN, VC.regQ, VC.loopK, VC.reg, VC.opP, VC.pv, VC.thenF, VC.blkF, VC.retF, VC.resV, VC.oneV, VC.evo, VC.bin, VC.binI, VC.cmpI, VC.arithI, VC.ldv, VC.slv, VC.pickP, VC.holds, VC.chainOf, VC.look, VC.junk, VC.put, VC.eff, VC.callee, VC.pureB, VC.rdK, VC.rdKs, VC.okKs, VC.eqKs, VC.fillL, VC.putL, VC.stW, VC.stOK, VC.mixF, VC.setAll, Nat.reduceAdd, Nat.reduceSub, Nat.reduceMul, if_true, if_false, ↓reduceIte, forall_const, implies_true, reduceCtorEq, ne_eq, Nat.reduceBNe, Nat.reduceBEq, IntKind.signed, Nat.reduceEqDiff, Nat.reduceLeDiff, Nat.reduceLT, eq_self, Int.reduceEq, Int.reduceLT, Int.reduceLE, Int.reduceAdd, Int.reduceSub, VC.regC_nil, VC.regC_cons, VC.regCK_eq, VC.callQ, VC.tailQ, VC.goCall, VC.chStep]
          refine ⟨ag8, ag8, ag8, ⟨r1, r2⟩, ?_⟩
          rw [hres]
          exact ⟨rfl, { a with vf := .slice A8 (s.fixd ++ [(⟨s.num i, (s.bal i).own⟩ : Bal)]).length c8 }, rfl, rfl, ((st7.drewN 1).trans st8).perm (pmid_start hi).symm e⟩
        · have e4 := eq_false q4
          subst hQ
          simp -dsimp only [Fa.F84, e4, rdI_of d1, d1, hbl, VC.Now, VC.vc_skip, VC.vc_ret, VC.vc_exit, VC.vc_block, VC.vc_cond, VC.vc_region, VC.lib, VC.mapN_drewN, VC.mapB_drewN, VC.regQ, VC.loopK, VC.reg, VC.opP, VC.pv, VC.thenF, VC.blkF, VC.retF, VC.resV, VC.oneV, VC.evo, VC.bin, VC.binI, VC.cmpI, VC.arithI, VC.ldv, VC.slv, VC.pickP, VC.holds, VC.chainOf, VC.look, VC.junk, VC.put, VC.eff, VC.callee, VC.pureB, VC.rdK, VC.rdKs, VC.okKs, VC.eqKs, VC.fillL, VC.putL, VC.stW, VC.stOK, VC.mixF, VC.setAll, Nat.reduceAdd, Nat.reduceSub, Nat.reduceMul, if_true, if_false, ↓reduceIte, forall_const, implies_true, reduceCtorEq, ne_eq, Nat.reduceBNe, Nat.reduceBEq, IntKind.signed, Nat.reduceEqDiff, Nat.reduceLeDiff, Nat.reduceLT, eq_self, Int.reduceEq, Int.reduceLT, Int.reduceLE, Int.reduceAdd, Int.reduceSub, VC.regC_nil, VC.regC_cons, VC.regCK_eq, VC.callQ, VC.tailQ, VC.goCall, VC.chStep]
          (repeat rw [vc_seq]); refine vc_plain _ fun Q hQ => ?_; simp -dsimp only [Fa.F84, e4, rdI_of d0, d0, rdI_of d1, d1, d2, f2, hbl, VC.Now, VC.vc_skip, VC.vc_ret, VC.vc_exit, VC.vc_block, VC.vc_cond, VC.vc_region, VC.lib, VC.mapN_drewN, VC.mapB_drewN, VC.regQ, VC.loopK, VC.reg, VC.opP, VC.pv, VC.thenF, VC.blkF, VC.retF, VC.resV, VC.oneV, VC.evo, VC.bin, VC.binI, VC.cmpI, VC.arithI, VC.ldv, VC.slv, VC.pickP, VC.holds, VC.chainOf, VC.look, VC.junk, VC.put, VC.eff, VC.callee, VC.pureB, VC.rdK, VC.rdKs, VC.okKs, VC.eqKs, VC.fillL, VC.putL, VC.stW, VC.stOK, VC.mixF, VC.setAll, Nat.reduceAdd, Nat.reduceSub, Nat.reduceMul, if_true, if_false, ↓reduceIte, forall_const, implies_true, reduceCtorEq, ne_eq, Nat.reduceBNe, Nat.reduceBEq, IntKind.signed, Nat.reduceEqDiff, Nat.reduceLeDiff, Nat.reduceLT, eq_self, Int.reduceEq, Int.reduceLT, Int.reduceLE, Int.reduceAdd, Int.reduceSub, VC.regC_nil, VC.regC_cons, VC.regCK_eq, VC.callQ, VC.tailQ, VC.goCall, VC.chStep]
          subst hQ
          simp -dsimp only [Fa.F84, e4, rdI_of d0, d0, rdI_of d1, d1, d2, f2, hbl, VC.Now, VC.vc_skip, VC.vc_ret, VC.vc_exit, VC.vc_block, VC.vc_cond, VC.vc_region, VC.lib, VC.mapN_drewN, VC.mapB_drewN, VC.regQ, VC.loopK, VC.reg, VC.opP, VC.pv, VC.thenF, VC.blkF, VC.retF, VC.resV, VC.oneV, VC.evo, VC.bin, VC.binI, VC.cmpI, VC.arithI, VC.ldv, VC.slv, VC.pickP, VC.holds, VC.chainOf, VC.look, VC.junk, VC.put, VC.eff, VC.callee, VC.pureB, VC.rdK, VC.rdKs, VC.okKs, VC.eqKs, VC.fillL, VC.putL, VC.stW, VC.stOK, VC.mixF, VC.setAll, Nat.reduceAdd, Nat.reduceSub, Nat.reduceMul, if_true, if_false, ↓reduceIte, forall_const, implies_true, reduceCtorEq, ne_eq, Nat.reduceBNe, Nat.reduceBEq, IntKind.signed, Nat.reduceEqDiff, Nat.reduceLeDiff, Nat.reduceLT, eq_self, Int.reduceEq, Int.reduceLT, Int.reduceLE, Int.reduceAdd, Int.reduceSub, VC.regC_nil, VC.regC_cons, VC.regCK_eq, VC.callQ, VC.tailQ, VC.goCall, VC.chStep]
          have hva : fixB (s.bal i).own (s.num i) tb = ⟨s.num i, tb.v⟩ := by unfold fixB; rw [if_neg q4]
          have st6 : St B _ w (PMid n a s i a.vf a.vh vt1 s.fixd s.chosen { s.bal i with best := ⟨tb.n, tb.v⟩, prom := (s.bal i).prom + 1, fixed := true } (s.bal i).tooks (tookM (s.bal i))) _ := st5
          generalize w5 = w6 at st6 ⊢
          clear st5 hh5 bb d0 d1 d2 f1 f2 hbl
          have hh6 := st6.hp
          have bb : Box w6 (a.pb i) (balC (a.tb i) { s.bal i with best := ⟨tb.n, tb.v⟩, prom := (s.bal i).prom + 1, fixed := true }) := hh6.get 5 rfl
          have d1 := bb.at (i := 1) rfl
          have f1 := bb.soft (i := 1) (by show 1 < 6; omega)
          have hbl := bb.1
          (repeat rw [vc_seq]); refine vc_plain _ fun Q hQ => ?_; simp -dsimp only [Fa.F84, d1, f1, hbl, VC.Now, VC.vc_skip, VC.vc_ret, VC.vc_exit, VC.vc_block, VC.vc_cond, VC.vc_region, VC.lib, VC.mapN_drewN, VC.mapB_drewN, VC.regQ, VC.loopK, VC.reg, VC.opP, VC.pv, VC.thenF, VC.blkF, VC.retF, VC.resV, VC.oneV, VC.evo, VC.bin, VC.binI, VC.cmpI, VC.arithI, VC.ldv, VC.slv, VC.pickP, VC.holds, VC.chainOf, VC.look, VC.junk, VC.put, VC.eff, VC.callee, VC.pureB, VC.rdK, VC.rdKs, VC.okKs, VC.eqKs, VC.fillL, VC.putL, VC.stW, VC.stOK, VC.mixF, VC.setAll, Nat.reduceAdd, Nat.reduceSub, Nat.reduceMul, if_true, if_false, ↓reduceIte, forall_const, implies_true, reduceCtorEq, ne_eq, Nat.reduceBNe, Nat.reduceBEq, IntKind.signed, Nat.reduceEqDiff, Nat.reduceLeDiff, Nat.reduceLT, eq_self, Int.reduceEq, Int.reduceLT, Int.reduceLE, Int.reduceAdd, Int.reduceSub, VC.regC_nil, VC.regC_cons, VC.regCK_eq, VC.callQ, VC.tailQ, VC.goCall, VC.chStep]
          have st7 := st6.trans (hh6.setBox 5 rfl 1 (.int .i64 (s.num i)))
          replace st7 : St B _ w (PMid n a s i a.vf a.vh vt1 s.fixd s.chosen { s.bal i with best := ⟨s.num i, tb.v⟩, prom := (s.bal i).prom + 1, fixed := true } (s.bal i).tooks (tookM (s.bal i))) _ := st7
          generalize w6.setCell ⟨a.pb i, 1, none⟩ (.int .i64 (s.num i)) = w7 at st7 ⊢
          clear st6 hh6 bb d1 f1 hbl
          have hh7 := st7.hp
          have bb : Box w7 (a.pb i) (balC (a.tb i) { s.bal i with best := ⟨s.num i, tb.v⟩, prom := (s.bal i).prom + 1, fixed := true }) := hh7.get 5 rfl
          have d1 := bb.at (i := 1) rfl
          have d2 := bb.at (i := 2) rfl
          have hbl := bb.1
          have bw : Box w7 a.wb [.slice (some ⟨a.gv, 0, none⟩) n n, .map (some a.mb), a.vc, nilS, a.vf, a.vh] := hh7.get 0 rfl
          have y4 := bw.at (i := 4) rfl
          have hwl := bw.1
          have hown : OwnK w7 0 117 2 s.fixd.length a.vf (s.fixd.flatMap bL) := hh7.get 3 rfl
          obtain ⟨Af, cf, ef, _⟩ := id hown
          rw [ef] at y4
          have nwb : ¬ a.vf.ownBlock = some a.wb := fun hf => hh7.ne 3 0 (by decide) rfl rfl a.wb hf rfl
          have npb : ¬ a.vf.ownBlock = some (a.pb i) := fun hf => hh7.ne 3 5 (by decide) rfl rfl (a.pb i) hf rfl
          have hHd := hh7.drewN 1
          have ag0 : Agree (fun j => a.vf.ownBlock = some j) w7 (w7.drewN 1) := Agree.of_below (below_drewN (Below.refl _ w7) 1)
          subst hQ
          refine WP_held 15 (fun j => a.vf.ownBlock = some j) (.take 0 (.take 1 (.take 2 (.take 3 (.take 4 (.take 5 (.take 6 (.take 7 (.take 8 (.take 9 (.one 10 (.one 11 (.one 12 (.one 13 (.take 14 (.one 15 .done)))))))))))))))) Fa.mix (by kernel_rfl) rfl ?_
          simp -dsimp only [VC.heldF_done, VC.heldF_last, VC.planF_done, VC.planF_take, VC.planF_one, VC.planF_two, VC.planK_eq, VC.heldF_take, VC.heldF_one, VC.heldF_two, VC.heldF_twoL, VC.heldK_eq, VC.okRd, Fa.F84, rdSA_of y4, rdSN_of y4, rdSC_of y4, y4, rdI_of d1, d1, rdI_of d2, d2, hbl, hwl, VC.Now, VC.vc, VC.lib, VC.mapN_drewN, VC.mapB_drewN, VC.regQ, VC.loopK, VC.reg, VC.opP, VC.pv, VC.thenF, VC.blkF, VC.retF, VC.resV, VC.oneV, VC.evo, VC.bin, VC.binI, VC.cmpI, VC.arithI, VC.ldv, VC.slv, VC.pickP, VC.holds, VC.chainOf, VC.look, VC.junk, VC.put, VC.eff, VC.callee, VC.pureB, VC.rdK, VC.rdKs, VC.okKs, VC.eqKs, VC.fillL, VC.putL, VC.stW, VC.stOK, VC.mixF, VC.setAll, Nat.reduceAdd, Nat.reduceSub, Nat.reduceMul, if_true, if_false, ↓reduceIte, forall_const, implies_true, reduceCtorEq, ne_eq, Nat.reduceBNe, Nat.reduceBEq, IntKind.signed, Nat.reduceEqDiff, Nat.reduceLeDiff, Nat.reduceLT, eq_self, Int.reduceEq, Int.reduceLT, Int.reduceLE, Int.reduceAdd, Int.reduceSub, VC.regC_nil, VC.regC_cons, VC.regCK_eq, VC.callQ, VC.tailQ, VC.goCall, VC.chStep]
          refine ⟨nwb, npb, ag0.trans (Agree.of_below ((Below.refl _ _).alloc (Nat.le_refl _) _)), ?_⟩
          have hfl := hok.fixd
          refine OPW_appK (v := a.vf) rfl Fa.apI35 (by rw [ef]; rfl) rfl rfl (by simp [Value.oneCell']) (hHd.get 3 rfl) (Nat.zero_le _) (by omega) (by decide) fun v8 w8 ho8 hg8 hst8 => ?_
          have hfe : (s.fixd ++ [(⟨s.num i, tb.v⟩ : Bal)]).flatMap bL = s.fixd.flatMap bL ++ [.int .i64 (s.num i), .int .i64 tb.v] := by rw [List.flatMap_append]; rfl
          have hfn : (s.fixd ++ [(⟨s.num i, tb.v⟩ : Bal)]).length = s.fixd.length + 1 := by simp
          rw [← hfe, ← hfn] at ho8
          obtain ⟨⟨r1, r2⟩, st8⟩ := hHd.growField 0 3 rfl rfl (by decide) ho8 hg8 hst8 4 (by show 4 < 6; omega)
          obtain ⟨A8, c8, rfl, _⟩ := id ho8
          have ag8 := ag0.trans (Agree.grown hg8 fun l hl => hl)
          have hw8 : a.wb < w8.heap.size := by simpa using (st8.hp.get 0 rfl : Box _ a.wb _).1
          have hres : pask n i x s = (0, { s with vt := vt1, bal := upd s.bal i { s.bal i with best := ⟨s.num i, tb.v⟩, prom := (s.bal i).prom + 1, fixed := true }, fixd := s.fixd ++ [⟨s.num i, tb.v⟩] }) := by unfold pask; rw [if_neg q1, if_neg (by rw [hf]; decide), if_pos q3, hvt, htb, hva]
          have e := pmid_end (n := n) (a := a) (s := s) hi (vf := .slice A8 (s.fixd ++ [(⟨s.num i, tb.v⟩ : Bal)]).length c8) (vh := a.vh) (vt := vt1) (fx := s.fixd ++ [⟨s.num i, tb.v⟩]) (ch := s.chosen) (o := { s.bal i with best := ⟨s.num i, tb.v⟩, prom := (s.bal i).prom + 1, fixed := true })
          simp -dsimp only [VC.heldF_done, VC.heldF_last, VC.planF_done, VC.planF_take, VC.planF_one, VC.planF_two, VC.planK_eq, VC.heldF_take, VC.heldF_one, VC.heldF_two, VC.heldF_twoL, VC.heldK_eq, VC.okRd, Fa.F84, rdSA_of y4, rdSN_of y4, rdSC_of y4, y4, rdI_of d1, d1, rdI_of d2, d2, hbl, hwl, hw8, VC.Now, VC.vc, VC.lib, VC.mapN_drewN, VC.mapB_drewN, VC.regQ, VC.loopK, VC.reg, VC.opP, VC.pv, VC.thenF, VC.blkF, VC.retF, VC.resV, VC.oneV, VC.evo, VC.bin, VC.binI, VC.cmpI, VC.arithI, VC.ldv, VC.slv, VC.pickP, VC.holds, VC.chainOf, VC.look, VC.junk, VC.put, VC.eff, VC.callee, VC.pureB, VC.rdK, VC.rdKs, VC.okKs, VC.eqKs, VC.fillL, VC.putL, VC.stW, VC.stOK, VC.mixF, VC.setAll, Nat.reduceAdd, Nat.reduceSub, Nat.reduceMul, if_true, if_false, ↓reduceIte, forall_const, implies_true, reduceCtorEq, ne_eq, Nat.reduceBNe, Nat.reduceBEq, IntKind.signed, Nat.reduceEqDiff, Nat.reduceLeDiff, Nat.reduceLT, eq_self, Int.reduceEq, Int.reduceLT, Int.reduceLE, Int.reduceAdd, Int.reduceSub, VC.regC_nil, VC.regC_cons, VC.regCK_eq, VC.callQ, VC.tailQ, VC.goCall, VC.chStep]
          refine ⟨ag8, ag8, ag8, ⟨r1, r2⟩, ?_⟩
          rw [hres]
          exact ⟨rfl, { a with vf := .slice A8 (s.fixd ++ [(⟨s.num i, tb.v⟩ : Bal)]).length c8 }, rfl, rfl, ((st7.drewN 1).trans st8).perm (pmid_start hi).symm e⟩
      · have e3 := decide_eq_false q3
        simp -dsimp only [Fa.F84, e3, d4, f4, hbl, VC.Now, VC.vc_skip, VC.vc_ret, VC.vc_exit, VC.vc_block, VC.vc_cond, VC.vc_region, VC.lib, VC.mapN_drewN, VC.mapB_drewN, VC.regQ, VC.loopK, VC.reg, VC.opP, VC.pv, VC.thenF, VC.blkF, VC.retF, VC.resV, VC.oneV, VC.evo, VC.bin, VC.binI, VC.cmpI, VC.arithI, VC.ldv, VC.slv, VC.pickP, VC.holds, VC.chainOf, VC.look, VC.junk, VC.put, VC.eff, VC.callee, VC.pureB, VC.rdK, VC.rdKs, VC.okKs, VC.eqKs, VC.fillL, VC.putL, VC.stW, VC.stOK, VC.mixF, VC.setAll, Nat.reduceAdd, Nat.reduceSub, Nat.reduceMul, if_true, if_false, ↓reduceIte, forall_const, implies_true, reduceCtorEq, ne_eq, Nat.reduceBNe, Nat.reduceBEq, IntKind.signed, Nat.reduceEqDiff, Nat.reduceLeDiff, Nat.reduceLT, eq_self, Int.reduceEq, Int.reduceLT, Int.reduceLE, Int.reduceAdd, Int.reduceSub, VC.regC_nil, VC.regC_cons, VC.regCK_eq, VC.callQ, VC.tailQ, VC.goCall, VC.chStep]
        subst hQ
        simp -dsimp only [Fa.F84, e3, d4, f4, hbl, VC.Now, VC.vc, VC.lib, VC.mapN_drewN, VC.mapB_drewN, VC.regQ, VC.loopK, VC.reg, VC.opP, VC.pv, VC.thenF, VC.blkF, VC.retF, VC.resV, VC.oneV, VC.evo, VC.bin, VC.binI, VC.cmpI, VC.arithI, VC.ldv, VC.slv, VC.pickP, VC.holds, VC.chainOf, VC.look, VC.junk, VC.put, VC.eff, VC.callee, VC.pureB, VC.rdK, VC.rdKs, VC.okKs, VC.eqKs, VC.fillL, VC.putL, VC.stW, VC.stOK, VC.mixF, VC.setAll, Nat.reduceAdd, Nat.reduceSub, Nat.reduceMul, if_true, if_false, ↓reduceIte, forall_const, implies_true, reduceCtorEq, ne_eq, Nat.reduceBNe, Nat.reduceBEq, IntKind.signed, Nat.reduceEqDiff, Nat.reduceLeDiff, Nat.reduceLT, eq_self, Int.reduceEq, Int.reduceLT, Int.reduceLE, Int.reduceAdd, Int.reduceSub, VC.regC_nil, VC.regC_cons, VC.regCK_eq, VC.callQ, VC.tailQ, VC.goCall, VC.chStep]
        have hres : pask n i x s = (0, { s with vt := vt1, bal := upd s.bal i { s.bal i with best := tb, prom := (s.bal i).prom + 1 } }) := by unfold pask; rw [if_neg q1, if_neg (by rw [hf]; decide), if_neg q3, hvt, htb]
        have e := pmid_end (n := n) (a := a) (s := s) hi (vf := a.vf) (vh := a.vh) (vt := vt1) (fx := s.fixd) (ch := s.chosen) (o := { s.bal i with best := tb, prom := (s.bal i).prom + 1 })
        rw [hres]
        exact ⟨rfl, a, rfl, rfl, st4.perm (pmid_start hi).symm e⟩
    · have e2 := eq_false q2
      subst hQ; simp -dsimp only [VC.Now, VC.vc_skip, VC.vc_ret, VC.vc_exit, VC.vc_block, VC.vc_cond, VC.vc_region, VC.lib, VC.mapN_drewN, VC.mapB_drewN, VC.regQ, VC.loopK, VC.reg, VC.opP, VC.pv, VC.thenF, VC.blkF, VC.retF, VC.resV, VC.oneV, VC.evo, VC.bin, VC.binI, VC.cmpI, VC.arithI, VC.ldv, VC.slv, VC.pickP, VC.holds, VC.chainOf, VC.look, VC.junk, VC.put, VC.eff, VC.callee, VC.pureB, VC.rdK, VC.rdKs, VC.okKs, VC.eqKs, VC.fillL, VC.putL, VC.stW, VC.stOK, VC.mixF, VC.setAll, Nat.reduceAdd, Nat.reduceSub, Nat.reduceMul, if_true, if_false, ↓reduceIte, forall_const, implies_true, reduceCtorEq, ne_eq, Nat.reduceBNe, Nat.reduceBEq, IntKind.signed, Nat.reduceEqDiff, Nat.reduceLeDiff, Nat.reduceLT, eq_self, Int.reduceEq, Int.reduceLT, Int.reduceLE, Int.reduceAdd, Int.reduceSub, VC.regC_nil, VC.regC_cons, VC.regCK_eq, VC.callQ, VC.tailQ, VC.goCall, VC.chStep]; (repeat rw [vc_seq]); refine vc_plain _ fun Q hQ => ?_; simp -dsimp only [Fa.F84, e2, rdI_of t1, t1, rdI_of t2, t2, rdI_of b1, b1, b2, g1, g2, hg1, hbl, VC.Now, VC.vc_skip, VC.vc_ret, VC.vc_exit, VC.vc_block, VC.vc_cond, VC.vc_region, VC.lib, VC.mapN_drewN, VC.mapB_drewN, VC.regQ, VC.loopK, VC.reg, VC.opP, VC.pv, VC.thenF, VC.blkF, VC.retF, VC.resV, VC.oneV, VC.evo, VC.bin, VC.binI, VC.cmpI, VC.arithI, VC.ldv, VC.slv, VC.pickP, VC.holds, VC.chainOf, VC.look, VC.junk, VC.put, VC.eff, VC.callee, VC.pureB, VC.rdK, VC.rdKs, VC.okKs, VC.eqKs, VC.fillL, VC.putL, VC.stW, VC.stOK, VC.mixF, VC.setAll, Nat.reduceAdd, Nat.reduceSub, Nat.reduceMul, if_true, if_false, ↓reduceIte, forall_const, implies_true, reduceCtorEq, ne_eq, Nat.reduceBNe, Nat.reduceBEq, IntKind.signed, Nat.reduceEqDiff, Nat.reduceLeDiff, Nat.reduceLT, eq_self, Int.reduceEq, Int.reduceLT, Int.reduceLE, Int.reduceAdd, Int.reduceSub, VC.regC_nil, VC.regC_cons, VC.regCK_eq, VC.callQ, VC.tailQ, VC.goCall, VC.chStep]
      intro m
      have hta : told1 (s.bal i).best (s.vt x).tk = (s.bal i).best := if_neg q2
      generalize htb : told1 (s.bal i).best (s.vt x).tk = tb at hto1 hta
      have st2 : St B (PMid n a s i a.vf a.vh s.vt s.fixd s.chosen (s.bal i) (s.bal i).tooks (tookM (s.bal i))) w (PMid n a s i a.vf a.vh vt1 s.fixd s.chosen { s.bal i with best := tb } (s.bal i).tooks (tookM (s.bal i))) (w1.drewN m) := by
        rw [hta]
        exact st1.drewN m
      generalize w1.drewN m = w2 at st2 ⊢
      subst hQ
      simp -dsimp only [Fa.F84, VC.Now, VC.vc_skip, VC.vc_ret, VC.vc_exit, VC.vc_block, VC.vc_cond, VC.vc_region, VC.lib, VC.mapN_drewN, VC.mapB_drewN, VC.regQ, VC.loopK, VC.reg, VC.opP, VC.pv, VC.thenF, VC.blkF, VC.retF, VC.resV, VC.oneV, VC.evo, VC.bin, VC.binI, VC.cmpI, VC.arithI, VC.ldv, VC.slv, VC.pickP, VC.holds, VC.chainOf, VC.look, VC.junk, VC.put, VC.eff, VC.callee, VC.pureB, VC.rdK, VC.rdKs, VC.okKs, VC.eqKs, VC.fillL, VC.putL, VC.stW, VC.stOK, VC.mixF, VC.setAll, Nat.reduceAdd, Nat.reduceSub, Nat.reduceMul, if_true, if_false, ↓reduceIte, forall_const, implies_true, reduceCtorEq, ne_eq, Nat.reduceBNe, Nat.reduceBEq, IntKind.signed, Nat.reduceEqDiff, Nat.reduceLeDiff, Nat.reduceLT, eq_self, Int.reduceEq, Int.reduceLT, Int.reduceLE, Int.reduceAdd, Int.reduceSub, VC.regC_nil, VC.regC_cons, VC.regCK_eq, VC.callQ, VC.tailQ, VC.goCall, VC.chStep]
      clear st1 hh1 bb b1 b2 b3 g1 g2 t1 t2 hr1 hbl
      have hh2 := st2.hp
      have bb : Box w2 (a.pb i) (balC (a.tb i) { s.bal i with best := tb }) := hh2.get 5 rfl
      have d3 := bb.at (i := 3) rfl
      have f3 := bb.soft (i := 3) (by show 3 < 6; omega)
      have hbl := bb.1
      have hpr := (hok.bal i hi).2.1
      (repeat rw [vc_seq]); refine vc_plain _ fun Q hQ => ?_; simp -dsimp only [Fa.F84, rdI_of d3, d3, f3, hbl, VC.Now, VC.vc_skip, VC.vc_ret, VC.vc_exit, VC.vc_block, VC.vc_cond, VC.vc_region, VC.lib, VC.mapN_drewN, VC.mapB_drewN, VC.regQ, VC.loopK, VC.reg, VC.opP, VC.pv, VC.thenF, VC.blkF, VC.retF, VC.resV, VC.oneV, VC.evo, VC.bin, VC.binI, VC.cmpI, VC.arithI, VC.ldv, VC.slv, VC.pickP, VC.holds, VC.chainOf, VC.look, VC.junk, VC.put, VC.eff, VC.callee, VC.pureB, VC.rdK, VC.rdKs, VC.okKs, VC.eqKs, VC.fillL, VC.putL, VC.stW, VC.stOK, VC.mixF, VC.setAll, Nat.reduceAdd, Nat.reduceSub, Nat.reduceMul, if_true, if_false, ↓reduceIte, forall_const, implies_true, reduceCtorEq, ne_eq, Nat.reduceBNe, Nat.reduceBEq, IntKind.signed, Nat.reduceEqDiff, Nat.reduceLeDiff, Nat.reduceLT, eq_self, Int.reduceEq, Int.reduceLT, Int.reduceLE, Int.reduceAdd, Int.reduceSub, VC.regC_nil, VC.regC_cons, VC.regCK_eq, VC.callQ, VC.tailQ, VC.goCall, VC.chStep]
      refine ⟨fits_i64 (by omega) (by omega), ?_⟩
      rw [show (((s.bal i).prom : Int) + 1) = (((s.bal i).prom + 1 : Nat) : Int) by omega]
      have st3 := st2.trans (hh2.setBox 5 rfl 3 (.int .i64 (((s.bal i).prom + 1 : Nat) : Int)))
      generalize w2.setCell ⟨a.pb i, 3, none⟩ (.int .i64 (((s.bal i).prom + 1 : Nat) : Int)) = w3 at st3 ⊢
      clear st2 hh2 bb d3 f3 hbl
      have hh3 := st3.hp
      have bb : Box w3 (a.pb i) (balC (a.tb i) { s.bal i with best := tb, prom := (s.bal i).prom + 1 }) := hh3.get 5 rfl
      have d3 := bb.at (i := 3) rfl
      have hbl := bb.1
      subst hQ
      simp -dsimp only [Fa.F84, rdI_of d3, d3, hbl, VC.Now, VC.vc_skip, VC.vc_ret, VC.vc_exit, VC.vc_block, VC.vc_cond, VC.vc_region, VC.lib, VC.mapN_drewN, VC.mapB_drewN, VC.regQ, VC.loopK, VC.reg, VC.opP, VC.pv, VC.thenF, VC.blkF, VC.retF, VC.resV, VC.oneV, VC.evo, VC.bin, VC.binI, VC.cmpI, VC.arithI, VC.ldv, VC.slv, VC.pickP, VC.holds, VC.chainOf, VC.look, VC.junk, VC.put, VC.eff, VC.callee, VC.pureB, VC.rdK, VC.rdKs, VC.okKs, VC.eqKs, VC.fillL, VC.putL, VC.stW, VC.stOK, VC.mixF, VC.setAll, Nat.reduceAdd, Nat.reduceSub, Nat.reduceMul, if_true, if_false, ↓reduceIte, forall_const, implies_true, reduceCtorEq, ne_eq, Nat.reduceBNe, Nat.reduceBEq, IntKind.signed, Nat.reduceEqDiff, Nat.reduceLeDiff, Nat.reduceLT, eq_self, Int.reduceEq, Int.reduceLT, Int.reduceLE, Int.reduceAdd, Int.reduceSub, VC.regC_nil, VC.regC_cons, VC.regCK_eq, VC.callQ, VC.tailQ, VC.goCall, VC.chStep]
      (repeat rw [vc_seq]); refine vc_plain _ fun Q hQ => ?_; simp -dsimp only [Fa.F84, rdI_of d3, d3, hbl, VC.Now, VC.vc_skip, VC.vc_ret, VC.vc_exit, VC.vc_block, VC.vc_cond, VC.vc_region, VC.lib, VC.mapN_drewN, VC.mapB_drewN, VC.regQ, VC.loopK, VC.reg, VC.opP, VC.pv, VC.thenF, VC.blkF, VC.retF, VC.resV, VC.oneV, VC.evo, VC.bin, VC.binI, VC.cmpI, VC.arithI, VC.ldv, VC.slv, VC.pickP, VC.holds, VC.chainOf, VC.look, VC.junk, VC.put, VC.eff, VC.callee, VC.pureB, VC.rdK, VC.rdKs, VC.okKs, VC.eqKs, VC.fillL, VC.putL, VC.stW, VC.stOK, VC.mixF, VC.setAll, Nat.reduceAdd, Nat.reduceSub, Nat.reduceMul, if_true, if_false, ↓reduceIte, forall_const, implies_true, reduceCtorEq, ne_eq, Nat.reduceBNe, Nat.reduceBEq, IntKind.signed, Nat.reduceEqDiff, Nat.reduceLeDiff, Nat.reduceLT, eq_self, Int.reduceEq, Int.reduceLT, Int.reduceLE, Int.reduceAdd, Int.reduceSub, VC.regC_nil, VC.regC_cons, VC.regCK_eq, VC.callQ, VC.tailQ, VC.goCall, VC.chStep]
      refine CALL_by (most_any (hh3.get 0 rfl) ((s.bal i).prom + 1) (by omega)) fun e w4 hp => ⟨_, hp.1, ?_⟩
      have st4 := st3.later hp.2
      clear st3 hh3 bb d3 hbl hp
      rw [VC.Now, VC.seqK_eq]
      have hh4 := st4.hp
      have bb : Box w4 (a.pb i) (balC (a.tb i) { s.bal i with best := tb, prom := (s.bal i).prom + 1 }) := hh4.get 5 rfl
      have d0 := bb.at (i := 0) rfl
      have d1 := bb.at (i := 1) rfl
      have d2 := bb.at (i := 2) rfl
      have d4 := bb.at (i := 4) rfl
      have f1 := bb.soft (i := 1) (by show 1 < 6; omega)
      have f2 := bb.soft (i := 2) (by show 2 < 6; omega)
      have f4 := bb.soft (i := 4) (by show 4 < 6; omega)
      have hbl := bb.1
      by_cases q3 : n < 2 * ((s.bal i).prom + 1)
      · have e3 := decide_eq_true q3
        simp -dsimp only [Fa.F84, e3, d4, f4, hbl, VC.Now, VC.vc_skip, VC.vc_ret, VC.vc_exit, VC.vc_block, VC.vc_cond, VC.vc_region, VC.lib, VC.mapN_drewN, VC.mapB_drewN, VC.regQ, VC.loopK, VC.reg, VC.opP, VC.pv, VC.thenF, VC.blkF, VC.retF, VC.resV, VC.oneV, VC.evo, VC.bin, VC.binI, VC.cmpI, VC.arithI, VC.ldv, VC.slv, VC.pickP, VC.holds, VC.chainOf, VC.look, VC.junk, VC.put, VC.eff, VC.callee, VC.pureB, VC.rdK, VC.rdKs, VC.okKs, VC.eqKs, VC.fillL, VC.putL, VC.stW, VC.stOK, VC.mixF, VC.setAll, Nat.reduceAdd, Nat.reduceSub, Nat.reduceMul, if_true, if_false, ↓reduceIte, forall_const, implies_true, reduceCtorEq, ne_eq, Nat.reduceBNe, Nat.reduceBEq, IntKind.signed, Nat.reduceEqDiff, Nat.reduceLeDiff, Nat.reduceLT, eq_self, Int.reduceEq, Int.reduceLT, Int.reduceLE, Int.reduceAdd, Int.reduceSub, VC.regC_nil, VC.regC_cons, VC.regCK_eq, VC.callQ, VC.tailQ, VC.goCall, VC.chStep]
        subst hQ
        simp -dsimp only [Fa.F84, e3, d4, f4, hbl, VC.Now, VC.vc_skip, VC.vc_ret, VC.vc_exit, VC.vc_block, VC.vc_cond, VC.vc_region, VC.lib, VC.mapN_drewN, VC.mapB_drewN, VC.regQ, VC.loopK, VC.reg, VC.opP, VC.pv, VC.thenF, VC.blkF, VC.retF, VC.resV, VC.oneV, VC.evo, VC.bin, VC.binI, VC.cmpI, VC.arithI, VC.ldv, VC.slv, VC.pickP, VC.holds, VC.chainOf, VC.look, VC.junk, VC.put, VC.eff, VC.callee, VC.pureB, VC.rdK, VC.rdKs, VC.okKs, VC.eqKs, VC.fillL, VC.putL, VC.stW, VC.stOK, VC.mixF, VC.setAll, Nat.reduceAdd, Nat.reduceSub, Nat.reduceMul, if_true, if_false, ↓reduceIte, forall_const, implies_true, reduceCtorEq, ne_eq, Nat.reduceBNe, Nat.reduceBEq, IntKind.signed, Nat.reduceEqDiff, Nat.reduceLeDiff, Nat.reduceLT, eq_self, Int.reduceEq, Int.reduceLT, Int.reduceLE, Int.reduceAdd, Int.reduceSub, VC.regC_nil, VC.regC_cons, VC.regCK_eq, VC.callQ, VC.tailQ, VC.goCall, VC.chStep]
        (repeat rw [vc_seq]); refine vc_plain _ fun Q hQ => ?_; simp -dsimp only [Fa.F84, e3, d4, f4, hbl, VC.Now, VC.vc_skip, VC.vc_ret, VC.vc_exit, VC.vc_block, VC.vc_cond, VC.vc_region, VC.lib, VC.mapN_drewN, VC.mapB_drewN, VC.regQ, VC.loopK, VC.reg, VC.opP, VC.pv, VC.thenF, VC.blkF, VC.retF, VC.resV, VC.oneV, VC.evo, VC.bin, VC.binI, VC.cmpI, VC.arithI, VC.ldv, VC.slv, VC.pickP, VC.holds, VC.chainOf, VC.look, VC.junk, VC.put, VC.eff, VC.callee, VC.pureB, VC.rdK, VC.rdKs, VC.okKs, VC.eqKs, VC.fillL, VC.putL, VC.stW, VC.stOK, VC.mixF, VC.setAll, Nat.reduceAdd, Nat.reduceSub, Nat.reduceMul, if_true, if_false, ↓reduceIte, forall_const, implies_true, reduceCtorEq, ne_eq, Nat.reduceBNe, Nat.reduceBEq, IntKind.signed, Nat.reduceEqDiff, Nat.reduceLeDiff, Nat.reduceLT, eq_self, Int.reduceEq, Int.reduceLT, Int.reduceLE, Int.reduceAdd, Int.reduceSub, VC.regC_nil, VC.regC_cons, VC.regCK_eq, VC.callQ, VC.tailQ, VC.goCall, VC.chStep]
        have st5 := st4.trans (hh4.setBox 5 rfl 4 (.bool true))
        generalize w4.setCell ⟨a.pb i, 4, none⟩ (.bool true) = w5 at st5 ⊢
        clear st4 hh4 bb d0 d1 d2 d4 f1 f2 f4 hbl
        have hh5 := st5.hp
        have bb : Box w5 (a.pb i) (balC (a.tb i) { s.bal i with best := tb, prom := (s.bal i).prom + 1, fixed := true }) := hh5.get 5 rfl
        have d0 := bb.at (i := 0) rfl
        have d1 := bb.at (i := 1) rfl
        have d2 := bb.at (i := 2) rfl
        have f1 := bb.soft (i := 1) (by show 1 < 6; omega)
        have f2 := bb.soft (i := 2) (by show 2 < 6; omega)
        have hbl := bb.1
        by_cases q4 : tb.n = 0
        · have e4 := eq_true q4
          subst hQ
          simp -dsimp only [Fa.F84, e4, rdI_of d1, d1, hbl, VC.Now, VC.vc_skip, VC.vc_ret, VC.vc_exit, VC.vc_block, VC.vc_cond, VC.vc_region, VC.lib, VC.mapN_drewN, VC.mapB_drewN, VC.regQ, VC.loopK, VC.reg, VC.opP, VC.pv, VC.thenF, VC.blkF, VC.retF, VC.resV, VC.oneV, VC.evo, VC.bin, VC.binI, VC.cmpI, VC.arithI, VC.ldv, VC.slv, VC.pickP, VC.holds, VC.chainOf, VC.look, VC.junk, VC.put, VC.eff, VC.callee, VC.pureB, VC.rdK, VC.rdKs, VC.okKs, VC.eqKs, VC.fillL, VC.putL, VC.stW, VC.stOK, VC.mixF, VC.setAll, Nat.reduceAdd, Nat.reduceSub, Nat.reduceMul, if_true, if_false, ↓reduceIte, forall_const, implies_true, reduceCtorEq, ne_eq, Nat.reduceBNe, Nat.reduceBEq, IntKind.signed, Nat.reduceEqDiff, Nat.reduceLeDiff, Nat.reduceLT, eq_self, Int.reduceEq, Int.reduceLT, Int.reduceLE, Int.reduceAdd, Int.reduceSub, VC.regC_nil, VC.regC_cons, VC.regCK_eq, VC.callQ, VC.tailQ, VC.goCall, VC.chStep]
          (repeat rw [vc_seq]); refine vc_plain _ fun Q hQ => ?_; simp -dsimp only [Fa.F84, e4, rdI_of d0, d0, rdI_of d1, d1, d2, f2, hbl, VC.Now, VC.vc_skip, VC.vc_ret, VC.vc_exit, VC.vc_block, VC.vc_cond, VC.vc_region, VC.lib, VC.mapN_drewN, VC.mapB_drewN, VC.regQ, VC.loopK, VC.reg, VC.opP, VC.pv, VC.thenF, VC.blkF, VC.retF, VC.resV, VC.oneV, VC.evo, VC.bin, VC.binI, VC.cmpI, VC.arithI, VC.ldv, VC.slv, VC.pickP, VC.holds, VC.chainOf, VC.look, VC.junk, VC.put, VC.eff, VC.callee, VC.pureB, VC.rdK, VC.rdKs, VC.okKs, VC.eqKs, VC.fillL, VC.putL, VC.stW, VC.stOK, VC.mixF, VC.setAll, Nat.reduceAdd, Nat.reduceSub, Nat.reduceMul, if_true, if_false, ↓reduceIte, forall_const, implies_true, reduceCtorEq, ne_eq, Nat.reduceBNe, Nat.reduceBEq, IntKind.signed, Nat.reduceEqDiff, Nat.reduceLeDiff, Nat.reduceLT, eq_self, Int.reduceEq, Int.reduceLT, Int.reduceLE, Int.reduceAdd, Int.reduceSub, VC.regC_nil, VC.regC_cons, VC.regCK_eq, VC.callQ, VC.tailQ, VC.goCall, VC.chStep]
          subst hQ
          simp -dsimp only [Fa.F84, e4, rdI_of d0, d0, rdI_of d1, d1, d2, f2, hbl, VC.Now, VC.vc_skip, VC.vc_ret, VC.vc_exit, VC.vc_block, VC.vc_cond, VC.vc_region, VC.lib, VC.mapN_drewN, VC.mapB_drewN, VC.regQ, VC.loopK, VC.reg, VC.opP, VC.pv, VC.thenF, VC.blkF, VC.retF, VC.resV, VC.oneV, VC.evo, VC.bin, VC.binI, VC.cmpI, VC.arithI, VC.ldv, VC.slv, VC.pickP, VC.holds, VC.chainOf, VC.look, VC.junk, VC.put, VC.eff, VC.callee, VC.pureB, VC.rdK, VC.rdKs, VC.okKs, VC.eqKs, VC.fillL, VC.putL, VC.stW, VC.stOK, VC.mixF, VC.setAll, Nat.reduceAdd, Nat.reduceSub, Nat.reduceMul, if_true, if_false, ↓reduceIte, forall_const, implies_true, reduceCtorEq, ne_eq, Nat.reduceBNe, Nat.reduceBEq, IntKind.signed, Nat.reduceEqDiff, Nat.reduceLeDiff, Nat.reduceLT, eq_self, Int.reduceEq, Int.reduceLT, Int.reduceLE, Int.reduceAdd, Int.reduceSub, VC.regC_nil, VC.regC_cons, VC.regCK_eq, VC.callQ, VC.tailQ, VC.goCall, VC.chStep]
          have st6 := st5.trans (hh5.setBox 5 rfl 2 (.int .i64 (s.bal i).own))
          have hva : fixB (s.bal i).own (s.num i) tb = ⟨s.num i, (s.bal i).own⟩ := by unfold fixB; rw [if_pos q4]
          replace st6 : St B _ w (PMid n a s i a.vf a.vh vt1 s.fixd s.chosen { s.bal i with best := ⟨tb.n, (s.bal i).own⟩, prom := (s.bal i).prom + 1, fixed := true } (s.bal i).tooks (tookM (s.bal i))) _ := st6
          generalize w5.setCell ⟨a.pb i, 2, none⟩ (.int .i64 (s.bal i).own) = w6 at st6 ⊢
          clear st5 hh5 bb d0 d1 d2 f1 f2 hbl
          have hh6 := st6.hp
          have bb : Box w6 (a.pb i) (balC (a.tb i) { s.bal i with best := ⟨tb.n, (s.bal i).own⟩, prom := (s.bal i).prom + 1, fixed := true }) := hh6.get 5 rfl
          have d1 := bb.at (i := 1) rfl
          have f1 := bb.soft (i := 1) (by show 1 < 6; omega)
          have hbl := bb.1
          (repeat rw [vc_seq]); refine vc_plain _ fun Q hQ => ?_; simp -dsimp only [Fa.F84, d1, f1, hbl, VC.Now, VC.vc_skip, VC.vc_ret, VC.vc_exit, VC.vc_block, VC.vc_cond, VC.vc_region, VC.lib, VC.mapN_drewN, VC.mapB_drewN, VC.regQ, VC.loopK, VC.reg, VC.opP, VC.pv, VC.thenF, VC.blkF, VC.retF, VC.resV, VC.oneV, VC.evo, VC.bin, VC.binI, VC.cmpI, VC.arithI, VC.ldv, VC.slv, VC.pickP, VC.holds, VC.chainOf, VC.look, VC.junk, VC.put, VC.eff, VC.callee, VC.pureB, VC.rdK, VC.rdKs, VC.okKs, VC.eqKs, VC.fillL, VC.putL, VC.stW, VC.stOK, VC.mixF, VC.setAll, Nat.reduceAdd, Nat.reduceSub, Nat.reduceMul, if_true, if_false, ↓reduceIte, forall_const, implies_true, reduceCtorEq, ne_eq, Nat.reduceBNe, Nat.reduceBEq, IntKind.signed, Nat.reduceEqDiff, Nat.reduceLeDiff, Nat.reduceLT, eq_self, Int.reduceEq, Int.reduceLT, Int.reduceLE, Int.reduceAdd, Int.reduceSub, VC.regC_nil, VC.regC_cons, VC.regCK_eq, VC.callQ, VC.tailQ, VC.goCall, VC.chStep]
          have st7 := st6.trans (hh6.setBox 5 rfl 1 (.int .i64 (s.num i)))
          replace st7 : St B _ w (PMid n a s i a.vf a.vh vt1 s.fixd s.chosen { s.bal i with best := ⟨s.num i, (s.bal i).own⟩, prom := (s.bal i).prom + 1, fixed := true } (s.bal i).tooks (tookM (s.bal i))) _ := st7
          generalize w6.setCell ⟨a.pb i, 1, none⟩ (.int .i64 (s.num i)) = w7 at st7 ⊢
          clear st6 hh6 bb d1 f1 hbl
          have hh7 := st7.hp
          have bb : Box w7 (a.pb i) (balC (a.tb i) { s.bal i with best := ⟨s.num i, (s.bal i).own⟩, prom := (s.bal i).prom + 1, fixed := true }) := hh7.get 5 rfl
          have d1 := bb.at (i := 1) rfl
          have d2 := bb.at (i := 2) rfl
          have hbl := bb.1
          have bw : Box w7 a.wb [.slice (some ⟨a.gv, 0, none⟩) n n, .map (some a.mb), a.vc, nilS, a.vf, a.vh] := hh7.get 0 rfl
          have y4 := bw.at (i := 4) rfl
          have hwl := bw.1
          have hown : OwnK w7 0 117 2 s.fixd.length a.vf (s.fixd.flatMap bL) := hh7.get 3 rfl
          obtain ⟨Af, cf, ef, _⟩ := id hown
          rw [ef] at y4
          have nwb : ¬ a.vf.ownBlock = some a.wb := fun hf => hh7.ne 3 0 (by decide) rfl rfl a.wb hf rfl
          have npb : ¬ a.vf.ownBlock = some (a.pb i) := fun hf => hh7.ne 3 5 (by decide) rfl rfl (a.pb i) hf rfl
          have hHd := hh7.drewN 1
          have ag0 : Agree (fun j => a.vf.ownBlock = some j) w7 (w7.drewN 1) := Agree.of_below (below_drewN (Below.refl _ w7) 1)
          subst hQ
          refine WP_held 15 (fun j => a.vf.ownBlock = some j) (.take 0 (.take 1 (.take 2 (.take 3 (.take 4 (.take 5 (.take 6 (.take 7 (.take 8 (.take 9 (.one 10 (.one 11 (.one 12 (.one 13 (.take 14 (.one 15 .done)))))))))))))))) Fa.mix (by kernel_rfl) rfl ?_
          simp -dsimp only [VC.heldF_done, VC.heldF_last, VC.planF_done, VC.planF_take, VC.planF_one, VC.planF_two, VC.planK_eq, VC.heldF_take, VC.heldF_one, VC.heldF_two, VC.heldF_twoL, VC.heldK_eq, VC.okRd, Fa.F84, rdSA_of y4, rdSN_of y4, rdSC_of y4, y4, rdI_of d1, d1, rdI_of d2, d2, hbl, hwl, VC.Now, VC.vc, VC.lib, VC.mapN_drewN, VC.mapB_drewN, VC.regQ, VC.loopK, VC.reg, VC.opP, VC.pv, VC.thenF, VC.blkF, VC.retF, VC.resV, VC.oneV, VC.evo, VC.bin, VC.binI, VC.cmpI, VC.arithI, VC.ldv, VC.slv, VC.pickP, VC.holds, VC.chainOf, VC.look, VC.junk, VC.put, VC.eff, VC.callee, VC.pureB, VC.rdK, VC.rdKs, VC.okKs, VC.eqKs, VC.fillL, VC.putL, VC.stW, VC.stOK, VC.mixF, VC.setAll, Nat.reduceAdd, Nat.reduceSub, Nat.reduceMul, if_true, if_false, ↓reduceIte, forall_const, implies_true, reduceCtorEq, ne_eq, Nat.reduceBNe, Nat.reduceBEq, IntKind.signed, Nat.reduceEqDiff, Nat.reduceLeDiff, Nat.reduceLT, eq_self, Int.reduceEq, Int.reduceLT, Int.reduceLE, Int.reduceAdd, Int.reduceSub, VC.regC_nil, VC.regC_cons, VC.regCK_eq, VC.callQ, VC.tailQ, VC.goCall, VC.chStep]
          refine ⟨nwb, npb, ag0.trans (Agree.of_below ((Below.refl _ _).alloc (Nat.le_refl _) _)), ?_⟩
          have hfl := hok.fixd
          refine OPW_appK (v := a.vf) rfl Fa.apI35 (by rw [ef]; rfl) rfl rfl (by simp [Value.oneCell']) (hHd.get 3 rfl) (Nat.zero_le _) (by omega) (by decide) fun v8 w8 ho8 hg8 hst8 => ?_
          have hfe : (s.fixd ++ [(⟨s.num i, (s.bal i).own⟩ : Bal)]).flatMap bL = s.fixd.flatMap bL ++ [.int .i64 (s.num i), .int .i64 (s.bal i).own] := by rw [List.flatMap_append]; rfl
          have hfn : (s.fixd ++ [(⟨s.num i, (s.bal i).own⟩ : Bal)]).length = s.fixd.length + 1 := by simp
          rw [← hfe, ← hfn] at ho8
          obtain ⟨⟨r1, r2⟩, st8⟩ := hHd.growField 0 3 rfl rfl (by decide) ho8 hg8 hst8 4 (by show 4 < 6; omega)
          obtain ⟨A8, c8, rfl, _⟩ := id ho8
          have ag8 := ag0.trans (Agree.grown hg8 fun l hl => hl)
          have hw8 : a.wb < w8.heap.size := by simpa using (st8.hp.get 0 rfl : Box _ a.wb _).1
          have hres : pask n i x s = (0, { s with vt := vt1, bal := upd s.bal i { s.bal i with best := ⟨s.num i, (s.bal i).own⟩, prom := (s.bal i).prom + 1, fixed := true }, fixd := s.fixd ++ [⟨s.num i, (s.bal i).own⟩] }) := by unfold pask; rw [if_neg q1, if_neg (by rw [hf]; decide), if_pos q3, hvt, htb, hva]
          have e := pmid_end (n := n) (a := a) (s := s) hi (vf := .slice A8 (s.fixd ++ [(⟨s.num i, (s.bal i).own⟩ : Bal)]).length c8) (vh := a.vh) (vt := vt1) (fx := s.fixd ++ [⟨s.num i, (s.bal i).own⟩]) (ch := s.chosen) (o := { s.bal i with best := ⟨s.num i, (s.bal i).own⟩, prom := (s.bal i).prom + 1, fixed := true })
          simp -dsimp only [VC.heldF_done, VC.heldF_last, VC.planF_done, VC.planF_take, VC.planF_one, VC.planF_two, VC.planK_eq, VC.heldF_take, VC.heldF_one, VC.heldF_two, VC.heldF_twoL, VC.heldK_eq, VC.okRd, Fa.F84, rdSA_of y4, rdSN_of y4, rdSC_of y4, y4, rdI_of d1, d1, rdI_of d2, d2, hbl, hwl, hw8, VC.Now, VC.vc, VC.lib, VC.mapN_drewN, VC.mapB_drewN, VC.regQ, VC.loopK, VC.reg, VC.opP, VC.pv, VC.thenF, VC.blkF, VC.retF, VC.resV, VC.oneV, VC.evo, VC.bin, VC.binI, VC.cmpI, VC.arithI, VC.ldv, VC.slv, VC.pickP, VC.holds, VC.chainOf, VC.look, VC.junk, VC.put, VC.eff, VC.callee, VC.pureB, VC.rdK, VC.rdKs, VC.okKs, VC.eqKs, VC.fillL, VC.putL, VC.stW, VC.stOK, VC.mixF, VC.setAll, Nat.reduceAdd, Nat.reduceSub, Nat.reduceMul, if_true, if_false, ↓reduceIte, forall_const, implies_true, reduceCtorEq, ne_eq, Nat.reduceBNe, Nat.reduceBEq, IntKind.signed, Nat.reduceEqDiff, Nat.reduceLeDiff, Nat.reduceLT, eq_self, Int.reduceEq, Int.reduceLT, Int.reduceLE, Int.reduceAdd, Int.reduceSub, VC.regC_nil, VC.regC_cons, VC.regCK_eq, VC.callQ, VC.tailQ, VC.goCall, VC.chStep]
          refine ⟨ag8, ag8, ag8, ⟨r1, r2⟩, ?_⟩
          rw [hres]
          exact ⟨rfl, { a with vf := .slice A8 (s.fixd ++ [(⟨s.num i, (s.bal i).own⟩ : Bal)]).length c8 }, rfl, rfl, ((st7.drewN 1).trans st8).perm (pmid_start hi).symm e⟩
        · have e4 := eq_false q4
          subst hQ
          simp -dsimp only [Fa.F84, e4, rdI_of d1, d1, hbl, VC.Now, VC.vc_skip, VC.vc_ret, VC.vc_exit, VC.vc_block, VC.vc_cond, VC.vc_region, VC.lib, VC.mapN_drewN, VC.mapB_drewN, VC.regQ, VC.loopK, VC.reg, VC.opP, VC.pv, VC.thenF, VC.blkF, VC.retF, VC.resV, VC.oneV, VC.evo, VC.bin, VC.binI, VC.cmpI, VC.arithI, VC.ldv, VC.slv, VC.pickP, VC.holds, VC.chainOf, VC.look, VC.junk, VC.put, VC.eff, VC.callee, VC.pureB, VC.rdK, VC.rdKs, VC.okKs, VC.eqKs, VC.fillL, VC.putL, VC.stW, VC.stOK, VC.mixF, VC.setAll, Nat.reduceAdd, Nat.reduceSub, Nat.reduceMul, if_true, if_false, ↓reduceIte, forall_const, implies_true, reduceCtorEq, ne_eq, Nat.reduceBNe, Nat.reduceBEq, IntKind.signed, Nat.reduceEqDiff, Nat.reduceLeDiff, Nat.reduceLT, eq_self, Int.reduceEq, Int.reduceLT, Int.reduceLE, Int.reduceAdd, Int.reduceSub, VC.regC_nil, VC.regC_cons, VC.regCK_eq, VC.callQ, VC.tailQ, VC.goCall, VC.chStep]
          (repeat rw [vc_seq]); refine vc_plain _ fun Q hQ => ?_; simp -dsimp only [Fa.F84, e4, rdI_of d0, d0, rdI_of d1, d1, d2, f2, hbl, VC.Now, VC.vc_skip, VC.vc_ret, VC.vc_exit, VC.vc_block, VC.vc_cond, VC.vc_region, VC.lib, VC.mapN_drewN, VC.mapB_drewN, VC.regQ, VC.loopK, VC.reg, VC.opP, VC.pv, VC.thenF, VC.blkF, VC.retF, VC.resV, VC.oneV, VC.evo, VC.bin, VC.binI, VC.cmpI, VC.arithI, VC.ldv, VC.slv, VC.pickP, VC.holds, VC.chainOf, VC.look, VC.junk, VC.put, VC.eff, VC.callee, VC.pureB, VC.rdK, VC.rdKs, VC.okKs, VC.eqKs, VC.fillL, VC.putL, VC.stW, VC.stOK, VC.mixF, VC.setAll, Nat.reduceAdd, Nat.reduceSub, Nat.reduceMul, if_true, if_false, ↓reduceIte, forall_const, implies_true, reduceCtorEq, ne_eq, Nat.reduceBNe, Nat.reduceBEq, IntKind.signed, Nat.reduceEqDiff, Nat.reduceLeDiff, Nat.reduceLT, eq_self, Int.reduceEq, Int.reduceLT, Int.reduceLE, Int.reduceAdd, Int.reduceSub, VC.regC_nil, VC.regC_cons, VC.regCK_eq, VC.callQ, VC.tailQ, VC.goCall, VC.chStep]
          subst hQ
          simp -dsimp only [Fa.F84, e4, rdI_of d0, d0, rdI_of d1, d1, d2, f2, hbl, VC.Now, VC.vc_skip, VC.vc_ret, VC.vc_exit, VC.vc_block, VC.vc_cond, VC.vc_region, VC.lib, VC.mapN_drewN, VC.mapB_drewN, VC.regQ, VC.loopK, VC.reg, VC.opP, VC.pv, VC.thenF, VC.blkF, VC.retF, VC.resV, VC.oneV, VC.evo, VC.bin, VC.binI, VC.cmpI, VC.arithI, VC.ldv, VC.slv, VC.pickP, VC.holds, VC.chainOf, VC.look, VC.junk, VC.put, VC.eff, VC.callee, VC.pureB, VC.rdK, VC.rdKs, VC.okKs, VC.eqKs, VC.fillL, VC.putL, VC.stW, VC.stOK, VC.mixF, VC.setAll, Nat.reduceAdd, Nat.reduceSub, Nat.reduceMul, if_true, if_false, ↓reduceIte, forall_const, implies_true, reduceCtorEq, ne_eq, Nat.reduceBNe, Nat.reduceBEq, IntKind.signed, Nat.reduceEqDiff, Nat.reduceLeDiff, Nat.reduceLT, eq_self, Int.reduceEq, Int.reduceLT, Int.reduceLE, Int.reduceAdd, Int.reduceSub, VC.regC_nil, VC.regC_cons, VC.regCK_eq, VC.callQ, VC.tailQ, VC.goCall, VC.chStep]
          have hva : fixB (s.bal i).own (s.num i) tb = ⟨s.num i, tb.v⟩ := by unfold fixB; rw [if_neg q4]
          have st6 : St B _ w (PMid n a s i a.vf a.vh vt1 s.fixd s.chosen { s.bal i with best := ⟨tb.n, tb.v⟩, prom := (s.bal i).prom + 1, fixed := true } (s.bal i).tooks (tookM (s.bal i))) _ := st5
          generalize w5 = w6 at st6 ⊢
          clear st5 hh5 bb d0 d1 d2 f1 f2 hbl
          have hh6 := st6.hp
          have bb : Box w6 (a.pb i) (balC (a.tb i) { s.bal i with best := ⟨tb.n, tb.v⟩, prom := (s.bal i).prom + 1, fixed := true }) := hh6.get 5 rfl
          have d1 := bb.at (i := 1) rfl
          have f1 := bb.soft (i := 1) (by show 1 < 6; omega)
          have hbl := bb.1
          (repeat rw [vc_seq]); refine vc_plain _ fun Q hQ => ?_; simp -dsimp only [Fa.F84, d1, f1, hbl, VC.Now, VC.vc_skip, VC.vc_ret, VC.vc_exit, VC.vc_block, VC.vc_cond, VC.vc_region, VC.lib, VC.mapN_drewN, VC.mapB_drewN, VC.regQ, VC.loopK, VC.reg, VC.opP, VC.pv, VC.thenF, VC.blkF, VC.retF, VC.resV, VC.oneV, VC.evo, VC.bin, VC.binI, VC.cmpI, VC.arithI, VC.ldv, VC.slv, VC.pickP, VC.holds, VC.chainOf, VC.look, VC.junk, VC.put, VC.eff, VC.callee, VC.pureB, VC.rdK, VC.rdKs, VC.okKs, VC.eqKs, VC.fillL, VC.putL, VC.stW, VC.stOK, VC.mixF, VC.setAll, Nat.reduceAdd, Nat.reduceSub, Nat.reduceMul, if_true, if_false, ↓reduceIte, forall_const, implies_true, reduceCtorEq, ne_eq, Nat.reduceBNe, Nat.reduceBEq, IntKind.signed, Nat.reduceEqDiff, Nat.reduceLeDiff, Nat.reduceLT, eq_self, Int.reduceEq, Int.reduceLT, Int.reduceLE, Int.reduceAdd, Int.reduceSub, VC.regC_nil, VC.regC_cons, VC.regCK_eq, VC.callQ, VC.tailQ, VC.goCall, VC.chStep]
          have st7 := st6.trans (hh6.setBox 5 rfl 1 (.int .i64 (s.num i)))
          replace st7 : St B _ w (PMid n a s i a.vf a.vh vt1 s.fixd s.chosen { s.bal i with best := ⟨s.num i, tb.v⟩, prom := (s.bal i).prom + 1, fixed := true } (s.bal i).tooks (tookM (s.bal i))) _ := st7
          generalize w6.setCell ⟨a.pb i, 1, none⟩ (.int .i64 (s.num i)) = w7 at st7 ⊢
          clear st6 hh6 bb d1 f1 hbl
          have hh7 := st7.hp
          have bb : Box w7 (a.pb i) (balC (a.tb i) { s.bal i with best := ⟨s.num i, tb.v⟩, prom := (s.bal i).prom + 1, fixed := true }) := hh7.get 5 rfl
          have d1 := bb.at (i := 1) rfl
          have d2 := bb.at (i := 2) rfl
          have hbl := bb.1
          have bw : Box w7 a.wb [.slice (some ⟨a.gv, 0, none⟩) n n, .map (some a.mb), a.vc, nilS, a.vf, a.vh] := hh7.get 0 rfl
          have y4 := bw.at (i := 4) rfl
          have hwl := bw.1
          have hown : OwnK w7 0 117 2 s.fixd.length a.vf (s.fixd.flatMap bL) := hh7.get 3 rfl
          obtain ⟨Af, cf, ef, _⟩ := id hown
          rw [ef] at y4
          have nwb : ¬ a.vf.ownBlock = some a.wb := fun hf => hh7.ne 3 0 (by decide) rfl rfl a.wb hf rfl
          have npb : ¬ a.vf.ownBlock = some (a.pb i) := fun hf => hh7.ne 3 5 (by decide) rfl rfl (a.pb i) hf rfl
          have hHd := hh7.drewN 1
          have ag0 : Agree (fun j => a.vf.ownBlock = some j) w7 (w7.drewN 1) := Agree.of_below (below_drewN (Below.refl _ w7) 1)
          subst hQ
          refine WP_held 15 (fun j => a.vf.ownBlock = some j) (.take 0 (.take 1 (.take 2 (.take 3 (.take 4 (.take 5 (.take 6 (.take 7 (.take 8 (.take 9 (.one 10 (.one 11 (.one 12 (.one 13 (.take 14 (.one 15 .done)))))))))))))))) Fa.mix (by kernel_rfl) rfl ?_
          simp -dsimp only [VC.heldF_done, VC.heldF_last, VC.planF_done, VC.planF_take, VC.planF_one, VC.planF_two, VC.planK_eq, VC.heldF_take, VC.heldF_one, VC.heldF_two, VC.heldF_twoL, VC.heldK_eq, VC.okRd, Fa.F84, rdSA_of y4, rdSN_of y4, rdSC_of y4, y4, rdI_of d1, d1, rdI_of d2, d2, hbl, hwl, VC.Now, VC.vc, VC.lib, VC.mapN_drewN, VC.mapB_drewN, VC.regQ, VC.loopK, VC.reg, VC.opP, VC.pv, VC.thenF, VC.blkF, VC.retF, VC.resV, VC.oneV, VC.evo, VC.bin, VC.binI, VC.cmpI, VC.arithI, VC.ldv, VC.slv, VC.pickP, VC.holds, VC.chainOf, VC.look, VC.junk, VC.put, VC.eff, VC.callee, VC.pureB, VC.rdK, VC.rdKs, VC.okKs, VC.eqKs, VC.fillL, VC.putL, VC.stW, VC.stOK, VC.mixF, VC.setAll, Nat.reduceAdd, Nat.reduceSub, Nat.reduceMul, if_true, if_false, ↓reduceIte, forall_const, implies_true, reduceCtorEq, ne_eq, Nat.reduceBNe, Nat.reduceBEq, IntKind.signed, Nat.reduceEqDiff, Nat.reduceLeDiff, Nat.reduceLT, eq_self, Int.reduceEq, Int.reduceLT, Int.reduceLE, Int.reduceAdd, Int.reduceSub, VC.regC_nil, VC.regC_cons, VC.regCK_eq, VC.callQ, VC.tailQ, VC.goCall, VC.chStep]
          refine ⟨nwb, npb, ag0.trans (Agree.of_below ((Below.refl _ _).alloc (Nat.le_refl _) _)), ?_⟩
          have hfl := hok.fixd
          refine OPW_appK (v := a.vf) rfl Fa.apI35 (by rw [ef]; rfl) rfl rfl (by simp [Value.oneCell']) (hHd.get 3 rfl) (Nat.zero_le _) (by omega) (by decide) fun v8 w8 ho8 hg8 hst8 => ?_
          have hfe : (s.fixd ++ [(⟨s.num i, tb.v⟩ : Bal)]).flatMap bL = s.fixd.flatMap bL ++ [.int .i64 (s.num i), .int .i64 tb.v] := by rw [List.flatMap_append]; rfl
          have hfn : (s.fixd ++ [(⟨s.num i, tb.v⟩ : Bal)]).length = s.fixd.length + 1 := by simp
          rw [← hfe, ← hfn] at ho8
          obtain ⟨⟨r1, r2⟩, st8⟩ := hHd.growField 0 3 rfl rfl (by decide) ho8 hg8 hst8 4 (by show 4 < 6; omega)
          obtain ⟨A8, c8, rfl, _⟩ := id ho8
          have ag8 := ag0.trans (Agree.grown hg8 fun l hl => hl)
          have hw8 : a.wb < w8.heap.size := by simpa using (st8.hp.get 0 rfl : Box _ a.wb _).1
          have hres : pask n i x s = (0, { s with vt := vt1, bal := upd s.bal i { s.bal i with best := ⟨s.num i, tb.v⟩, prom := (s.bal i).prom + 1, fixed := true }, fixd := s.fixd ++ [⟨s.num i, tb.v⟩] }) := by unfold pask; rw [if_neg q1, if_neg (by rw [hf]; decide), if_pos q3, hvt, htb, hva]
          have e := pmid_end (n := n) (a := a) (s := s) hi (vf := .slice A8 (s.fixd ++ [(⟨s.num i, tb.v⟩ : Bal)]).length c8) (vh := a.vh) (vt := vt1) (fx := s.fixd ++ [⟨s.num i, tb.v⟩]) (ch := s.chosen) (o := { s.bal i with best := ⟨s.num i, tb.v⟩, prom := (s.bal i).prom + 1, fixed := true })
          simp -dsimp only [VC.heldF_done, VC.heldF_last, VC.planF_done, VC.planF_take, VC.planF_one, VC.planF_two, VC.planK_eq, VC.heldF_take, VC.heldF_one, VC.heldF_two, VC.heldF_twoL, VC.heldK_eq, VC.okRd, Fa.F84, rdSA_of y4, rdSN_of y4, rdSC_of y4, y4, rdI_of d1, d1, rdI_of d2, d2, hbl, hwl, hw8, VC.Now, VC.vc, VC.lib, VC.mapN_drewN, VC.mapB_drewN, VC.regQ, VC.loopK, VC.reg, VC.opP, VC.pv, VC.thenF, VC.blkF, VC.retF, VC.resV, VC.oneV, VC.evo, VC.bin, VC.binI, VC.cmpI, VC.arithI, VC.ldv, VC.slv, VC.pickP, VC.holds, VC.chainOf, VC.look, VC.junk, VC.put, VC.eff, VC.callee, VC.pureB, VC.rdK, VC.rdKs, VC.okKs, VC.eqKs, VC.fillL, VC.putL, VC.stW, VC.stOK, VC.mixF, VC.setAll, Nat.reduceAdd, Nat.reduceSub, Nat.reduceMul, if_true, if_false, ↓reduceIte, forall_const, implies_true, reduceCtorEq, ne_eq, Nat.reduceBNe, Nat.reduceBEq, IntKind.signed, Nat.reduceEqDiff, Nat.reduceLeDiff, Nat.reduceLT, eq_self, Int.reduceEq, Int.reduceLT, Int.reduceLE, Int.reduceAdd, Int.reduceSub, VC.regC_nil, VC.regC_cons, VC.regCK_eq, VC.callQ, VC.tailQ, VC.goCall, VC.chStep]
          refine ⟨ag8, ag8, ag8, ⟨r1, r2⟩, ?_⟩
          rw [hres]
          exact ⟨rfl, { a with vf := .slice A8 (s.fixd ++ [(⟨s.num i, tb.v⟩ : Bal)]).length c8 }, rfl, rfl, ((st7.drewN 1).trans st8).perm (pmid_start hi).symm e⟩
      · have e3 := decide_eq_false q3
        simp -dsimp only [Fa.F84, e3, d4, f4, hbl, VC.Now, VC.vc_skip, VC.vc_ret, VC.vc_exit, VC.vc_block, VC.vc_cond, VC.vc_region, VC.lib, VC.mapN_drewN, VC.mapB_drewN, VC.regQ, VC.loopK, VC.reg, VC.opP, VC.pv, VC.thenF, VC.blkF, VC.retF, VC.resV, VC.oneV, VC.evo, VC.bin, VC.binI, VC.cmpI, VC.arithI, VC.ldv, VC.slv, VC.pickP, VC.holds, VC.chainOf, VC.look, VC.junk, VC.put, VC.eff, VC.callee, VC.pureB, VC.rdK, VC.rdKs, VC.okKs, VC.eqKs, VC.fillL, VC.putL, VC.stW, VC.stOK, VC.mixF, VC.setAll, Nat.reduceAdd, Nat.reduceSub, Nat.reduceMul, if_true, if_false, ↓reduceIte, forall_const, implies_true, reduceCtorEq, ne_eq, Nat.reduceBNe, Nat.reduceBEq, IntKind.signed, Nat.reduceEqDiff, Nat.reduceLeDiff, Nat.reduceLT, eq_self, Int.reduceEq, Int.reduceLT, Int.reduceLE, Int.reduceAdd, Int.reduceSub, VC.regC_nil, VC.regC_cons, VC.regCK_eq, VC.callQ, VC.tailQ, VC.goCall, VC.chStep]
        subst hQ
        simp -dsimp only [Fa.F84, e3, d4, f4, hbl, VC.Now, VC.vc, VC.lib, VC.mapN_drewN, VC.mapB_drewN, VC.regQ, VC.loopK, VC.reg, VC.opP, VC.pv, VC.thenF, VC.blkF, VC.retF, VC.resV, VC.oneV, VC.evo, VC.bin, VC.binI, VC.cmpI, VC.arithI, VC.ldv, VC.slv, VC.pickP, VC.holds, VC.chainOf, VC.look, VC.junk, VC.put, VC.eff, VC.callee, VC.pureB, VC.rdK, VC.rdKs, VC.okKs, VC.eqKs, VC.fillL, VC.putL, VC.stW, VC.stOK, VC.mixF, VC.setAll, Nat.reduceAdd, Nat.reduceSub, Nat.reduceMul, if_true, if_false, ↓reduceIte, forall_const, implies_true, reduceCtorEq, ne_eq, Nat.reduceBNe, Nat.reduceBEq, IntKind.signed, Nat.reduceEqDiff, Nat.reduceLeDiff, Nat.reduceLT, eq_self, Int.reduceEq, Int.reduceLT, Int.reduceLE, Int.reduceAdd, Int.reduceSub, VC.regC_nil, VC.regC_cons, VC.regCK_eq, VC.callQ, VC.tailQ, VC.goCall, VC.chStep]
        have hres : pask n i x s = (0, { s with vt := vt1, bal := upd s.bal i { s.bal i with best := tb, prom := (s.bal i).prom + 1 } }) := by unfold pask; rw [if_neg q1, if_neg (by rw [hf]; decide), if_neg q3, hvt, htb]
        have e := pmid_end (n := n) (a := a) (s := s) hi (vf := a.vf) (vh := a.vh) (vt := vt1) (fx := s.fixd) (ch := s.chosen) (o := { s.bal i with best := tb, prom := (s.bal i).prom + 1 })
        rw [hres]
        exact ⟨rfl, a, rfl, rfl, st4.perm (pmid_start hi).symm e⟩
end
end Go.Proofs.Ytelfmhiaafkimaa
