/- An assembly as the document has it: a new block; one learns. -/
import Derived.Test.YtnggjekppdlaoaaMootR2
namespace Go.Proofs.Ytnggjekppdlaoaa
open Go Go.RowKit Go.VC
set_option linter.unusedSimpArgs false
set_option linter.unusedVariables false
section
variable {B n f liars t : Nat} {a : RA} {s : MS} {V T : List Vo} {w : World}
/-- The frame's first box: the step. -/
theorem say_box (c : Say) (w : World) (t : TypeId) : Box (w.alloc (.cells (sayL c).toArray t)) w.heap.size (sayL c) := Box.new w _ _

set_option maxRecDepth 8000 in
set_option maxHeartbeats 4000000 in
theorem blockR_any (h : Hp B (RObs n f liars a s V T) w) (hR : RRel n liars s V T) (hok : MOK n t s) (hn : n ≤ 32) (hf : f ≤ n) (hV : V.length ≤ 1000) {c : Say} (hc : SayOK c) :
    Calls Try.prog 75 #[.pointer (some ⟨a.mb, 0, none⟩), sayV c] w (RPost B n f liars a s V T w (mblock (n - f) c s)) := by
  obtain ⟨f1, f2, f3, f4⟩ := hc
  have hB0 : Below w.heap.size w (w.alloc (.cells (sayL c).toArray 124)) := (Below.refl _ _).alloc (Nat.le_refl _) _
  have hs0 := say_box c w 124
  refine calls_vc (rs := [.tmp 4]) Fa.mix Try.func75 rfl Try.ntmps75 rfl (by kernel_rfl) (Nat.le_of_ble_eq_true rfl) ?_
  (repeat rw [vc_seq]); refine vc_plain _ fun Q hQ => ?_; simp -dsimp only [Fa.F75, VC.Now, VC.vc_skip, VC.vc_ret, VC.vc_exit, VC.vc_block, VC.vc_cond, VC.vc_region, VC.lib, VC.regQ, VC.loopK, VC.reg, VC.opP, VC.pv, VC.thenF, VC.blkF, VC.retF, VC.resV, VC.oneV, VC.evo, VC.bin, VC.binI, VC.cmpI, VC.arithI, VC.ldv, VC.slv, VC.pickP, VC.holds, VC.chainOf, VC.look, VC.junk, VC.put, VC.eff, VC.callee, VC.pureB, VC.rdK, VC.rdKs, VC.okKs, VC.eqKs, VC.fillL, VC.putL, VC.stW, VC.stOK, VC.mixF, VC.setAll, Nat.reduceAdd, Nat.reduceSub, Nat.reduceMul, if_true, if_false, ↓reduceIte, forall_const, implies_true, reduceCtorEq, ne_eq, Nat.reduceBNe, Nat.reduceBEq, IntKind.signed, Nat.reduceEqDiff, Nat.reduceLeDiff, Nat.reduceLT, eq_self, Int.reduceEq, Int.reduceLT, Int.reduceLE, Int.reduceAdd, Int.reduceSub, VC.regC_nil, VC.regC_cons, VC.regCK_eq, VC.callQ, VC.tailQ, VC.goCall, VC.chStep]
  generalize hsb : w.heap.size = sb at hs0 ⊢
  change Q _ _ (w.alloc (.cells (sayL c).toArray 124))
  generalize w.alloc (.cells (sayL c).toArray 124) = w1 at hs0 hB0 ⊢
  subst hQ
  have h1 := h.below hB0
  obtain ⟨g, cb, e, hg, hblk⟩ := ro_blk h1 hok.nb0
  have b3 := (ro_box h1).at (i := 3) rfl
  rw [e] at b3
  have hm := (ro_box h1).1
  have z2 := hs0.at (i := 2) rfl
  have z3 := hs0.at (i := 3) rfl
  have hnb := hok.nb1
  by_cases q0 : isBlk s c.block
  · obtain ⟨b0, hb0, hbt⟩ : ∃ b0 : Nat, c.block = b0 ∧ b0 < s.nb := ⟨c.block.toNat, by have := q0.1; omega, by have := q0.2; have := q0.1; omega⟩
    have hbN : c.block.toNat = b0 := by omega
    rw [hb0] at z2
    have r1 := (hblk b0 hbt).2
    have e0 : (((b0 : Nat) : Int) < 0) = False := eq_false (by omega)
    have e1 : ((s.nb : Int) ≤ ((b0 : Nat) : Int)) = False := eq_false (by omega)
    simp -dsimp only [Fa.F75, rdSA_of b3, rdSN_of b3, rdSC_of b3, b3, rdI_of z2, z2, rdI_of z3, z3, rdI_of r1, r1, e0, e1, VC.Now, VC.vc, VC.lib, VC.regQ, VC.loopK, VC.reg, VC.opP, VC.pv, VC.thenF, VC.blkF, VC.retF, VC.resV, VC.oneV, VC.evo, VC.bin, VC.binI, VC.cmpI, VC.arithI, VC.ldv, VC.slv, VC.pickP, VC.holds, VC.chainOf, VC.look, VC.junk, VC.put, VC.eff, VC.callee, VC.pureB, VC.rdK, VC.rdKs, VC.okKs, VC.eqKs, VC.fillL, VC.putL, VC.stW, VC.stOK, VC.mixF, VC.setAll, Nat.reduceAdd, Nat.reduceSub, Nat.reduceMul, if_true, if_false, ↓reduceIte, forall_const, implies_true, reduceCtorEq, ne_eq, Nat.reduceBNe, Nat.reduceBEq, IntKind.signed, Nat.reduceEqDiff, Nat.reduceLeDiff, Nat.reduceLT, eq_self, Int.reduceEq, Int.reduceLT, Int.reduceLE, Int.reduceAdd, Int.reduceSub, VC.regC_nil, VC.regC_cons, VC.regCK_eq, VC.callQ, VC.tailQ, VC.goCall, VC.chStep]
    refine ⟨⟨by omega, by omega⟩, fun u m => ⟨fun hd => RPost.same h hR (hB0.trans ((below_drewN (Below.refl _ w1) m).mono hB0.size)) (by unfold mblock; rw [if_pos (by rw [hbN]; exact Or.inr hd)]), fun hd => ?_⟩⟩
    have hcond : ¬ (¬ isBlk s c.block ∨ c.round ≤ s.r c.block.toNat ∨ 1000 < c.round) := by rw [hbN, not_or, Classical.not_not]; exact ⟨q0, hd⟩
    refine CALL_of (certR_any (h1.drewN m) hR hok hn hf hV hbt) fun w3 hw3 => ?_
    have hB3 := hB0.trans (((below_drewN (Below.refl _ w1) m).trans hw3).mono hB0.size)
    have h3 := h.below hB3
    have hs3 := hs0.below ((below_drewN (Below.refl _ w1) m).trans hw3)
    clear b3 z2 z3 r1
    have z2 := hs3.at (i := 2) rfl
    have z3 := hs3.at (i := 3) rfl
    rw [hb0] at z2
    have b3 := (ro_box h3).at (i := 3) rfl
    rw [e] at b3
    cases hce : certB (n - f) s b0
    · simp -dsimp only [Fa.F75, rdSA_of b3, rdSN_of b3, rdSC_of b3, b3, rdI_of z2, z2, rdI_of z3, z3, VC.Now, VC.vc, VC.lib, VC.regQ, VC.loopK, VC.reg, VC.opP, VC.pv, VC.thenF, VC.blkF, VC.retF, VC.resV, VC.oneV, VC.evo, VC.bin, VC.binI, VC.cmpI, VC.arithI, VC.ldv, VC.slv, VC.pickP, VC.holds, VC.chainOf, VC.look, VC.junk, VC.put, VC.eff, VC.callee, VC.pureB, VC.rdK, VC.rdKs, VC.okKs, VC.eqKs, VC.fillL, VC.putL, VC.stW, VC.stOK, VC.mixF, VC.setAll, Nat.reduceAdd, Nat.reduceSub, Nat.reduceMul, if_true, if_false, ↓reduceIte, forall_const, implies_true, reduceCtorEq, ne_eq, Nat.reduceBNe, Nat.reduceBEq, IntKind.signed, Nat.reduceEqDiff, Nat.reduceLeDiff, Nat.reduceLT, eq_self, Int.reduceEq, Int.reduceLT, Int.reduceLE, Int.reduceAdd, Int.reduceSub, VC.regC_nil, VC.regC_cons, VC.regCK_eq, VC.callQ, VC.tailQ, VC.goCall, VC.chStep]
      exact RPost.same h hR hB3 (by unfold mblock; rw [if_neg hcond, hbN, if_pos hce])
    simp -dsimp only [Fa.F75, rdSA_of b3, rdSN_of b3, rdSC_of b3, b3, rdI_of z2, z2, rdI_of z3, z3, VC.Now, VC.vc, VC.lib, VC.regQ, VC.loopK, VC.reg, VC.opP, VC.pv, VC.thenF, VC.blkF, VC.retF, VC.resV, VC.oneV, VC.evo, VC.bin, VC.binI, VC.cmpI, VC.arithI, VC.ldv, VC.slv, VC.pickP, VC.holds, VC.chainOf, VC.look, VC.junk, VC.put, VC.eff, VC.callee, VC.pureB, VC.rdK, VC.rdKs, VC.okKs, VC.eqKs, VC.fillL, VC.putL, VC.stW, VC.stOK, VC.mixF, VC.setAll, Nat.reduceAdd, Nat.reduceSub, Nat.reduceMul, if_true, if_false, ↓reduceIte, forall_const, implies_true, reduceCtorEq, ne_eq, Nat.reduceBNe, Nat.reduceBEq, IntKind.signed, Nat.reduceEqDiff, Nat.reduceLeDiff, Nat.reduceLT, eq_self, Int.reduceEq, Int.reduceLT, Int.reduceLE, Int.reduceAdd, Int.reduceSub, VC.regC_nil, VC.regC_cons, VC.regCK_eq, VC.callQ, VC.tailQ, VC.goCall, VC.chStep]
    refine ⟨fun h40 => RPost.same h hR hB3 (by unfold mblock; rw [if_neg hcond, hbN, if_neg (by simp [hce]), if_pos (by omega)]), fun h40 => ?_⟩
    have hng : a.mb ≠ g ∧ sb ≠ g := ⟨fun eq => h3.ne 0 1 (by decide) rfl rfl a.mb rfl (by show a.vb.ownBlock = _; rw [e, eq]; rfl), fun eq => by have := (h.lt 1 rfl (g := g) (by show a.vb.ownBlock = _; rw [e]; rfl)).2; omega⟩
    have hl3 : sb < w3.heap.size := hs3.1
    have ag0 : Agree (fun j => j = g) w3 (w3.drewN 1) := Agree.of_below (below_drewN (Below.refl _ w3) 1)
    have hp4 := h3.drewN 1
    refine WP_held 14 (fun j => j = g) (.take 0 (.take 1 (.take 2 (.take 3 (.take 4 (.take 5 (.take 6 (.take 7 (.take 8 (.take 9 (.one 10 (.one 11 (.one 12 (.take 13 (.one 14 .done))))))))))))))) Fa.mix (by kernel_rfl) rfl ?_
    simp -dsimp only [VC.heldF_done, VC.heldF_last, VC.planF_done, VC.planF_take, VC.planF_one, VC.planF_two, VC.planK_eq, VC.heldF_take, VC.heldF_one, VC.heldF_two, VC.heldF_twoL, VC.heldK_eq, VC.okRd, Fa.F75, rdSA_of b3, rdSN_of b3, rdSC_of b3, b3, rdI_of z2, z2, rdI_of z3, z3, VC.Now, VC.vc, VC.lib, VC.regQ, VC.loopK, VC.reg, VC.opP, VC.pv, VC.thenF, VC.blkF, VC.retF, VC.resV, VC.oneV, VC.evo, VC.bin, VC.binI, VC.cmpI, VC.arithI, VC.ldv, VC.slv, VC.pickP, VC.holds, VC.chainOf, VC.look, VC.junk, VC.put, VC.eff, VC.callee, VC.pureB, VC.rdK, VC.rdKs, VC.okKs, VC.eqKs, VC.fillL, VC.putL, VC.stW, VC.stOK, VC.mixF, VC.setAll, Nat.reduceAdd, Nat.reduceSub, Nat.reduceMul, if_true, if_false, ↓reduceIte, forall_const, implies_true, reduceCtorEq, ne_eq, Nat.reduceBNe, Nat.reduceBEq, IntKind.signed, Nat.reduceEqDiff, Nat.reduceLeDiff, Nat.reduceLT, eq_self, Int.reduceEq, Int.reduceLT, Int.reduceLE, Int.reduceAdd, Int.reduceSub, VC.regC_nil, VC.regC_cons, VC.regCK_eq, VC.callQ, VC.tailQ, VC.goCall, VC.chStep]
    refine ⟨⟨(ro_box h3).1, hng.1⟩, ⟨hl3, hng.2⟩, ⟨hl3, hng.2⟩, ag0.trans (Agree.of_below ((Below.refl _ _).alloc (Nat.le_refl _) _)), ?_⟩
    refine OPW_appK (v := a.vb) rfl Fa.apI45 e.symm rfl rfl (by simp [Value.oneCell']) (hp4.get 1 rfl) (Nat.zero_le _) (by omega) (by decide) fun v5 w5 ho5 hg5 hst5 => ?_
    have hbc : blkC s.p s.r s.nb ++ [Value.int .i64 (b0 : Int), .int .i64 c.round] = blkC (upd s.p s.nb c.block) (upd s.r s.nb c.round) (s.nb + 1) := by
      rw [blkC, upd_same, upd_same, hb0]
      congr 1
      exact blkC_congr fun i hi => ⟨(upd_other (by omega)).symm, (upd_other (by omega)).symm⟩
    rw [hbc] at ho5
    obtain ⟨⟨s1, s2⟩, st5⟩ := hp4.growField 0 1 rfl rfl (by decide) ho5 hg5 hst5 3 (by show 3 < 8; omega)
    obtain ⟨A5, c5, rfl, _⟩ := id ho5
    have ag5 : Agree (fun j => j = g) w3 w5 := ag0.trans (Agree.grown hg5 fun k hk => by rw [e] at hk; cases hk; rfl)
    simp -dsimp only [VC.heldF_done, VC.heldF_last, VC.planF_done, VC.planF_take, VC.planF_one, VC.planF_two, VC.planK_eq, VC.heldF_take, VC.heldF_one, VC.heldF_two, VC.heldF_twoL, VC.heldK_eq, VC.okRd, Fa.F75, rdSA_of b3, rdSN_of b3, rdSC_of b3, b3, rdI_of z2, z2, rdI_of z3, z3, VC.Now, VC.vc, VC.lib, VC.regQ, VC.loopK, VC.reg, VC.opP, VC.pv, VC.thenF, VC.blkF, VC.retF, VC.resV, VC.oneV, VC.evo, VC.bin, VC.binI, VC.cmpI, VC.arithI, VC.ldv, VC.slv, VC.pickP, VC.holds, VC.chainOf, VC.look, VC.junk, VC.put, VC.eff, VC.callee, VC.pureB, VC.rdK, VC.rdKs, VC.okKs, VC.eqKs, VC.fillL, VC.putL, VC.stW, VC.stOK, VC.mixF, VC.setAll, Nat.reduceAdd, Nat.reduceSub, Nat.reduceMul, if_true, if_false, ↓reduceIte, forall_const, implies_true, reduceCtorEq, ne_eq, Nat.reduceBNe, Nat.reduceBEq, IntKind.signed, Nat.reduceEqDiff, Nat.reduceLeDiff, Nat.reduceLT, eq_self, Int.reduceEq, Int.reduceLT, Int.reduceLE, Int.reduceAdd, Int.reduceSub, VC.regC_nil, VC.regC_cons, VC.regCK_eq, VC.callQ, VC.tailQ, VC.goCall, VC.chStep]
    have hr : mblock (n - f) c s = (0, { s with nb := s.nb + 1, p := upd s.p s.nb c.block, r := upd s.r s.nb c.round, vm := upd s.vm s.nb 0 }) := by
      unfold mblock; rw [if_neg hcond, hbN, if_neg (by simp [hce]), if_neg (by omega)]
    rw [hr]
    exact ⟨ag5, ag5, ⟨s1, s2⟩, rfl, .slice A5 (s.nb + 1) c5, a.vo, a.vl, V, T, hR.block _ _, by omega, by omega, ((h.below_st hB3).drewN 1).trans st5⟩
  · have e0 : ((c.block < 0) ∨ ((s.nb : Int) ≤ c.block)) = True := eq_true (by unfold isBlk at q0; omega)
    simp -dsimp only [Fa.F75, rdSA_of b3, rdSN_of b3, rdSC_of b3, b3, rdI_of z2, z2, rdI_of z3, z3, e0, VC.Now, VC.vc, VC.lib, VC.regQ, VC.loopK, VC.reg, VC.opP, VC.pv, VC.thenF, VC.blkF, VC.retF, VC.resV, VC.oneV, VC.evo, VC.bin, VC.binI, VC.cmpI, VC.arithI, VC.ldv, VC.slv, VC.pickP, VC.holds, VC.chainOf, VC.look, VC.junk, VC.put, VC.eff, VC.callee, VC.pureB, VC.rdK, VC.rdKs, VC.okKs, VC.eqKs, VC.fillL, VC.putL, VC.stW, VC.stOK, VC.mixF, VC.setAll, Nat.reduceAdd, Nat.reduceSub, Nat.reduceMul, if_true, if_false, ↓reduceIte, forall_const, implies_true, reduceCtorEq, ne_eq, Nat.reduceBNe, Nat.reduceBEq, IntKind.signed, Nat.reduceEqDiff, Nat.reduceLeDiff, Nat.reduceLT, eq_self, Int.reduceEq, Int.reduceLT, Int.reduceLE, Int.reduceAdd, Int.reduceSub, VC.regC_nil, VC.regC_cons, VC.regCK_eq, VC.callQ, VC.tailQ, VC.goCall, VC.chStep]
    exact ⟨id, fun hh => absurd hh q0, fun m => RPost.same h hR (hB0.trans ((below_drewN (Below.refl _ w1) m).mono hB0.size)) (by unfold mblock; rw [if_pos (Or.inl q0)])⟩
end
end Go.Proofs.Ytnggjekppdlaoaa
