/- An assembly in memory: a vote; one learns of a block. -/
import Derived.Test.YtnggjekppdlaoaaMoot2
namespace Go.Proofs.Ytnggjekppdlaoaa
open Go Go.RowKit Go.VC
set_option linter.unusedSimpArgs false
set_option linter.unusedVariables false
section
variable {B n need liars t : Nat} {a : MA} {s : MS} {w : World}
theorem isb_false {s : MS} {b : Int} (h : ¬ isBlk s b) : (decide (0 ≤ b) && decide (b < s.nb)) = false := by
  cases hh : (decide (0 ≤ b) && decide (b < s.nb)) with
  | false => rfl
  | true => rw [Bool.and_eq_true, decide_eq_true_eq, decide_eq_true_eq] at hh; exact absurd hh h
theorem isb_true {s : MS} {b : Nat} (h : b < s.nb) : (decide (0 ≤ (b : Int)) && decide ((b : Int) < s.nb)) = true := by
  rw [decide_eq_true (by omega), decide_eq_true (by omega)]; rfl

theorem mo_setKn (h : Hp B (MObs n need liars a s) w) {i : Nat} (hi : i < n) (x : Int) : St B (MObs n need liars a s) w (MObs n need liars a { s with kn := upd s.kn i x }) (w.setCell ⟨a.gm, i * 2 + 1, none⟩ (.int .i64 x)) := by
  have hr : Recs w a.gm n 2 (memC s) := h.get 3 rfl
  have hs := hr.set (j := 1) hi (by omega) rfl (.int .i64 x)
  have e : upd (memC s) i ((memC s i).set 1 (.int .i64 x)) = memC { s with kn := upd s.kn i x } := by
    funext j
    by_cases hj : j = i
    · subst hj; rw [upd_same]; show _ = [Value.int .i64 (s.vd j), .int .i64 (upd s.kn j x j)]; rw [upd_same]; rfl
    · rw [upd_other hj]; show _ = [Value.int .i64 (s.vd j), .int .i64 (upd s.kn i x j)]; rw [upd_other hj]
  rw [e] at hs
  exact h.st 3 rfl (o' := oRecs a.gm n 2 (memC { s with kn := upd s.kn i x })) hs (Agree.setCell w _ rfl) (Or.inl rfl)
theorem mo_setVd (h : Hp B (MObs n need liars a s) w) {i : Nat} (hi : i < n) (x : Int) : St B (MObs n need liars a s) w (MObs n need liars a { s with vd := upd s.vd i x }) (w.setCell ⟨a.gm, i * 2, none⟩ (.int .i64 x)) := by
  have hr : Recs w a.gm n 2 (memC s) := h.get 3 rfl
  have hs := hr.set (j := 0) hi (by omega) rfl (.int .i64 x)
  have e : upd (memC s) i ((memC s i).set 0 (.int .i64 x)) = memC { s with vd := upd s.vd i x } := by
    funext j
    by_cases hj : j = i
    · subst hj; rw [upd_same]; show _ = [Value.int .i64 (upd s.vd j x j), .int .i64 (s.kn j)]; rw [upd_same]; rfl
    · rw [upd_other hj]; show _ = [Value.int .i64 (upd s.vd i x j), .int .i64 (s.kn j)]; rw [upd_other hj]
  rw [e] at hs
  exact h.st 3 rfl (o' := oRecs a.gm n 2 (memC { s with vd := upd s.vd i x })) hs (Agree.setCell w _ rfl) (Or.inl rfl)
theorem mo_setVm (h : Hp B (MObs n need liars a s) w) {g c : Nat} (e : a.vv = .slice (some ⟨g, 0, none⟩) s.nb c) {b : Nat} (hb : b < s.nb) (x : Nat) : St B (MObs n need liars a s) w (MObs n need liars a { s with vm := upd s.vm b x }) (w.setCell ⟨g, b, none⟩ (.int .u32 x)) := by
  have ho : OwnK w 0 33 1 s.nb a.vv (votC s) := h.get 2 rfl
  rw [e] at ho
  have hs := ho.stored b (.int .u32 (x : Int))
  have ev : (votC s).set b (.int .u32 (x : Int)) = votC { s with vm := upd s.vm b x } := by
    apply List.ext_getElem
    · simp [votC]
    · intro j h1 h2
      have hj : j < s.nb := by simpa [votC] using h1
      rw [List.getElem_set]
      simp only [votC, List.getElem_map, List.getElem_range]
      split
      · rename_i hj; subst hj; rw [upd_same]
      · rename_i hj; rw [upd_other (Ne.symm hj)]
  rw [ev, ← e] at hs
  exact h.st 2 rfl (o' := oOwn 33 1 s.nb a.vv (votC { s with vm := upd s.vm b x })) hs (Agree.setCell w _ (by show a.vv.ownBlock = _; rw [e]; rfl)) (Or.inl rfl)

set_option maxRecDepth 8000 in
set_option maxHeartbeats 4000000 in
theorem learn_any (h : Hp B (MObs n need liars a s) w) (hok : MOK n t s) (hn : n ≤ 32) (hnd : need ≤ 1000) (hl : liars < 4294967296) {c : Say} {i : Nat} (hi : i < n) :
    Calls Try.prog 71 #[.pointer (some ⟨a.mb, 0, none⟩), .int .i64 i, .int .i64 c.block] w (MPost B n need liars a s w (mlearn need liars i c s)) := by
  by_cases q0 : isBlk s c.block
  · obtain ⟨b0, hb0, hbt⟩ : ∃ b0 : Nat, c.block = b0 ∧ b0 < s.nb := ⟨c.block.toNat, by have := q0.1; omega, by have := q0.2; have := q0.1; omega⟩
    have hbN : c.block.toNat = b0 := by omega
    rw [hb0]
    refine calls_vc (rs := [.tmp 6]) Fa.mix Try.func71 rfl Try.ntmps71 rfl (by kernel_rfl) (Nat.le_of_ble_eq_true rfl) ?_
    simp -dsimp only [Fa.F71, VC.Now, VC.vc, VC.lib, VC.regQ, VC.loopK, VC.reg, VC.opP, VC.pv, VC.thenF, VC.blkF, VC.retF, VC.resV, VC.oneV, VC.evo, VC.bin, VC.binI, VC.cmpI, VC.arithI, VC.ldv, VC.slv, VC.pickP, VC.holds, VC.chainOf, VC.look, VC.junk, VC.put, VC.eff, VC.callee, VC.pureB, VC.rdK, VC.rdKs, VC.okKs, VC.eqKs, VC.fillL, VC.putL, VC.stW, VC.stOK, VC.mixF, VC.setAll, Nat.reduceAdd, Nat.reduceSub, Nat.reduceMul, if_true, if_false, ↓reduceIte, forall_const, implies_true, reduceCtorEq, ne_eq, Nat.reduceBNe, Nat.reduceBEq, IntKind.signed, Nat.reduceEqDiff, Nat.reduceLeDiff, Nat.reduceLT, eq_self, Int.reduceEq, Int.reduceLT, Int.reduceLE, Int.reduceAdd, Int.reduceSub, VC.regC_nil, VC.regC_cons, VC.regCK_eq, VC.callQ, VC.tailQ, VC.goCall, VC.chStep]
    refine CALL_of (isblk_any h hok (b0 : Int)) fun w1 hw1 => ?_
    rw [isb_true hbt]
    have h1 := h.below hw1
    simp -dsimp only [Fa.F71, VC.Now, VC.vc, VC.lib, VC.regQ, VC.loopK, VC.reg, VC.opP, VC.pv, VC.thenF, VC.blkF, VC.retF, VC.resV, VC.oneV, VC.evo, VC.bin, VC.binI, VC.cmpI, VC.arithI, VC.ldv, VC.slv, VC.pickP, VC.holds, VC.chainOf, VC.look, VC.junk, VC.put, VC.eff, VC.callee, VC.pureB, VC.rdK, VC.rdKs, VC.okKs, VC.eqKs, VC.fillL, VC.putL, VC.stW, VC.stOK, VC.mixF, VC.setAll, Nat.reduceAdd, Nat.reduceSub, Nat.reduceMul, if_true, if_false, ↓reduceIte, forall_const, implies_true, reduceCtorEq, ne_eq, Nat.reduceBNe, Nat.reduceBEq, IntKind.signed, Nat.reduceEqDiff, Nat.reduceLeDiff, Nat.reduceLT, eq_self, Int.reduceEq, Int.reduceLT, Int.reduceLE, Int.reduceAdd, Int.reduceSub, VC.regC_nil, VC.regC_cons, VC.regCK_eq, VC.callQ, VC.tailQ, VC.goCall, VC.chStep]
    refine CALL_of (certified_any h1 hok hn hnd hbt) fun w2 hw2 => ?_
    have h2 := h1.below hw2
    have hB2 := hw1.trans (hw2.mono hw1.size)
    cases hce : certB need s b0
    · simp -dsimp only [Fa.F71, undef, tu, uf, ul, ur, VC.Now, VC.vc, VC.lib, VC.regQ, VC.loopK, VC.reg, VC.opP, VC.pv, VC.thenF, VC.blkF, VC.retF, VC.resV, VC.oneV, VC.evo, VC.bin, VC.binI, VC.cmpI, VC.arithI, VC.ldv, VC.slv, VC.pickP, VC.holds, VC.chainOf, VC.look, VC.junk, VC.put, VC.eff, VC.callee, VC.pureB, VC.rdK, VC.rdKs, VC.okKs, VC.eqKs, VC.fillL, VC.putL, VC.stW, VC.stOK, VC.mixF, VC.setAll, Nat.reduceAdd, Nat.reduceSub, Nat.reduceMul, if_true, if_false, ↓reduceIte, forall_const, implies_true, reduceCtorEq, ne_eq, Nat.reduceBNe, Nat.reduceBEq, IntKind.signed, Nat.reduceEqDiff, Nat.reduceLeDiff, Nat.reduceLT, eq_self, Int.reduceEq, Int.reduceLT, Int.reduceLE, Int.reduceAdd, Int.reduceSub, VC.regC_nil, VC.regC_cons, VC.regCK_eq, VC.callQ, VC.tailQ, VC.goCall, VC.chStep]
      exact MPost.same h hB2 (by unfold mlearn; rw [if_neg (Classical.not_not.2 q0), hbN, if_pos (Or.inl hce)])
    simp -dsimp only [Fa.F71, VC.Now, VC.vc, VC.lib, VC.regQ, VC.loopK, VC.reg, VC.opP, VC.pv, VC.thenF, VC.blkF, VC.retF, VC.resV, VC.oneV, VC.evo, VC.bin, VC.binI, VC.cmpI, VC.arithI, VC.ldv, VC.slv, VC.pickP, VC.holds, VC.chainOf, VC.look, VC.junk, VC.put, VC.eff, VC.callee, VC.pureB, VC.rdK, VC.rdKs, VC.okKs, VC.eqKs, VC.fillL, VC.putL, VC.stW, VC.stOK, VC.mixF, VC.setAll, Nat.reduceAdd, Nat.reduceSub, Nat.reduceMul, if_true, if_false, ↓reduceIte, forall_const, implies_true, reduceCtorEq, ne_eq, Nat.reduceBNe, Nat.reduceBEq, IntKind.signed, Nat.reduceEqDiff, Nat.reduceLeDiff, Nat.reduceLT, eq_self, Int.reduceEq, Int.reduceLT, Int.reduceLE, Int.reduceAdd, Int.reduceSub, VC.regC_nil, VC.regC_cons, VC.regCK_eq, VC.callQ, VC.tailQ, VC.goCall, VC.chStep]
    refine CALL_of (lies_any h2 hl (by omega)) fun w3 hw3 => ?_
    have h3 := h2.below hw3
    have hB3 := hB2.trans (hw3.mono hB2.size)
    cases hli : liars.testBit i
    · obtain ⟨g, cb, e, hg, hblk⟩ := mo_blk h3 hok.nb0
      have b3 := (mo_box h3).at (i := 3) rfl
      have b5 := (mo_box h3).at (i := 5) rfl
      rw [e] at b3
      have c1 := (hblk b0 hbt).2
      obtain ⟨m0, m1, f0, f1⟩ := mo_mem h3 hi
      have hr : mlearn need liars i c s = (0, { s with kn := upd s.kn i (maxI (s.kn i) (s.r b0)) }) := by
        unfold mlearn; rw [if_neg (Classical.not_not.2 q0), hbN, if_neg (by simp [hce, hli])]
      simp -dsimp only [Fa.F71, VC.Now, VC.vc, VC.lib, VC.regQ, VC.loopK, VC.reg, VC.opP, VC.pv, VC.thenF, VC.blkF, VC.retF, VC.resV, VC.oneV, VC.evo, VC.bin, VC.binI, VC.cmpI, VC.arithI, VC.ldv, VC.slv, VC.pickP, VC.holds, VC.chainOf, VC.look, VC.junk, VC.put, VC.eff, VC.callee, VC.pureB, VC.rdK, VC.rdKs, VC.okKs, VC.eqKs, VC.fillL, VC.putL, VC.stW, VC.stOK, VC.mixF, VC.setAll, Nat.reduceAdd, Nat.reduceSub, Nat.reduceMul, if_true, if_false, ↓reduceIte, forall_const, implies_true, reduceCtorEq, ne_eq, Nat.reduceBNe, Nat.reduceBEq, IntKind.signed, Nat.reduceEqDiff, Nat.reduceLeDiff, Nat.reduceLT, eq_self, Int.reduceEq, Int.reduceLT, Int.reduceLE, Int.reduceAdd, Int.reduceSub, VC.regC_nil, VC.regC_cons, VC.regCK_eq, VC.callQ, VC.tailQ, VC.goCall, VC.chStep]
      refine WP_held 24 (fun _ => False) (.take 0 (.take 1 (.take 2 (.take 3 (.take 4 (.take 5 (.take 6 (.take 7 (.take 8 (.take 9 (.take 10 (.take 11 (.take 12 (.take 13 (.take 14 (.take 15 (.take 16 (.take 17 (.take 18 (.take 19 (.take 20 (.one 21 (.one 22 (.take 23 (.one 24 .done))))))))))))))))))))))))) Fa.mix (by kernel_rfl) rfl ?_
      simp -dsimp only [VC.heldF_done, VC.heldF_last, VC.planF_done, VC.planF_take, VC.planF_one, VC.planF_two, VC.planK_eq, VC.heldF_take, VC.heldF_one, VC.heldF_two, VC.heldF_twoL, VC.heldK_eq, VC.okRd, Fa.F71, rdSA_of b3, rdSN_of b3, rdSC_of b3, b3, rdSA_of b5, rdSN_of b5, rdSC_of b5, b5, rdI_of c1, c1, rdI_of m1, m1, f1, VC.Now, VC.vc, VC.lib, VC.regQ, VC.loopK, VC.reg, VC.opP, VC.pv, VC.thenF, VC.blkF, VC.retF, VC.resV, VC.oneV, VC.evo, VC.bin, VC.binI, VC.cmpI, VC.arithI, VC.ldv, VC.slv, VC.pickP, VC.holds, VC.chainOf, VC.look, VC.junk, VC.put, VC.eff, VC.callee, VC.pureB, VC.rdK, VC.rdKs, VC.okKs, VC.eqKs, VC.fillL, VC.putL, VC.stW, VC.stOK, VC.mixF, VC.setAll, Nat.reduceAdd, Nat.reduceSub, Nat.reduceMul, if_true, if_false, ↓reduceIte, forall_const, implies_true, reduceCtorEq, ne_eq, Nat.reduceBNe, Nat.reduceBEq, IntKind.signed, Nat.reduceEqDiff, Nat.reduceLeDiff, Nat.reduceLT, eq_self, Int.reduceEq, Int.reduceLT, Int.reduceLE, Int.reduceAdd, Int.reduceSub, VC.regC_nil, VC.regC_cons, VC.regCK_eq, VC.callQ, VC.tailQ, VC.goCall, VC.chStep]
      have ag := Agree.of_below (X := fun _ => False) (below_drewN (Below.refl w3.heap.size w3) 1)
      have hm := (mo_box h3).1
      have hgm := (h3.get 3 rfl : Recs w3 a.gm n 2 (memC s)).1
      refine ⟨hm, hm, ⟨by omega, by omega⟩, hgm, hm, ⟨by omega, by omega⟩, hg, ag, ⟨by omega, by omega⟩, ag, ?_⟩
      rw [hr]
      exact ⟨rfl, a.vb, a.vv, a.nl, a.ng, by omega, by omega, ((h.below_st hB3).drewN 1).trans (mo_setKn (h3.drewN 1) hi _)⟩
    · simp -dsimp only [Fa.F71, VC.Now, VC.vc, VC.lib, VC.regQ, VC.loopK, VC.reg, VC.opP, VC.pv, VC.thenF, VC.blkF, VC.retF, VC.resV, VC.oneV, VC.evo, VC.bin, VC.binI, VC.cmpI, VC.arithI, VC.ldv, VC.slv, VC.pickP, VC.holds, VC.chainOf, VC.look, VC.junk, VC.put, VC.eff, VC.callee, VC.pureB, VC.rdK, VC.rdKs, VC.okKs, VC.eqKs, VC.fillL, VC.putL, VC.stW, VC.stOK, VC.mixF, VC.setAll, Nat.reduceAdd, Nat.reduceSub, Nat.reduceMul, if_true, if_false, ↓reduceIte, forall_const, implies_true, reduceCtorEq, ne_eq, Nat.reduceBNe, Nat.reduceBEq, IntKind.signed, Nat.reduceEqDiff, Nat.reduceLeDiff, Nat.reduceLT, eq_self, Int.reduceEq, Int.reduceLT, Int.reduceLE, Int.reduceAdd, Int.reduceSub, VC.regC_nil, VC.regC_cons, VC.regCK_eq, VC.callQ, VC.tailQ, VC.goCall, VC.chStep]
      exact MPost.same h hB3 (by unfold mlearn; rw [if_neg (Classical.not_not.2 q0), hbN, if_pos (Or.inr hli)])
  · refine calls_vc (rs := [.tmp 6]) Fa.mix Try.func71 rfl Try.ntmps71 rfl (by kernel_rfl) (Nat.le_of_ble_eq_true rfl) ?_
    simp -dsimp only [Fa.F71, VC.Now, VC.vc, VC.lib, VC.regQ, VC.loopK, VC.reg, VC.opP, VC.pv, VC.thenF, VC.blkF, VC.retF, VC.resV, VC.oneV, VC.evo, VC.bin, VC.binI, VC.cmpI, VC.arithI, VC.ldv, VC.slv, VC.pickP, VC.holds, VC.chainOf, VC.look, VC.junk, VC.put, VC.eff, VC.callee, VC.pureB, VC.rdK, VC.rdKs, VC.okKs, VC.eqKs, VC.fillL, VC.putL, VC.stW, VC.stOK, VC.mixF, VC.setAll, Nat.reduceAdd, Nat.reduceSub, Nat.reduceMul, if_true, if_false, ↓reduceIte, forall_const, implies_true, reduceCtorEq, ne_eq, Nat.reduceBNe, Nat.reduceBEq, IntKind.signed, Nat.reduceEqDiff, Nat.reduceLeDiff, Nat.reduceLT, eq_self, Int.reduceEq, Int.reduceLT, Int.reduceLE, Int.reduceAdd, Int.reduceSub, VC.regC_nil, VC.regC_cons, VC.regCK_eq, VC.callQ, VC.tailQ, VC.goCall, VC.chStep]
    refine CALL_of (isblk_any h hok c.block) fun w1 hw1 => ?_
    rw [isb_false q0]
    simp -dsimp only [Fa.F71, VC.Now, VC.vc, VC.lib, VC.regQ, VC.loopK, VC.reg, VC.opP, VC.pv, VC.thenF, VC.blkF, VC.retF, VC.resV, VC.oneV, VC.evo, VC.bin, VC.binI, VC.cmpI, VC.arithI, VC.ldv, VC.slv, VC.pickP, VC.holds, VC.chainOf, VC.look, VC.junk, VC.put, VC.eff, VC.callee, VC.pureB, VC.rdK, VC.rdKs, VC.okKs, VC.eqKs, VC.fillL, VC.putL, VC.stW, VC.stOK, VC.mixF, VC.setAll, Nat.reduceAdd, Nat.reduceSub, Nat.reduceMul, if_true, if_false, ↓reduceIte, forall_const, implies_true, reduceCtorEq, ne_eq, Nat.reduceBNe, Nat.reduceBEq, IntKind.signed, Nat.reduceEqDiff, Nat.reduceLeDiff, Nat.reduceLT, eq_self, Int.reduceEq, Int.reduceLT, Int.reduceLE, Int.reduceAdd, Int.reduceSub, VC.regC_nil, VC.regC_cons, VC.regCK_eq, VC.callQ, VC.tailQ, VC.goCall, VC.chStep]
    exact MPost.same h hw1 (by unfold mlearn; rw [if_pos q0])

set_option maxRecDepth 8000 in
set_option maxHeartbeats 4000000 in
theorem vote_any (h : Hp B (MObs n need liars a s) w) (hok : MOK n t s) (hn : n ≤ 32) (hnd : need ≤ 1000) (hl : liars < 4294967296) {c : Say} {i : Nat} (hi : i < n) :
    Calls Try.prog 69 #[.pointer (some ⟨a.mb, 0, none⟩), .int .i64 i, .int .i64 c.block] w (MPost B n need liars a s w (mvote n need liars i c s)) := by
  by_cases q0 : isBlk s c.block
  · obtain ⟨b0, hb0, hbt⟩ : ∃ b0 : Nat, c.block = b0 ∧ b0 < s.nb := ⟨c.block.toNat, by have := q0.1; omega, by have := q0.2; have := q0.1; omega⟩
    have hbN : c.block.toNat = b0 := by omega
    rw [hb0]
    by_cases q1 : b0 = 0
    · subst q1
      refine calls_vc (rs := [.tmp 6]) Fa.mix Try.func69 rfl Try.ntmps69 rfl (by kernel_rfl) (Nat.le_of_ble_eq_true rfl) ?_
      simp -dsimp only [Fa.F69, VC.Now, VC.vc, VC.lib, VC.regQ, VC.loopK, VC.reg, VC.opP, VC.pv, VC.thenF, VC.blkF, VC.retF, VC.resV, VC.oneV, VC.evo, VC.bin, VC.binI, VC.cmpI, VC.arithI, VC.ldv, VC.slv, VC.pickP, VC.holds, VC.chainOf, VC.look, VC.junk, VC.put, VC.eff, VC.callee, VC.pureB, VC.rdK, VC.rdKs, VC.okKs, VC.eqKs, VC.fillL, VC.putL, VC.stW, VC.stOK, VC.mixF, VC.setAll, Nat.reduceAdd, Nat.reduceSub, Nat.reduceMul, if_true, if_false, ↓reduceIte, forall_const, implies_true, reduceCtorEq, ne_eq, Nat.reduceBNe, Nat.reduceBEq, IntKind.signed, Nat.reduceEqDiff, Nat.reduceLeDiff, Nat.reduceLT, eq_self, Int.reduceEq, Int.reduceLT, Int.reduceLE, Int.reduceAdd, Int.reduceSub, VC.regC_nil, VC.regC_cons, VC.regCK_eq, VC.callQ, VC.tailQ, VC.goCall, VC.chStep]
      refine CALL_of (isblk_any h hok ((0 : Nat) : Int)) fun w1 hw1 => ?_
      rw [isb_true hbt]
      simp -dsimp only [Fa.F69, undef, tu, uf, ul, ur, Int.ofNat_zero, Int.cast_ofNat_Int, VC.Now, VC.vc, VC.lib, VC.regQ, VC.loopK, VC.reg, VC.opP, VC.pv, VC.thenF, VC.blkF, VC.retF, VC.resV, VC.oneV, VC.evo, VC.bin, VC.binI, VC.cmpI, VC.arithI, VC.ldv, VC.slv, VC.pickP, VC.holds, VC.chainOf, VC.look, VC.junk, VC.put, VC.eff, VC.callee, VC.pureB, VC.rdK, VC.rdKs, VC.okKs, VC.eqKs, VC.fillL, VC.putL, VC.stW, VC.stOK, VC.mixF, VC.setAll, Nat.reduceAdd, Nat.reduceSub, Nat.reduceMul, if_true, if_false, ↓reduceIte, forall_const, implies_true, reduceCtorEq, ne_eq, Nat.reduceBNe, Nat.reduceBEq, IntKind.signed, Nat.reduceEqDiff, Nat.reduceLeDiff, Nat.reduceLT, eq_self, Int.reduceEq, Int.reduceLT, Int.reduceLE, Int.reduceAdd, Int.reduceSub, VC.regC_nil, VC.regC_cons, VC.regCK_eq, VC.callQ, VC.tailQ, VC.goCall, VC.chStep]
      exact MPost.same h hw1 (by unfold mvote; rw [if_pos (Or.inr (by rw [hb0]; rfl))])
    · have e1 : ((b0 : Int) = 0) = False := eq_false (by omega)
      refine calls_vc (rs := [.tmp 6]) Fa.mix Try.func69 rfl Try.ntmps69 rfl (by kernel_rfl) (Nat.le_of_ble_eq_true rfl) ?_
      simp -dsimp only [Fa.F69, VC.Now, VC.vc, VC.lib, VC.regQ, VC.loopK, VC.reg, VC.opP, VC.pv, VC.thenF, VC.blkF, VC.retF, VC.resV, VC.oneV, VC.evo, VC.bin, VC.binI, VC.cmpI, VC.arithI, VC.ldv, VC.slv, VC.pickP, VC.holds, VC.chainOf, VC.look, VC.junk, VC.put, VC.eff, VC.callee, VC.pureB, VC.rdK, VC.rdKs, VC.okKs, VC.eqKs, VC.fillL, VC.putL, VC.stW, VC.stOK, VC.mixF, VC.setAll, Nat.reduceAdd, Nat.reduceSub, Nat.reduceMul, if_true, if_false, ↓reduceIte, forall_const, implies_true, reduceCtorEq, ne_eq, Nat.reduceBNe, Nat.reduceBEq, IntKind.signed, Nat.reduceEqDiff, Nat.reduceLeDiff, Nat.reduceLT, eq_self, Int.reduceEq, Int.reduceLT, Int.reduceLE, Int.reduceAdd, Int.reduceSub, VC.regC_nil, VC.regC_cons, VC.regCK_eq, VC.callQ, VC.tailQ, VC.goCall, VC.chStep]
      refine CALL_of (isblk_any h hok (b0 : Int)) fun w1 hw1 => ?_
      rw [isb_true hbt]
      have h1 := h.below hw1
      obtain ⟨g, cv, e, hg, hvt⟩ := mo_vot h1 hok.nb0
      have b4 := (mo_box h1).at (i := 4) rfl
      rw [e] at b4
      have v0 := (hvt b0 hbt).1
      cases hbit : (s.vm b0).testBit i
      · have e2 : (bits .and .u32 ((s.vm b0 : Int).fdiv (2 ^ shN .u32 (i : Int))) 1 = 1) = False := by
          rw [shr_and (Nat.lt_of_lt_of_le (hok.vm b0) (Nat.le_trans (Nat.pow_le_pow_right (by omega) hn) (by decide))) (by omega), hbit]; simp
        have h32 : s.vm b0 < 4294967296 := Nat.lt_of_lt_of_le (hok.vm b0) (Nat.le_trans (Nat.pow_le_pow_right (by omega) hn) (by decide))
        simp -dsimp only [Fa.F69, e1, e2, rdSA_of b4, rdSN_of b4, rdSC_of b4, b4, rdI_of v0, v0, undef, tu, uf, ul, ur, VC.Now, VC.vc, VC.lib, VC.regQ, VC.loopK, VC.reg, VC.opP, VC.pv, VC.thenF, VC.blkF, VC.retF, VC.resV, VC.oneV, VC.evo, VC.bin, VC.binI, VC.cmpI, VC.arithI, VC.ldv, VC.slv, VC.pickP, VC.holds, VC.chainOf, VC.look, VC.junk, VC.put, VC.eff, VC.callee, VC.pureB, VC.rdK, VC.rdKs, VC.okKs, VC.eqKs, VC.fillL, VC.putL, VC.stW, VC.stOK, VC.mixF, VC.setAll, Nat.reduceAdd, Nat.reduceSub, Nat.reduceMul, if_true, if_false, ↓reduceIte, forall_const, implies_true, reduceCtorEq, ne_eq, Nat.reduceBNe, Nat.reduceBEq, IntKind.signed, Nat.reduceEqDiff, Nat.reduceLeDiff, Nat.reduceLT, eq_self, Int.reduceEq, Int.reduceLT, Int.reduceLE, Int.reduceAdd, Int.reduceSub, VC.regC_nil, VC.regC_cons, VC.regCK_eq, VC.callQ, VC.tailQ, VC.goCall, VC.chStep]
        refine ⟨⟨by omega, by omega⟩, by omega, ?_⟩
        refine CALL_of (lies_any h1 hl (by omega)) fun w2 hw2 => ?_
        have h2 := h1.below hw2
        have hB2 := hw1.trans (hw2.mono hw1.size)
        cases hli : liars.testBit i
        · simp -dsimp only [Fa.F69, e1, e2, rdSA_of b4, rdSN_of b4, rdSC_of b4, b4, rdI_of v0, v0, undef, tu, uf, ul, ur, VC.Now, VC.vc, VC.lib, VC.regQ, VC.loopK, VC.reg, VC.opP, VC.pv, VC.thenF, VC.blkF, VC.retF, VC.resV, VC.oneV, VC.evo, VC.bin, VC.binI, VC.cmpI, VC.arithI, VC.ldv, VC.slv, VC.pickP, VC.holds, VC.chainOf, VC.look, VC.junk, VC.put, VC.eff, VC.callee, VC.pureB, VC.rdK, VC.rdKs, VC.okKs, VC.eqKs, VC.fillL, VC.putL, VC.stW, VC.stOK, VC.mixF, VC.setAll, Nat.reduceAdd, Nat.reduceSub, Nat.reduceMul, if_true, if_false, ↓reduceIte, forall_const, implies_true, reduceCtorEq, ne_eq, Nat.reduceBNe, Nat.reduceBEq, IntKind.signed, Nat.reduceEqDiff, Nat.reduceLeDiff, Nat.reduceLT, eq_self, Int.reduceEq, Int.reduceLT, Int.reduceLE, Int.reduceAdd, Int.reduceSub, VC.regC_nil, VC.regC_cons, VC.regCK_eq, VC.callQ, VC.tailQ, VC.goCall, VC.chStep]
          refine CALL_of (agrees_any h2 hok hn hnd hi (by omega) hbt) fun w3 hw3 => ?_
          have h3 := h2.below hw3
          have hB3 := hB2.trans (hw3.mono hB2.size)
          cases hag : agreesB n need s i b0
          · simp -dsimp only [Fa.F69, e1, e2, rdSA_of b4, rdSN_of b4, rdSC_of b4, b4, rdI_of v0, v0, undef, tu, uf, ul, ur, VC.Now, VC.vc, VC.lib, VC.regQ, VC.loopK, VC.reg, VC.opP, VC.pv, VC.thenF, VC.blkF, VC.retF, VC.resV, VC.oneV, VC.evo, VC.bin, VC.binI, VC.cmpI, VC.arithI, VC.ldv, VC.slv, VC.pickP, VC.holds, VC.chainOf, VC.look, VC.junk, VC.put, VC.eff, VC.callee, VC.pureB, VC.rdK, VC.rdKs, VC.okKs, VC.eqKs, VC.fillL, VC.putL, VC.stW, VC.stOK, VC.mixF, VC.setAll, Nat.reduceAdd, Nat.reduceSub, Nat.reduceMul, if_true, if_false, ↓reduceIte, forall_const, implies_true, reduceCtorEq, ne_eq, Nat.reduceBNe, Nat.reduceBEq, IntKind.signed, Nat.reduceEqDiff, Nat.reduceLeDiff, Nat.reduceLT, eq_self, Int.reduceEq, Int.reduceLT, Int.reduceLE, Int.reduceAdd, Int.reduceSub, VC.regC_nil, VC.regC_cons, VC.regCK_eq, VC.callQ, VC.tailQ, VC.goCall, VC.chStep]
            exact MPost.same h hB3 (by unfold mvote; rw [if_neg (by rw [not_or, Classical.not_not]; exact ⟨q0, by omega⟩), hbN, if_pos (Or.inr ⟨hli, hag⟩)])
          have c4 := (mo_box h3).at (i := 4) rfl
          rw [e] at c4
          have v3 := ((hw3.mono (Nat.le_refl _)).cell (p := ⟨g, b0, none⟩) (Nat.lt_of_lt_of_le hg hw2.size)).trans ((hw2.cell (p := ⟨g, b0, none⟩) hg).trans v0)
          have f3 : w3.frozen? ⟨g, b0, none⟩ = false := by rw [hw3.frozen (p := ⟨g, b0, none⟩) (Nat.lt_of_lt_of_le hg hw2.size), hw2.frozen (p := ⟨g, b0, none⟩) hg]; exact (hvt b0 hbt).2
          have hm := (mo_box h3).1
          have hg3 : g < w3.heap.size := Nat.lt_of_lt_of_le hg (Nat.le_trans hw2.size hw3.size)
          simp -dsimp only [Fa.F69, e1, e2, rdSA_of b4, rdSN_of b4, rdSC_of b4, b4, rdI_of v0, v0, undef, tu, uf, ul, ur, VC.Now, VC.vc, VC.lib, VC.regQ, VC.loopK, VC.reg, VC.opP, VC.pv, VC.thenF, VC.blkF, VC.retF, VC.resV, VC.oneV, VC.evo, VC.bin, VC.binI, VC.cmpI, VC.arithI, VC.ldv, VC.slv, VC.pickP, VC.holds, VC.chainOf, VC.look, VC.junk, VC.put, VC.eff, VC.callee, VC.pureB, VC.rdK, VC.rdKs, VC.okKs, VC.eqKs, VC.fillL, VC.putL, VC.stW, VC.stOK, VC.mixF, VC.setAll, Nat.reduceAdd, Nat.reduceSub, Nat.reduceMul, if_true, if_false, ↓reduceIte, forall_const, implies_true, reduceCtorEq, ne_eq, Nat.reduceBNe, Nat.reduceBEq, IntKind.signed, Nat.reduceEqDiff, Nat.reduceLeDiff, Nat.reduceLT, eq_self, Int.reduceEq, Int.reduceLT, Int.reduceLE, Int.reduceAdd, Int.reduceSub, VC.regC_nil, VC.regC_cons, VC.regCK_eq, VC.callQ, VC.tailQ, VC.goCall, VC.chStep]
          refine WP_held 11 (fun _ => False) (.take 0 (.take 1 (.take 2 (.take 3 (.take 4 (.take 5 (.take 6 (.take 7 (.take 8 (.take 9 (.take 10 (.one 11 .done)))))))))))) Fa.mix (by kernel_rfl) rfl ?_
          simp -dsimp only [VC.heldF_done, VC.heldF_last, VC.planF_done, VC.planF_take, VC.planF_one, VC.planF_two, VC.planK_eq, VC.heldF_take, VC.heldF_one, VC.heldF_two, VC.heldF_twoL, VC.heldK_eq, VC.okRd, Fa.F69, rdSA_of c4, rdSN_of c4, rdSC_of c4, c4, rdI_of v3, v3, f3, VC.Now, VC.vc, VC.lib, VC.regQ, VC.loopK, VC.reg, VC.opP, VC.pv, VC.thenF, VC.blkF, VC.retF, VC.resV, VC.oneV, VC.evo, VC.bin, VC.binI, VC.cmpI, VC.arithI, VC.ldv, VC.slv, VC.pickP, VC.holds, VC.chainOf, VC.look, VC.junk, VC.put, VC.eff, VC.callee, VC.pureB, VC.rdK, VC.rdKs, VC.okKs, VC.eqKs, VC.fillL, VC.putL, VC.stW, VC.stOK, VC.mixF, VC.setAll, Nat.reduceAdd, Nat.reduceSub, Nat.reduceMul, if_true, if_false, ↓reduceIte, forall_const, implies_true, reduceCtorEq, ne_eq, Nat.reduceBNe, Nat.reduceBEq, IntKind.signed, Nat.reduceEqDiff, Nat.reduceLeDiff, Nat.reduceLT, eq_self, Int.reduceEq, Int.reduceLT, Int.reduceLE, Int.reduceAdd, Int.reduceSub, VC.regC_nil, VC.regC_cons, VC.regCK_eq, VC.callQ, VC.tailQ, VC.goCall, VC.chStep]
          refine ⟨hm, ⟨by omega, by omega⟩, hg3, by omega, ⟨by omega, by omega⟩, ?_⟩
          rw [or_shl h32 (by omega)]
          have st4 := mo_setVm (h3.drewN 1) e hbt (s.vm b0 ||| 2 ^ i)
          have hr : mvote n need liars i c s = (0, { s with vm := upd s.vm b0 (s.vm b0 ||| 2 ^ i), vd := upd s.vd i (s.r b0), kn := upd s.kn i (maxI (s.kn i) (s.r (s.p b0).toNat)) }) := by
            unfold mvote; rw [if_neg (by rw [not_or, Classical.not_not]; exact ⟨q0, by omega⟩), hbN, if_neg (by simp [hbit, hag]), if_neg (by simp [hli])]
          rw [hr]
          have st0 := ((h.below_st hB3).drewN 1).trans st4
          generalize (w3.drewN 1).setCell _ _ = w4 at st4 st0 ⊢
          have h4 := st4.hp
          clear hm hg3 f3 v3 c4
          refine CALL_of (lies_any h4 hl (by omega)) fun w5 hw5 => ?_
          rw [hli]
          have h5 := h4.below hw5
          have st5 := st0.later hw5
          obtain ⟨g5, cb, e5, hg5, hblk⟩ := mo_blk h5 (by exact hok.nb0)
          have c3 := (mo_box h5).at (i := 3) rfl
          have c5 := (mo_box h5).at (i := 5) rfl
          rw [e5] at c3
          have r1 := (hblk b0 hbt).2
          obtain ⟨m0, m1, f0, f1⟩ := mo_mem h5 hi
          have st6 := mo_setVd h5 hi (s.r b0)
          simp -dsimp only [Fa.F69, rdSA_of c5, rdSN_of c5, rdSC_of c5, c5, rdSA_of c3, rdSN_of c3, rdSC_of c3, c3, rdI_of r1, r1, m0, f0, VC.Now, VC.vc, VC.lib, VC.regQ, VC.loopK, VC.reg, VC.opP, VC.pv, VC.thenF, VC.blkF, VC.retF, VC.resV, VC.oneV, VC.evo, VC.bin, VC.binI, VC.cmpI, VC.arithI, VC.ldv, VC.slv, VC.pickP, VC.holds, VC.chainOf, VC.look, VC.junk, VC.put, VC.eff, VC.callee, VC.pureB, VC.rdK, VC.rdKs, VC.okKs, VC.eqKs, VC.fillL, VC.putL, VC.stW, VC.stOK, VC.mixF, VC.setAll, Nat.reduceAdd, Nat.reduceSub, Nat.reduceMul, if_true, if_false, ↓reduceIte, forall_const, implies_true, reduceCtorEq, ne_eq, Nat.reduceBNe, Nat.reduceBEq, IntKind.signed, Nat.reduceEqDiff, Nat.reduceLeDiff, Nat.reduceLT, eq_self, Int.reduceEq, Int.reduceLT, Int.reduceLE, Int.reduceAdd, Int.reduceSub, VC.regC_nil, VC.regC_cons, VC.regCK_eq, VC.callQ, VC.tailQ, VC.goCall, VC.chStep]
          refine ⟨⟨by omega, by omega⟩, ⟨by omega, by omega⟩, ?_⟩
          have st7 := st5.trans st6
          generalize w5.setCell _ _ = w6 at st6 st7 ⊢
          have h6 := st6.hp
          clear c3 c5 r1 m0 m1 f0 f1 hblk
          obtain ⟨g6, cb6, e6, hg6, hblk⟩ := mo_blk h6 (by exact hok.nb0)
          have c3 := (mo_box h6).at (i := 3) rfl
          rw [e6] at c3
          obtain ⟨p1, p2⟩ := hok.par (b := b0) (by omega) hbt
          have r0 := (hblk b0 hbt).1
          have r1 := (hblk (s.p b0).toNat (by show (s.p b0).toNat < s.nb; omega)).2
          obtain ⟨m0, m1, f0, f1⟩ := mo_mem h6 hi
          have hm := (mo_box h6).1
          have hgm := (h6.get 3 rfl : Recs w6 a.gm n 2 _).1
          have ag := Agree.of_below (X := fun _ => False) (below_drewN (Below.refl w6.heap.size w6) 1)
          refine WP_held 23 (fun _ => False) (.take 0 (.take 1 (.take 2 (.take 3 (.take 4 (.take 5 (.take 6 (.take 7 (.take 8 (.take 9 (.take 10 (.take 11 (.take 12 (.take 13 (.take 14 (.take 15 (.take 16 (.take 17 (.take 18 (.take 19 (.one 20 (.one 21 (.take 22 (.one 23 .done)))))))))))))))))))))))) Fa.mix (by kernel_rfl) rfl ?_
          simp -dsimp only [VC.heldF_done, VC.heldF_last, VC.planF_done, VC.planF_take, VC.planF_one, VC.planF_two, VC.planK_eq, VC.heldF_take, VC.heldF_one, VC.heldF_two, VC.heldF_twoL, VC.heldK_eq, VC.okRd, Fa.F69, rdSA_of c3, rdSN_of c3, rdSC_of c3, c3, rdI_of r0, r0, rdI_of r1, r1, rdI_of m1, m1, f1, VC.Now, VC.vc, VC.lib, VC.regQ, VC.loopK, VC.reg, VC.opP, VC.pv, VC.thenF, VC.blkF, VC.retF, VC.resV, VC.oneV, VC.evo, VC.bin, VC.binI, VC.cmpI, VC.arithI, VC.ldv, VC.slv, VC.pickP, VC.holds, VC.chainOf, VC.look, VC.junk, VC.put, VC.eff, VC.callee, VC.pureB, VC.rdK, VC.rdKs, VC.okKs, VC.eqKs, VC.fillL, VC.putL, VC.stW, VC.stOK, VC.mixF, VC.setAll, Nat.reduceAdd, Nat.reduceSub, Nat.reduceMul, if_true, if_false, ↓reduceIte, forall_const, implies_true, reduceCtorEq, ne_eq, Nat.reduceBNe, Nat.reduceBEq, IntKind.signed, Nat.reduceEqDiff, Nat.reduceLeDiff, Nat.reduceLT, eq_self, Int.reduceEq, Int.reduceLT, Int.reduceLE, Int.reduceAdd, Int.reduceSub, VC.regC_nil, VC.regC_cons, VC.regCK_eq, VC.callQ, VC.tailQ, VC.goCall, VC.chStep]
          exact ⟨hgm, hm, hm, ⟨by omega, by omega⟩, hg6, ⟨by omega, by omega⟩, hg6, ag, ag, rfl, a.vb, a.vv, a.nl, a.ng, by omega, by omega, (st7.drewN 1).trans (mo_setKn (h6.drewN 1) hi _)⟩
        · simp -dsimp only [Fa.F69, e1, e2, rdSA_of b4, rdSN_of b4, rdSC_of b4, b4, rdI_of v0, v0, undef, tu, uf, ul, ur, VC.Now, VC.vc, VC.lib, VC.regQ, VC.loopK, VC.reg, VC.opP, VC.pv, VC.thenF, VC.blkF, VC.retF, VC.resV, VC.oneV, VC.evo, VC.bin, VC.binI, VC.cmpI, VC.arithI, VC.ldv, VC.slv, VC.pickP, VC.holds, VC.chainOf, VC.look, VC.junk, VC.put, VC.eff, VC.callee, VC.pureB, VC.rdK, VC.rdKs, VC.okKs, VC.eqKs, VC.fillL, VC.putL, VC.stW, VC.stOK, VC.mixF, VC.setAll, Nat.reduceAdd, Nat.reduceSub, Nat.reduceMul, if_true, if_false, ↓reduceIte, forall_const, implies_true, reduceCtorEq, ne_eq, Nat.reduceBNe, Nat.reduceBEq, IntKind.signed, Nat.reduceEqDiff, Nat.reduceLeDiff, Nat.reduceLT, eq_self, Int.reduceEq, Int.reduceLT, Int.reduceLE, Int.reduceAdd, Int.reduceSub, VC.regC_nil, VC.regC_cons, VC.regCK_eq, VC.callQ, VC.tailQ, VC.goCall, VC.chStep]
          have c4 := (mo_box h2).at (i := 4) rfl
          rw [e] at c4
          have v3 := (hw2.cell (p := ⟨g, b0, none⟩) hg).trans v0
          have f3 : w2.frozen? ⟨g, b0, none⟩ = false := by rw [hw2.frozen (p := ⟨g, b0, none⟩) hg]; exact (hvt b0 hbt).2
          have hm := (mo_box h2).1
          have hg3 : g < w2.heap.size := Nat.lt_of_lt_of_le hg hw2.size
          refine WP_held 11 (fun _ => False) (.take 0 (.take 1 (.take 2 (.take 3 (.take 4 (.take 5 (.take 6 (.take 7 (.take 8 (.take 9 (.take 10 (.one 11 .done)))))))))))) Fa.mix (by kernel_rfl) rfl ?_
          simp -dsimp only [VC.heldF_done, VC.heldF_last, VC.planF_done, VC.planF_take, VC.planF_one, VC.planF_two, VC.planK_eq, VC.heldF_take, VC.heldF_one, VC.heldF_two, VC.heldF_twoL, VC.heldK_eq, VC.okRd, Fa.F69, rdSA_of c4, rdSN_of c4, rdSC_of c4, c4, rdI_of v3, v3, f3, VC.Now, VC.vc, VC.lib, VC.regQ, VC.loopK, VC.reg, VC.opP, VC.pv, VC.thenF, VC.blkF, VC.retF, VC.resV, VC.oneV, VC.evo, VC.bin, VC.binI, VC.cmpI, VC.arithI, VC.ldv, VC.slv, VC.pickP, VC.holds, VC.chainOf, VC.look, VC.junk, VC.put, VC.eff, VC.callee, VC.pureB, VC.rdK, VC.rdKs, VC.okKs, VC.eqKs, VC.fillL, VC.putL, VC.stW, VC.stOK, VC.mixF, VC.setAll, Nat.reduceAdd, Nat.reduceSub, Nat.reduceMul, if_true, if_false, ↓reduceIte, forall_const, implies_true, reduceCtorEq, ne_eq, Nat.reduceBNe, Nat.reduceBEq, IntKind.signed, Nat.reduceEqDiff, Nat.reduceLeDiff, Nat.reduceLT, eq_self, Int.reduceEq, Int.reduceLT, Int.reduceLE, Int.reduceAdd, Int.reduceSub, VC.regC_nil, VC.regC_cons, VC.regCK_eq, VC.callQ, VC.tailQ, VC.goCall, VC.chStep]
          refine ⟨hm, ⟨by omega, by omega⟩, hg3, by omega, ⟨by omega, by omega⟩, ?_⟩
          rw [or_shl h32 (by omega)]
          have st4 := mo_setVm (h2.drewN 1) e hbt (s.vm b0 ||| 2 ^ i)
          have hr : mvote n need liars i c s = (0, { s with vm := upd s.vm b0 (s.vm b0 ||| 2 ^ i) }) := by
            unfold mvote; rw [if_neg (by rw [not_or, Classical.not_not]; exact ⟨q0, by omega⟩), hbN, if_neg (by simp [hbit, hli]), if_pos hli]
          rw [hr]
          have st0 := ((h.below_st hB2).drewN 1).trans st4
          generalize (w2.drewN 1).setCell _ _ = w4 at st4 st0 ⊢
          refine CALL_of (lies_any st4.hp hl (by omega)) fun w5 hw5 => ?_
          rw [hli]
          simp -dsimp only [Fa.F69, VC.Now, VC.vc, VC.lib, VC.regQ, VC.loopK, VC.reg, VC.opP, VC.pv, VC.thenF, VC.blkF, VC.retF, VC.resV, VC.oneV, VC.evo, VC.bin, VC.binI, VC.cmpI, VC.arithI, VC.ldv, VC.slv, VC.pickP, VC.holds, VC.chainOf, VC.look, VC.junk, VC.put, VC.eff, VC.callee, VC.pureB, VC.rdK, VC.rdKs, VC.okKs, VC.eqKs, VC.fillL, VC.putL, VC.stW, VC.stOK, VC.mixF, VC.setAll, Nat.reduceAdd, Nat.reduceSub, Nat.reduceMul, if_true, if_false, ↓reduceIte, forall_const, implies_true, reduceCtorEq, ne_eq, Nat.reduceBNe, Nat.reduceBEq, IntKind.signed, Nat.reduceEqDiff, Nat.reduceLeDiff, Nat.reduceLT, eq_self, Int.reduceEq, Int.reduceLT, Int.reduceLE, Int.reduceAdd, Int.reduceSub, VC.regC_nil, VC.regC_cons, VC.regCK_eq, VC.callQ, VC.tailQ, VC.goCall, VC.chStep]
          exact ⟨rfl, a.vb, a.vv, a.nl, a.ng, by omega, by omega, st0.later hw5⟩
      · have e2 : (bits .and .u32 ((s.vm b0 : Int).fdiv (2 ^ shN .u32 (i : Int))) 1 = 1) = True := by
          rw [shr_and (Nat.lt_of_lt_of_le (hok.vm b0) (Nat.le_trans (Nat.pow_le_pow_right (by omega) hn) (by decide))) (by omega), hbit]; simp
        simp -dsimp only [Fa.F69, e1, e2, rdSA_of b4, rdSN_of b4, rdSC_of b4, b4, rdI_of v0, v0, undef, tu, uf, ul, ur, VC.Now, VC.vc, VC.lib, VC.regQ, VC.loopK, VC.reg, VC.opP, VC.pv, VC.thenF, VC.blkF, VC.retF, VC.resV, VC.oneV, VC.evo, VC.bin, VC.binI, VC.cmpI, VC.arithI, VC.ldv, VC.slv, VC.pickP, VC.holds, VC.chainOf, VC.look, VC.junk, VC.put, VC.eff, VC.callee, VC.pureB, VC.rdK, VC.rdKs, VC.okKs, VC.eqKs, VC.fillL, VC.putL, VC.stW, VC.stOK, VC.mixF, VC.setAll, Nat.reduceAdd, Nat.reduceSub, Nat.reduceMul, if_true, if_false, ↓reduceIte, forall_const, implies_true, reduceCtorEq, ne_eq, Nat.reduceBNe, Nat.reduceBEq, IntKind.signed, Nat.reduceEqDiff, Nat.reduceLeDiff, Nat.reduceLT, eq_self, Int.reduceEq, Int.reduceLT, Int.reduceLE, Int.reduceAdd, Int.reduceSub, VC.regC_nil, VC.regC_cons, VC.regCK_eq, VC.callQ, VC.tailQ, VC.goCall, VC.chStep]
        exact ⟨⟨by omega, by omega⟩, by omega, MPost.same h hw1 (by unfold mvote; rw [if_neg (by rw [not_or, Classical.not_not]; exact ⟨q0, by omega⟩), hbN, if_pos (Or.inl hbit)])⟩
  · refine calls_vc (rs := [.tmp 6]) Fa.mix Try.func69 rfl Try.ntmps69 rfl (by kernel_rfl) (Nat.le_of_ble_eq_true rfl) ?_
    simp -dsimp only [Fa.F69, VC.Now, VC.vc, VC.lib, VC.regQ, VC.loopK, VC.reg, VC.opP, VC.pv, VC.thenF, VC.blkF, VC.retF, VC.resV, VC.oneV, VC.evo, VC.bin, VC.binI, VC.cmpI, VC.arithI, VC.ldv, VC.slv, VC.pickP, VC.holds, VC.chainOf, VC.look, VC.junk, VC.put, VC.eff, VC.callee, VC.pureB, VC.rdK, VC.rdKs, VC.okKs, VC.eqKs, VC.fillL, VC.putL, VC.stW, VC.stOK, VC.mixF, VC.setAll, Nat.reduceAdd, Nat.reduceSub, Nat.reduceMul, if_true, if_false, ↓reduceIte, forall_const, implies_true, reduceCtorEq, ne_eq, Nat.reduceBNe, Nat.reduceBEq, IntKind.signed, Nat.reduceEqDiff, Nat.reduceLeDiff, Nat.reduceLT, eq_self, Int.reduceEq, Int.reduceLT, Int.reduceLE, Int.reduceAdd, Int.reduceSub, VC.regC_nil, VC.regC_cons, VC.regCK_eq, VC.callQ, VC.tailQ, VC.goCall, VC.chStep]
    refine CALL_of (isblk_any h hok c.block) fun w1 hw1 => ?_
    rw [isb_false q0]
    simp -dsimp only [Fa.F69, undef, tu, uf, ul, ur, VC.Now, VC.vc, VC.lib, VC.regQ, VC.loopK, VC.reg, VC.opP, VC.pv, VC.thenF, VC.blkF, VC.retF, VC.resV, VC.oneV, VC.evo, VC.bin, VC.binI, VC.cmpI, VC.arithI, VC.ldv, VC.slv, VC.pickP, VC.holds, VC.chainOf, VC.look, VC.junk, VC.put, VC.eff, VC.callee, VC.pureB, VC.rdK, VC.rdKs, VC.okKs, VC.eqKs, VC.fillL, VC.putL, VC.stW, VC.stOK, VC.mixF, VC.setAll, Nat.reduceAdd, Nat.reduceSub, Nat.reduceMul, if_true, if_false, ↓reduceIte, forall_const, implies_true, reduceCtorEq, ne_eq, Nat.reduceBNe, Nat.reduceBEq, IntKind.signed, Nat.reduceEqDiff, Nat.reduceLeDiff, Nat.reduceLT, eq_self, Int.reduceEq, Int.reduceLT, Int.reduceLE, Int.reduceAdd, Int.reduceSub, VC.regC_nil, VC.regC_cons, VC.regCK_eq, VC.callQ, VC.tailQ, VC.goCall, VC.chStep]
    exact MPost.same h hw1 (by unfold mvote; rw [if_pos (Or.inl q0)])
end
end Go.Proofs.Ytnggjekppdlaoaa
