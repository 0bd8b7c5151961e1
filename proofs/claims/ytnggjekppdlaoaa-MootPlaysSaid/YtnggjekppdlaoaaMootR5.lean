/- An assembly as the document has it: one gives a round up. -/
import Derived.Test.YtnggjekppdlaoaaMootR4
namespace Go.Proofs.Ytnggjekppdlaoaa
open Go Go.RowKit Go.VC
set_option linter.unusedSimpArgs false
set_option linter.unusedVariables false
section
variable {B n f liars t : Nat} {a : RA} {s : MS} {V T : List Vo} {w : World}

set_option maxRecDepth 8000 in
set_option maxHeartbeats 8000000 in
theorem lateR_any (h : Hp B (RObs n f liars a s V T) w) (hR : RRel n liars s V T) (hok : MOK n t s) (hn : n ≤ 32) (hf : f ≤ n) (hV : V.length ≤ 1000) (hT : T.length ≤ 1000) (hl : liars < 4294967296) {c : Say} (hc : SayOK c) {i : Nat} (hi : i < n) (hw : c.who = i) :
    Calls Try.prog 77 #[.pointer (some ⟨a.mb, 0, none⟩), sayV c] w (RPost B n f liars a s V T w (mlate (n - f) liars i c s)) := by
  obtain ⟨f1, f2, f3, f4⟩ := hc
  have hB0 : Below w.heap.size w (w.alloc (.cells (sayL c).toArray 124)) := (Below.refl _ _).alloc (Nat.le_refl _) _
  have hs0 := say_box c w 124
  refine calls_vc (rs := [.tmp 4]) Fa.mix Try.func77 rfl Try.ntmps77 rfl (by kernel_rfl) (Nat.le_of_ble_eq_true rfl) ?_
  (repeat rw [vc_seq]); refine vc_plain _ fun Q hQ => ?_; simp -dsimp only [Fa.F77, VC.Now, VC.vc_skip, VC.vc_ret, VC.vc_exit, VC.vc_block, VC.vc_cond, VC.vc_region, VC.lib, VC.regQ, VC.loopK, VC.reg, VC.opP, VC.pv, VC.thenF, VC.blkF, VC.retF, VC.resV, VC.oneV, VC.evo, VC.bin, VC.binI, VC.cmpI, VC.arithI, VC.ldv, VC.slv, VC.pickP, VC.holds, VC.chainOf, VC.look, VC.junk, VC.put, VC.eff, VC.callee, VC.pureB, VC.rdK, VC.rdKs, VC.okKs, VC.eqKs, VC.fillL, VC.putL, VC.stW, VC.stOK, VC.mixF, VC.setAll, Nat.reduceAdd, Nat.reduceSub, Nat.reduceMul, if_true, if_false, ↓reduceIte, forall_const, implies_true, reduceCtorEq, ne_eq, Nat.reduceBNe, Nat.reduceBEq, IntKind.signed, Nat.reduceEqDiff, Nat.reduceLeDiff, Nat.reduceLT, eq_self, Int.reduceEq, Int.reduceLT, Int.reduceLE, Int.reduceAdd, Int.reduceSub, VC.regC_nil, VC.regC_cons, VC.regCK_eq, VC.callQ, VC.tailQ, VC.goCall, VC.chStep]
  generalize hsb : w.heap.size = sb at hs0 ⊢
  change Q _ _ (w.alloc (.cells (sayL c).toArray 124))
  generalize w.alloc (.cells (sayL c).toArray 124) = w1 at hs0 hB0 ⊢
  subst hQ
  have h1 := h.below hB0
  have b2 := (ro_box h1).at (i := 2) rfl
  have hm := (ro_box h1).1
  have z1 := hs0.at (i := 1) rfl
  have z3 := hs0.at (i := 3) rfl
  rw [hw] at z1
  have hnb := hok.nb1
  have hgv : sb ≠ a.gv := fun e => by have := (h.lt 4 rfl (g := a.gv) rfl).2; omega
  by_cases q0 : c.round < 1 ∨ 1000 < c.round
  · have e0 := eq_true q0
    simp -dsimp only [Fa.F77, rdI_of z1, z1, rdI_of z3, z3, e0, VC.Now, VC.vc, VC.lib, VC.regQ, VC.loopK, VC.reg, VC.opP, VC.pv, VC.thenF, VC.blkF, VC.retF, VC.resV, VC.oneV, VC.evo, VC.bin, VC.binI, VC.cmpI, VC.arithI, VC.ldv, VC.slv, VC.pickP, VC.holds, VC.chainOf, VC.look, VC.junk, VC.put, VC.eff, VC.callee, VC.pureB, VC.rdK, VC.rdKs, VC.okKs, VC.eqKs, VC.fillL, VC.putL, VC.stW, VC.stOK, VC.mixF, VC.setAll, Nat.reduceAdd, Nat.reduceSub, Nat.reduceMul, if_true, if_false, ↓reduceIte, forall_const, implies_true, reduceCtorEq, ne_eq, Nat.reduceBNe, Nat.reduceBEq, IntKind.signed, Nat.reduceEqDiff, Nat.reduceLeDiff, Nat.reduceLT, eq_self, Int.reduceEq, Int.reduceLT, Int.reduceLE, Int.reduceAdd, Int.reduceSub, VC.regC_nil, VC.regC_cons, VC.regCK_eq, VC.callQ, VC.tailQ, VC.goCall, VC.chStep]
    exact RPost.same h hR hB0 (by unfold mlate; rw [if_pos q0])
  have e0 := eq_false q0
  simp -dsimp only [Fa.F77, rdI_of z1, z1, rdI_of z3, z3, e0, VC.Now, VC.vc, VC.lib, VC.regQ, VC.loopK, VC.reg, VC.opP, VC.pv, VC.thenF, VC.blkF, VC.retF, VC.resV, VC.oneV, VC.evo, VC.bin, VC.binI, VC.cmpI, VC.arithI, VC.ldv, VC.slv, VC.pickP, VC.holds, VC.chainOf, VC.look, VC.junk, VC.put, VC.eff, VC.callee, VC.pureB, VC.rdK, VC.rdKs, VC.okKs, VC.eqKs, VC.fillL, VC.putL, VC.stW, VC.stOK, VC.mixF, VC.setAll, Nat.reduceAdd, Nat.reduceSub, Nat.reduceMul, if_true, if_false, ↓reduceIte, forall_const, implies_true, reduceCtorEq, ne_eq, Nat.reduceBNe, Nat.reduceBEq, IntKind.signed, Nat.reduceEqDiff, Nat.reduceLeDiff, Nat.reduceLT, eq_self, Int.reduceEq, Int.reduceLT, Int.reduceLE, Int.reduceAdd, Int.reduceSub, VC.regC_nil, VC.regC_cons, VC.regCK_eq, VC.callQ, VC.tailQ, VC.goCall, VC.chStep]
  intro u0
  refine WP_calls Fa.mix (by kernel_rfl) (by kernel_rfl) rfl ?_
  simp -dsimp only [Fa.F77, rdI_of z1, z1, rdI_of b2, b2, VC.Now, VC.vc, VC.lib, VC.regQ, VC.loopK, VC.reg, VC.opP, VC.pv, VC.thenF, VC.blkF, VC.retF, VC.resV, VC.oneV, VC.evo, VC.bin, VC.binI, VC.cmpI, VC.arithI, VC.ldv, VC.slv, VC.pickP, VC.holds, VC.chainOf, VC.look, VC.junk, VC.put, VC.eff, VC.callee, VC.pureB, VC.rdK, VC.rdKs, VC.okKs, VC.eqKs, VC.fillL, VC.putL, VC.stW, VC.stOK, VC.mixF, VC.setAll, Nat.reduceAdd, Nat.reduceSub, Nat.reduceMul, if_true, if_false, ↓reduceIte, forall_const, implies_true, reduceCtorEq, ne_eq, Nat.reduceBNe, Nat.reduceBEq, IntKind.signed, Nat.reduceEqDiff, Nat.reduceLeDiff, Nat.reduceLT, eq_self, Int.reduceEq, Int.reduceLT, Int.reduceLE, Int.reduceAdd, Int.reduceSub, VC.regC_nil, VC.regC_cons, VC.regCK_eq, VC.callQ, VC.tailQ, VC.goCall, VC.chStep]
  refine CALLQ_of (v := .bool (liars.testBit i)) (fun _ wq _ => (bit_any liars i wq hl (by omega)).mono fun e w' he => ⟨he.1, by rw [he.2]; exact Below.refl _ _⟩) ?_
  cases hli : liars.testBit i
  · simp -dsimp only [Fa.F77, rdI_of z1, z1, rdI_of b2, b2, VC.Now, VC.vc, VC.lib, VC.regQ, VC.loopK, VC.reg, VC.opP, VC.pv, VC.thenF, VC.blkF, VC.retF, VC.resV, VC.oneV, VC.evo, VC.bin, VC.binI, VC.cmpI, VC.arithI, VC.ldv, VC.slv, VC.pickP, VC.holds, VC.chainOf, VC.look, VC.junk, VC.put, VC.eff, VC.callee, VC.pureB, VC.rdK, VC.rdKs, VC.okKs, VC.eqKs, VC.fillL, VC.putL, VC.stW, VC.stOK, VC.mixF, VC.setAll, Nat.reduceAdd, Nat.reduceSub, Nat.reduceMul, if_true, if_false, ↓reduceIte, forall_const, implies_true, reduceCtorEq, ne_eq, Nat.reduceBNe, Nat.reduceBEq, IntKind.signed, Nat.reduceEqDiff, Nat.reduceLeDiff, Nat.reduceLT, eq_self, Int.reduceEq, Int.reduceLT, Int.reduceLE, Int.reduceAdd, Int.reduceSub, VC.regC_nil, VC.regC_cons, VC.regCK_eq, VC.callQ, VC.tailQ, VC.goCall, VC.chStep]
    intro w2 hw2
    have h2 := h1.below hw2
    have hs2 := hs0.below hw2
    have hB2 := hB0.trans (hw2.mono hB0.size)
    obtain ⟨Al, cl, el, hvl⟩ := ro_vl h2
    have b5 := (ro_box h2).at (i := 5) rfl
    rw [el] at b5
    simp -dsimp only [Fa.F77, rdSA_of b5, rdSN_of b5, rdSC_of b5, b5, VC.Now, VC.vc, VC.lib, VC.regQ, VC.loopK, VC.reg, VC.opP, VC.pv, VC.thenF, VC.blkF, VC.retF, VC.resV, VC.oneV, VC.evo, VC.bin, VC.binI, VC.cmpI, VC.arithI, VC.ldv, VC.slv, VC.pickP, VC.holds, VC.chainOf, VC.look, VC.junk, VC.put, VC.eff, VC.callee, VC.pureB, VC.rdK, VC.rdKs, VC.okKs, VC.eqKs, VC.fillL, VC.putL, VC.stW, VC.stOK, VC.mixF, VC.setAll, Nat.reduceAdd, Nat.reduceSub, Nat.reduceMul, if_true, if_false, ↓reduceIte, forall_const, implies_true, reduceCtorEq, ne_eq, Nat.reduceBNe, Nat.reduceBEq, IntKind.signed, Nat.reduceEqDiff, Nat.reduceLeDiff, Nat.reduceLT, eq_self, Int.reduceEq, Int.reduceLT, Int.reduceLE, Int.reduceAdd, Int.reduceSub, VC.regC_nil, VC.regC_cons, VC.regCK_eq, VC.callQ, VC.tailQ, VC.goCall, VC.chStep]
    refine loop_slots Fa.mix [75] [4, 8, 76, 77, 78, 79, 80, 81, 82, 83, 84, 85, 86, 87, 88, 89, 90, 91] (fun m vs wr => ∃ k : Nat, k + m = T.length ∧ vs = [.int .i64 k] ∧ Below w2.heap.size w2 wr ∧ ∀ j x, j < k → T[j]? = some x → ¬ (x.1 = i ∧ x.2.1 = c.round)) T.length (by kernel_rfl) rfl
      ⟨0, by omega, rfl, Below.refl _ _, fun j x hj => absurd hj (by omega)⟩ ?_
    rintro m vs u wr ⟨k, hkm, rfl, hBr, hno⟩
    have h3 := h2.below hBr
    have hs3 := hs2.below hBr
    have hB3 := hB2.trans (hBr.mono hB2.size)
    clear z1 z3
    have z1 := hs3.at (i := 1) rfl
    have z3 := hs3.at (i := 3) rfl
    rw [hw] at z1
    have hl3 := hs3.1
    by_cases hk : k < T.length
    · obtain ⟨bv, rfl, hbv, hcv⟩ := (hvl.below hBr) (by omega)
      obtain ⟨x, hx⟩ : ∃ x, T[k]? = some x := ⟨_, List.getElem?_eq_getElem hk⟩
      obtain ⟨c0, c1, c2⟩ := hcv k x hx
      have e5 : ((k : Int) < T.length) = True := eq_true (by omega)
      obtain ⟨xa, xb, xc⟩ := x
      simp -dsimp only [Fa.F77, e5, rdI_of c0, c0, rdI_of c1, c1, rdI_of c2, c2, rdI_of z1, z1, rdI_of z3, z3, hl3, VC.Now, VC.vc, VC.lib, VC.regQ, VC.loopK, VC.reg, VC.opP, VC.pv, VC.thenF, VC.blkF, VC.retF, VC.resV, VC.oneV, VC.evo, VC.bin, VC.binI, VC.cmpI, VC.arithI, VC.ldv, VC.slv, VC.pickP, VC.holds, VC.chainOf, VC.look, VC.junk, VC.put, VC.eff, VC.callee, VC.pureB, VC.rdK, VC.rdKs, VC.okKs, VC.eqKs, VC.fillL, VC.putL, VC.stW, VC.stOK, VC.mixF, VC.setAll, Nat.reduceAdd, Nat.reduceSub, Nat.reduceMul, if_true, if_false, ↓reduceIte, forall_const, implies_true, reduceCtorEq, ne_eq, Nat.reduceBNe, Nat.reduceBEq, IntKind.signed, Nat.reduceEqDiff, Nat.reduceLeDiff, Nat.reduceLT, eq_self, Int.reduceEq, Int.reduceLT, Int.reduceLE, Int.reduceAdd, Int.reduceSub, VC.regC_nil, VC.regC_cons, VC.regCK_eq, VC.callQ, VC.tailQ, VC.goCall, VC.chStep]
      have hBa : Below w2.heap.size w2 (wr.alloc (.cells #[.int .i64 xa, .int .i64 xb, .int .i64 xc] 218)) := below_box hBr _
      refine ⟨by omega, fun u2 => ⟨fun hd => ?_, fun hd => ?_⟩⟩
      · obtain ⟨rfl, rfl⟩ := hd
        have hmem := List.mem_of_getElem? hx
        have hg := (hR.gc i hli c.round).2 ⟨xc, hmem⟩
        have hr : mlate (n - f) liars i c s = (6, { s with gc := fun k => if k = ((i : Int), c.round) then s.gc k + 1 else s.gc k }) := by
          unfold mlate; rw [if_neg q0, if_neg (by simp [hli]), hw, if_pos hg]
        rw [hr]
        exact ⟨rfl, a.vb, a.vo, a.vl, V, T, hR.hold hg, by omega, by omega, h.below_st (hB2.trans (hBa.mono hB2.size))⟩
      · refine ⟨fits_i64_nat (by omega), SAME.intro (by kernel_rfl), m - 1, by omega, k + 1, by omega, rfl, hBa, fun j y hj hy => ?_⟩
        by_cases hjk : j = k
        · subst hjk; rw [hx] at hy; cases hy; exact hd
        · exact hno j y (by omega) hy
    · obtain rfl : k = T.length := by omega
      have e5 : ((T.length : Int) < T.length) = False := eq_false (by omega)
      have hg : ¬ 0 < s.gc ((i : Int), c.round) := fun hg => by
        obtain ⟨y, hy⟩ := (hR.gc i hli c.round).1 hg
        obtain ⟨j, hj, he⟩ := List.getElem_of_mem hy
        exact hno j _ hj (List.getElem?_eq_some_iff.2 ⟨hj, he⟩) ⟨rfl, rfl⟩
      have hmv : mlate (n - f) liars i c s = (0, { s with gc := (fun k => if k = ((i : Int), c.round) then s.gc k + 1 else s.gc k), vd := upd s.vd i (maxI (s.vd i) c.round), lt := fun k => s.lt k ∨ k = (c.round, (i : Int), s.kn i) }) := by
        unfold mlate; rw [if_neg q0, if_neg (by simp [hli]), hw, if_neg hg]
      have c6 := (ro_box h3).at (i := 6) rfl
      obtain ⟨v0, v1, fr0, fr1⟩ := ro_mem h3 hi
      have hm3 := (ro_box h3).1
      by_cases q6 : s.vd i < c.round
      · have e6 := eq_true q6
        rw [show maxI (s.vd i) c.round = c.round from if_pos q6] at hmv
        simp -dsimp only [Fa.F77, e5, e6, rdSA_of c6, rdSN_of c6, rdSC_of c6, c6, rdI_of z1, z1, rdI_of z3, z3, rdI_of v0, v0, VC.Now, VC.vc, VC.lib, VC.regQ, VC.loopK, VC.reg, VC.opP, VC.pv, VC.thenF, VC.blkF, VC.retF, VC.resV, VC.oneV, VC.evo, VC.bin, VC.binI, VC.cmpI, VC.arithI, VC.ldv, VC.slv, VC.pickP, VC.holds, VC.chainOf, VC.look, VC.junk, VC.put, VC.eff, VC.callee, VC.pureB, VC.rdK, VC.rdKs, VC.okKs, VC.eqKs, VC.fillL, VC.putL, VC.stW, VC.stOK, VC.mixF, VC.setAll, Nat.reduceAdd, Nat.reduceSub, Nat.reduceMul, if_true, if_false, ↓reduceIte, forall_const, implies_true, reduceCtorEq, ne_eq, Nat.reduceBNe, Nat.reduceBEq, IntKind.signed, Nat.reduceEqDiff, Nat.reduceLeDiff, Nat.reduceLT, eq_self, Int.reduceEq, Int.reduceLT, Int.reduceLE, Int.reduceAdd, Int.reduceSub, VC.regC_nil, VC.regC_cons, VC.regCK_eq, VC.callQ, VC.tailQ, VC.goCall, VC.chStep]
        refine ⟨⟨by omega, by omega⟩, fun m3 => ?_⟩
        refine WP_held 9 (fun _ => False) (.take 0 (.take 1 (.take 2 (.take 3 (.take 4 (.take 5 (.take 6 (.take 7 (.take 8 (.one 9 .done)))))))))) Fa.mix (by kernel_rfl) rfl ?_
        simp -dsimp only [VC.heldF_done, VC.heldF_last, VC.planF_done, VC.planF_take, VC.planF_one, VC.planF_two, VC.planK_eq, VC.heldF_take, VC.heldF_one, VC.heldF_two, VC.heldF_twoL, VC.heldK_eq, VC.okRd, Fa.F77, rdSA_of c6, rdSN_of c6, rdSC_of c6, c6, rdI_of z1, z1, rdI_of z3, z3, v0, fr0, VC.Now, VC.vc, VC.lib, VC.regQ, VC.loopK, VC.reg, VC.opP, VC.pv, VC.thenF, VC.blkF, VC.retF, VC.resV, VC.oneV, VC.evo, VC.bin, VC.binI, VC.cmpI, VC.arithI, VC.ldv, VC.slv, VC.pickP, VC.holds, VC.chainOf, VC.look, VC.junk, VC.put, VC.eff, VC.callee, VC.pureB, VC.rdK, VC.rdKs, VC.okKs, VC.eqKs, VC.fillL, VC.putL, VC.stW, VC.stOK, VC.mixF, VC.setAll, Nat.reduceAdd, Nat.reduceSub, Nat.reduceMul, if_true, if_false, ↓reduceIte, forall_const, implies_true, reduceCtorEq, ne_eq, Nat.reduceBNe, Nat.reduceBEq, IntKind.signed, Nat.reduceEqDiff, Nat.reduceLeDiff, Nat.reduceLT, eq_self, Int.reduceEq, Int.reduceLT, Int.reduceLE, Int.reduceAdd, Int.reduceSub, VC.regC_nil, VC.regC_cons, VC.regCK_eq, VC.callQ, VC.tailQ, VC.goCall, VC.chStep]
        refine ⟨hm3, hs3.1, hs3.1, ⟨by omega, by omega⟩, ?_⟩
        have st8 := ((h.below_st hB3).drewN (m3 + 1)).trans (ro_setV (h3.drewN (m3 + 1)) hi c.round)
        have hs8 : Box ((wr.drewN (m3 + 1)).setCell ⟨a.gv, i, none⟩ (.int .i64 c.round)) sb (sayL c) := (hs3.below (below_drewN (Below.refl _ _) (m3 + 1))).far (a := ⟨a.gv, i, none⟩) (Ne.symm hgv) _
        generalize (wr.drewN (m3 + 1)).setCell ⟨a.gv, i, none⟩ (.int .i64 c.round) = wC at st8 hs8 ⊢
        obtain ⟨Ao, co, eo, _⟩ := ro_vl st8.hp
        have q5 := (ro_box st8.hp).at (i := 5) rfl
        rw [eo] at q5
        have x1 := hs8.at (i := 1) rfl
        have x3 := hs8.at (i := 3) rfl
        have x4 := hs8.at (i := 4) rfl
        rw [hw] at x1
        have q7 := (ro_box st8.hp).at (i := 7) rfl
        have x7 := (ro_mem st8.hp hi).2.1
        have hne1 : ¬ a.vl.ownBlock = some a.mb := fun hf => st8.hp.ne 0 3 (by decide) rfl rfl a.mb rfl hf
        have hne2 : ¬ a.vl.ownBlock = some sb := fun hf => by have := (h.lt 3 rfl hf).2; omega
        have hne3 : ¬ a.vl.ownBlock = some a.gk := fun hf => st8.hp.ne 5 3 (by decide) rfl rfl a.gk rfl hf
        have agS : Agree (fun j => a.vl.ownBlock = some j) wC (wC.drewN 1) := Agree.of_below (below_drewN (Below.refl _ wC) 1)
        refine WP_held 22 (fun j => a.vl.ownBlock = some j) (.take 0 (.take 1 (.take 2 (.take 3 (.take 4 (.take 5 (.take 6 (.take 7 (.take 8 (.take 9 (.take 10 (.take 11 (.take 12 (.take 13 (.take 14 (.take 15 (.take 16 (.take 17 (.one 18 (.one 19 (.one 20 (.take 21 (.one 22 .done))))))))))))))))))))))) Fa.mix (by kernel_rfl) rfl ?_
        simp -dsimp only [VC.heldF_done, VC.heldF_last, VC.planF_done, VC.planF_take, VC.planF_one, VC.planF_two, VC.planK_eq, VC.heldF_take, VC.heldF_one, VC.heldF_two, VC.heldF_twoL, VC.heldK_eq, VC.okRd, Fa.F77, rdSA_of q5, rdSN_of q5, rdSC_of q5, q5, rdI_of x1, x1, rdI_of x3, x3, rdI_of x4, x4, rdSA_of q7, rdSN_of q7, rdSC_of q7, q7, rdI_of x7, x7, VC.Now, VC.vc, VC.lib, VC.regQ, VC.loopK, VC.reg, VC.opP, VC.pv, VC.thenF, VC.blkF, VC.retF, VC.resV, VC.oneV, VC.evo, VC.bin, VC.binI, VC.cmpI, VC.arithI, VC.ldv, VC.slv, VC.pickP, VC.holds, VC.chainOf, VC.look, VC.junk, VC.put, VC.eff, VC.callee, VC.pureB, VC.rdK, VC.rdKs, VC.okKs, VC.eqKs, VC.fillL, VC.putL, VC.stW, VC.stOK, VC.mixF, VC.setAll, Nat.reduceAdd, Nat.reduceSub, Nat.reduceMul, if_true, if_false, ↓reduceIte, forall_const, implies_true, reduceCtorEq, ne_eq, Nat.reduceBNe, Nat.reduceBEq, IntKind.signed, Nat.reduceEqDiff, Nat.reduceLeDiff, Nat.reduceLT, eq_self, Int.reduceEq, Int.reduceLT, Int.reduceLE, Int.reduceAdd, Int.reduceSub, VC.regC_nil, VC.regC_cons, VC.regCK_eq, VC.callQ, VC.tailQ, VC.goCall, VC.chStep]
        refine ⟨⟨(ro_box st8.hp).1, hne1⟩, ⟨hs8.1, hne2⟩, ⟨hs8.1, hne2⟩, ⟨(ro_box st8.hp).1, hne1⟩, ⟨hs8.1, hne2⟩, ⟨by omega, by omega⟩, ⟨(st8.hp.lt 5 rfl (g := a.gk) rfl).2, hne3⟩, agS.trans (Agree.of_below ((Below.refl _ _).alloc (Nat.le_refl _) _)), ?_⟩
        refine OPW_appK (v := a.vl) rfl Fa.apI130 eo.symm rfl rfl (by simp [Value.oneCell']) ((st8.hp.drewN 1).get 3 rfl) (Nat.zero_le _) (by omega) (by decide) fun v7 w7 ho7 hg7 hst7 => ?_
        rw [show T.flatMap voC ++ [Value.int .i64 (i : Int), .int .i64 c.round, .int .i64 (s.kn i)] = (T ++ [((i : Int), c.round, (s.kn i))]).flatMap voC by simp] at ho7
        obtain ⟨A7, c7, rfl, _⟩ := id ho7
        have ho8 : OwnK w7 0 218 3 (T ++ [((i : Int), c.round, (s.kn i))]).length (.slice A7 (T.length + 1) c7) ((T ++ [((i : Int), c.round, (s.kn i))]).flatMap voC) := by rw [List.length_append]; exact ho7
        obtain ⟨⟨s1, s2⟩, st7⟩ := (st8.hp.drewN 1).growField 0 3 rfl rfl (by decide) ho8 hg7 hst7 5 (by show 5 < 8; omega)
        have ag7 : Agree (fun j => a.vl.ownBlock = some j) wC w7 := agS.trans (Agree.grown hg7 fun k hk => hk)
        simp -dsimp only [VC.heldF_done, VC.heldF_last, VC.planF_done, VC.planF_take, VC.planF_one, VC.planF_two, VC.planK_eq, VC.heldF_take, VC.heldF_one, VC.heldF_two, VC.heldF_twoL, VC.heldK_eq, VC.okRd, Fa.F77, VC.Now, VC.vc, VC.lib, VC.regQ, VC.loopK, VC.reg, VC.opP, VC.pv, VC.thenF, VC.blkF, VC.retF, VC.resV, VC.oneV, VC.evo, VC.bin, VC.binI, VC.cmpI, VC.arithI, VC.ldv, VC.slv, VC.pickP, VC.holds, VC.chainOf, VC.look, VC.junk, VC.put, VC.eff, VC.callee, VC.pureB, VC.rdK, VC.rdKs, VC.okKs, VC.eqKs, VC.fillL, VC.putL, VC.stW, VC.stOK, VC.mixF, VC.setAll, Nat.reduceAdd, Nat.reduceSub, Nat.reduceMul, if_true, if_false, ↓reduceIte, forall_const, implies_true, reduceCtorEq, ne_eq, Nat.reduceBNe, Nat.reduceBEq, IntKind.signed, Nat.reduceEqDiff, Nat.reduceLeDiff, Nat.reduceLT, eq_self, Int.reduceEq, Int.reduceLT, Int.reduceLE, Int.reduceAdd, Int.reduceSub, VC.regC_nil, VC.regC_cons, VC.regCK_eq, VC.callQ, VC.tailQ, VC.goCall, VC.chStep]
        rw [hmv]
        exact ⟨ag7, ag7, ⟨s1, s2⟩, rfl, a.vb, a.vo, .slice A7 (T.length + 1) c7, V, T ++ [((i : Int), c.round, (s.kn i))], hR.lateH hi _ _ _, by omega, by simp, (st8.drewN 1).trans st7⟩
      · have e6 := eq_false q6
        rw [show maxI (s.vd i) c.round = s.vd i from if_neg q6, upd_self] at hmv
        simp -dsimp only [Fa.F77, e5, e6, rdSA_of c6, rdSN_of c6, rdSC_of c6, c6, rdI_of z1, z1, rdI_of z3, z3, rdI_of v0, v0, VC.Now, VC.vc, VC.lib, VC.regQ, VC.loopK, VC.reg, VC.opP, VC.pv, VC.thenF, VC.blkF, VC.retF, VC.resV, VC.oneV, VC.evo, VC.bin, VC.binI, VC.cmpI, VC.arithI, VC.ldv, VC.slv, VC.pickP, VC.holds, VC.chainOf, VC.look, VC.junk, VC.put, VC.eff, VC.callee, VC.pureB, VC.rdK, VC.rdKs, VC.okKs, VC.eqKs, VC.fillL, VC.putL, VC.stW, VC.stOK, VC.mixF, VC.setAll, Nat.reduceAdd, Nat.reduceSub, Nat.reduceMul, if_true, if_false, ↓reduceIte, forall_const, implies_true, reduceCtorEq, ne_eq, Nat.reduceBNe, Nat.reduceBEq, IntKind.signed, Nat.reduceEqDiff, Nat.reduceLeDiff, Nat.reduceLT, eq_self, Int.reduceEq, Int.reduceLT, Int.reduceLE, Int.reduceAdd, Int.reduceSub, VC.regC_nil, VC.regC_cons, VC.regCK_eq, VC.callQ, VC.tailQ, VC.goCall, VC.chStep]
        refine ⟨⟨by omega, by omega⟩, fun m3 => ?_⟩
        have st8 := (h.below_st hB3).drewN m3
        have hs8 := hs3.below (below_drewN (Below.refl _ _) m3)
        generalize wr.drewN m3 = wC at st8 hs8 ⊢
        obtain ⟨Ao, co, eo, _⟩ := ro_vl st8.hp
        have q5 := (ro_box st8.hp).at (i := 5) rfl
        rw [eo] at q5
        have x1 := hs8.at (i := 1) rfl
        have x3 := hs8.at (i := 3) rfl
        have x4 := hs8.at (i := 4) rfl
        rw [hw] at x1
        have q7 := (ro_box st8.hp).at (i := 7) rfl
        have x7 := (ro_mem st8.hp hi).2.1
        have hne1 : ¬ a.vl.ownBlock = some a.mb := fun hf => st8.hp.ne 0 3 (by decide) rfl rfl a.mb rfl hf
        have hne2 : ¬ a.vl.ownBlock = some sb := fun hf => by have := (h.lt 3 rfl hf).2; omega
        have hne3 : ¬ a.vl.ownBlock = some a.gk := fun hf => st8.hp.ne 5 3 (by decide) rfl rfl a.gk rfl hf
        have agS : Agree (fun j => a.vl.ownBlock = some j) wC (wC.drewN 1) := Agree.of_below (below_drewN (Below.refl _ wC) 1)
        refine WP_held 22 (fun j => a.vl.ownBlock = some j) (.take 0 (.take 1 (.take 2 (.take 3 (.take 4 (.take 5 (.take 6 (.take 7 (.take 8 (.take 9 (.take 10 (.take 11 (.take 12 (.take 13 (.take 14 (.take 15 (.take 16 (.take 17 (.one 18 (.one 19 (.one 20 (.take 21 (.one 22 .done))))))))))))))))))))))) Fa.mix (by kernel_rfl) rfl ?_
        simp -dsimp only [VC.heldF_done, VC.heldF_last, VC.planF_done, VC.planF_take, VC.planF_one, VC.planF_two, VC.planK_eq, VC.heldF_take, VC.heldF_one, VC.heldF_two, VC.heldF_twoL, VC.heldK_eq, VC.okRd, Fa.F77, rdSA_of q5, rdSN_of q5, rdSC_of q5, q5, rdI_of x1, x1, rdI_of x3, x3, rdI_of x4, x4, rdSA_of q7, rdSN_of q7, rdSC_of q7, q7, rdI_of x7, x7, VC.Now, VC.vc, VC.lib, VC.regQ, VC.loopK, VC.reg, VC.opP, VC.pv, VC.thenF, VC.blkF, VC.retF, VC.resV, VC.oneV, VC.evo, VC.bin, VC.binI, VC.cmpI, VC.arithI, VC.ldv, VC.slv, VC.pickP, VC.holds, VC.chainOf, VC.look, VC.junk, VC.put, VC.eff, VC.callee, VC.pureB, VC.rdK, VC.rdKs, VC.okKs, VC.eqKs, VC.fillL, VC.putL, VC.stW, VC.stOK, VC.mixF, VC.setAll, Nat.reduceAdd, Nat.reduceSub, Nat.reduceMul, if_true, if_false, ↓reduceIte, forall_const, implies_true, reduceCtorEq, ne_eq, Nat.reduceBNe, Nat.reduceBEq, IntKind.signed, Nat.reduceEqDiff, Nat.reduceLeDiff, Nat.reduceLT, eq_self, Int.reduceEq, Int.reduceLT, Int.reduceLE, Int.reduceAdd, Int.reduceSub, VC.regC_nil, VC.regC_cons, VC.regCK_eq, VC.callQ, VC.tailQ, VC.goCall, VC.chStep]
        refine ⟨⟨(ro_box st8.hp).1, hne1⟩, ⟨hs8.1, hne2⟩, ⟨hs8.1, hne2⟩, ⟨(ro_box st8.hp).1, hne1⟩, ⟨hs8.1, hne2⟩, ⟨by omega, by omega⟩, ⟨(st8.hp.lt 5 rfl (g := a.gk) rfl).2, hne3⟩, agS.trans (Agree.of_below ((Below.refl _ _).alloc (Nat.le_refl _) _)), ?_⟩
        refine OPW_appK (v := a.vl) rfl Fa.apI130 eo.symm rfl rfl (by simp [Value.oneCell']) ((st8.hp.drewN 1).get 3 rfl) (Nat.zero_le _) (by omega) (by decide) fun v7 w7 ho7 hg7 hst7 => ?_
        rw [show T.flatMap voC ++ [Value.int .i64 (i : Int), .int .i64 c.round, .int .i64 (s.kn i)] = (T ++ [((i : Int), c.round, (s.kn i))]).flatMap voC by simp] at ho7
        obtain ⟨A7, c7, rfl, _⟩ := id ho7
        have ho8 : OwnK w7 0 218 3 (T ++ [((i : Int), c.round, (s.kn i))]).length (.slice A7 (T.length + 1) c7) ((T ++ [((i : Int), c.round, (s.kn i))]).flatMap voC) := by rw [List.length_append]; exact ho7
        obtain ⟨⟨s1, s2⟩, st7⟩ := (st8.hp.drewN 1).growField 0 3 rfl rfl (by decide) ho8 hg7 hst7 5 (by show 5 < 8; omega)
        have ag7 : Agree (fun j => a.vl.ownBlock = some j) wC w7 := agS.trans (Agree.grown hg7 fun k hk => hk)
        simp -dsimp only [VC.heldF_done, VC.heldF_last, VC.planF_done, VC.planF_take, VC.planF_one, VC.planF_two, VC.planK_eq, VC.heldF_take, VC.heldF_one, VC.heldF_two, VC.heldF_twoL, VC.heldK_eq, VC.okRd, Fa.F77, VC.Now, VC.vc, VC.lib, VC.regQ, VC.loopK, VC.reg, VC.opP, VC.pv, VC.thenF, VC.blkF, VC.retF, VC.resV, VC.oneV, VC.evo, VC.bin, VC.binI, VC.cmpI, VC.arithI, VC.ldv, VC.slv, VC.pickP, VC.holds, VC.chainOf, VC.look, VC.junk, VC.put, VC.eff, VC.callee, VC.pureB, VC.rdK, VC.rdKs, VC.okKs, VC.eqKs, VC.fillL, VC.putL, VC.stW, VC.stOK, VC.mixF, VC.setAll, Nat.reduceAdd, Nat.reduceSub, Nat.reduceMul, if_true, if_false, ↓reduceIte, forall_const, implies_true, reduceCtorEq, ne_eq, Nat.reduceBNe, Nat.reduceBEq, IntKind.signed, Nat.reduceEqDiff, Nat.reduceLeDiff, Nat.reduceLT, eq_self, Int.reduceEq, Int.reduceLT, Int.reduceLE, Int.reduceAdd, Int.reduceSub, VC.regC_nil, VC.regC_cons, VC.regCK_eq, VC.callQ, VC.tailQ, VC.goCall, VC.chStep]
        rw [hmv]
        exact ⟨ag7, ag7, ⟨s1, s2⟩, rfl, a.vb, a.vo, .slice A7 (T.length + 1) c7, V, T ++ [((i : Int), c.round, (s.kn i))], hR.lateH hi _ _ _, by omega, by simp, (st8.drewN 1).trans st7⟩
  · simp -dsimp only [Fa.F77, rdI_of z1, z1, rdI_of b2, b2, VC.Now, VC.vc, VC.lib, VC.regQ, VC.loopK, VC.reg, VC.opP, VC.pv, VC.thenF, VC.blkF, VC.retF, VC.resV, VC.oneV, VC.evo, VC.bin, VC.binI, VC.cmpI, VC.arithI, VC.ldv, VC.slv, VC.pickP, VC.holds, VC.chainOf, VC.look, VC.junk, VC.put, VC.eff, VC.callee, VC.pureB, VC.rdK, VC.rdKs, VC.okKs, VC.eqKs, VC.fillL, VC.putL, VC.stW, VC.stOK, VC.mixF, VC.setAll, Nat.reduceAdd, Nat.reduceSub, Nat.reduceMul, if_true, if_false, ↓reduceIte, forall_const, implies_true, reduceCtorEq, ne_eq, Nat.reduceBNe, Nat.reduceBEq, IntKind.signed, Nat.reduceEqDiff, Nat.reduceLeDiff, Nat.reduceLT, eq_self, Int.reduceEq, Int.reduceLT, Int.reduceLE, Int.reduceAdd, Int.reduceSub, VC.regC_nil, VC.regC_cons, VC.regCK_eq, VC.callQ, VC.tailQ, VC.goCall, VC.chStep]
    intro w2 hw2
    have h2 := h1.below hw2
    have hs2 := hs0.below hw2
    have hB2 := hB0.trans (hw2.mono hB0.size)
    refine loop_slots Fa.mix [5, 6] [24, 25, 26, 27, 28, 29, 30, 31, 32, 33, 34, 35, 36, 37, 38, 39, 40, 41, 42, 43, 44, 45, 46, 47, 48, 49, 50, 51] (fun m vs wr => ∃ (k : Nat) (is : Bool), k + m = s.nb ∧ vs = [.bool is, .int .i64 k] ∧ Below w2.heap.size w2 wr ∧ (is = true ↔ ∃ b, b < k ∧ s.r b = c.high ∧ certB (n - f) s b = true)) s.nb (by kernel_rfl) rfl
      ⟨0, false, by omega, rfl, Below.refl _ _, ⟨fun h => (by cases h), fun ⟨b, hb, _⟩ => absurd hb (by omega)⟩⟩ ?_
    rintro m vs u wr ⟨k, is, hkm, rfl, hBr, his⟩
    have h3 := h2.below hBr
    have hs3 := hs2.below hBr
    have hB3 := hB2.trans (hBr.mono hB2.size)
    have z4 := hs3.at (i := 4) rfl
    obtain ⟨g, cb, e, hg, hblk⟩ := ro_blk h3 hok.nb0
    have b3 := (ro_box h3).at (i := 3) rfl
    rw [e] at b3
    by_cases hk : k < s.nb
    · have e5 : ((k : Int) < s.nb) = True := eq_true (by omega)
      have r1 := (hblk k hk).2
      simp -dsimp only [Fa.F77, e5, rdSA_of b3, rdSN_of b3, rdSC_of b3, b3, VC.Now, VC.vc, VC.lib, VC.regQ, VC.loopK, VC.reg, VC.opP, VC.pv, VC.thenF, VC.blkF, VC.retF, VC.resV, VC.oneV, VC.evo, VC.bin, VC.binI, VC.cmpI, VC.arithI, VC.ldv, VC.slv, VC.pickP, VC.holds, VC.chainOf, VC.look, VC.junk, VC.put, VC.eff, VC.callee, VC.pureB, VC.rdK, VC.rdKs, VC.okKs, VC.eqKs, VC.fillL, VC.putL, VC.stW, VC.stOK, VC.mixF, VC.setAll, Nat.reduceAdd, Nat.reduceSub, Nat.reduceMul, if_true, if_false, ↓reduceIte, forall_const, implies_true, reduceCtorEq, ne_eq, Nat.reduceBNe, Nat.reduceBEq, IntKind.signed, Nat.reduceEqDiff, Nat.reduceLeDiff, Nat.reduceLT, eq_self, Int.reduceEq, Int.reduceLT, Int.reduceLE, Int.reduceAdd, Int.reduceSub, VC.regC_nil, VC.regC_cons, VC.regCK_eq, VC.callQ, VC.tailQ, VC.goCall, VC.chStep]
      refine WP_calls Fa.mix (by kernel_rfl) (by kernel_rfl) rfl ?_
      simp -dsimp only [Fa.F77, rdSA_of b3, rdSN_of b3, rdSC_of b3, b3, rdI_of r1, r1, rdI_of z4, z4, VC.Now, VC.vc, VC.lib, VC.regQ, VC.loopK, VC.reg, VC.opP, VC.pv, VC.thenF, VC.blkF, VC.retF, VC.resV, VC.oneV, VC.evo, VC.bin, VC.binI, VC.cmpI, VC.arithI, VC.ldv, VC.slv, VC.pickP, VC.holds, VC.chainOf, VC.look, VC.junk, VC.put, VC.eff, VC.callee, VC.pureB, VC.rdK, VC.rdKs, VC.okKs, VC.eqKs, VC.fillL, VC.putL, VC.stW, VC.stOK, VC.mixF, VC.setAll, Nat.reduceAdd, Nat.reduceSub, Nat.reduceMul, if_true, if_false, ↓reduceIte, forall_const, implies_true, reduceCtorEq, ne_eq, Nat.reduceBNe, Nat.reduceBEq, IntKind.signed, Nat.reduceEqDiff, Nat.reduceLeDiff, Nat.reduceLT, eq_self, Int.reduceEq, Int.reduceLT, Int.reduceLE, Int.reduceAdd, Int.reduceSub, VC.regC_nil, VC.regC_cons, VC.regCK_eq, VC.callQ, VC.tailQ, VC.goCall, VC.chStep]
      refine ⟨fun _ => ⟨by omega, by omega⟩, CALLQ_of (v := .bool (certB (n - f) s k)) (fun _ wq hq => certR_any (h3.below hq) hR hok hn hf hV hk) ?_⟩
      simp -dsimp only [Fa.F77, rdSA_of b3, rdSN_of b3, rdSC_of b3, b3, rdI_of r1, r1, rdI_of z4, z4, VC.Now, VC.vc, VC.lib, VC.regQ, VC.loopK, VC.reg, VC.opP, VC.pv, VC.thenF, VC.blkF, VC.retF, VC.resV, VC.oneV, VC.evo, VC.bin, VC.binI, VC.cmpI, VC.arithI, VC.ldv, VC.slv, VC.pickP, VC.holds, VC.chainOf, VC.look, VC.junk, VC.put, VC.eff, VC.callee, VC.pureB, VC.rdK, VC.rdKs, VC.okKs, VC.eqKs, VC.fillL, VC.putL, VC.stW, VC.stOK, VC.mixF, VC.setAll, Nat.reduceAdd, Nat.reduceSub, Nat.reduceMul, if_true, if_false, ↓reduceIte, forall_const, implies_true, reduceCtorEq, ne_eq, Nat.reduceBNe, Nat.reduceBEq, IntKind.signed, Nat.reduceEqDiff, Nat.reduceLeDiff, Nat.reduceLT, eq_self, Int.reduceEq, Int.reduceLT, Int.reduceLE, Int.reduceAdd, Int.reduceSub, VC.regC_nil, VC.regC_cons, VC.regCK_eq, VC.callQ, VC.tailQ, VC.goCall, VC.chStep]
      refine fun u5 w5 hw5 => ⟨fits_i64_nat (by omega), SAME.intro (by kernel_rfl), m - 1, by omega, k + 1, _, by omega, rfl, hBr.trans (hw5.mono hBr.size), ?_⟩
      simp only [Bool.or_eq_true, Bool.and_eq_true, decide_eq_true_eq]
      rw [his]
      constructor
      · rintro (⟨b, hb, hh⟩ | hh)
        · exact ⟨b, by omega, hh⟩
        · exact ⟨k, by omega, hh⟩
      · rintro ⟨b, hb, hh⟩
        by_cases hbk : b = k
        · subst hbk; exact Or.inr hh
        · exact Or.inl ⟨b, by omega, hh⟩
    · obtain rfl : k = s.nb := by omega
      have e5 : ((s.nb : Int) < s.nb) = False := eq_false (by omega)
      cases is
      · simp -dsimp only [Fa.F77, e5, rdSA_of b3, rdSN_of b3, rdSC_of b3, b3, VC.Now, VC.vc, VC.lib, VC.regQ, VC.loopK, VC.reg, VC.opP, VC.pv, VC.thenF, VC.blkF, VC.retF, VC.resV, VC.oneV, VC.evo, VC.bin, VC.binI, VC.cmpI, VC.arithI, VC.ldv, VC.slv, VC.pickP, VC.holds, VC.chainOf, VC.look, VC.junk, VC.put, VC.eff, VC.callee, VC.pureB, VC.rdK, VC.rdKs, VC.okKs, VC.eqKs, VC.fillL, VC.putL, VC.stW, VC.stOK, VC.mixF, VC.setAll, Nat.reduceAdd, Nat.reduceSub, Nat.reduceMul, if_true, if_false, ↓reduceIte, forall_const, implies_true, reduceCtorEq, ne_eq, Nat.reduceBNe, Nat.reduceBEq, IntKind.signed, Nat.reduceEqDiff, Nat.reduceLeDiff, Nat.reduceLT, eq_self, Int.reduceEq, Int.reduceLT, Int.reduceLE, Int.reduceAdd, Int.reduceSub, VC.regC_nil, VC.regC_cons, VC.regCK_eq, VC.callQ, VC.tailQ, VC.goCall, VC.chStep]
        refine RPost.same h hR hB3 ?_
        unfold mlate
        rw [if_neg q0, if_pos hli, if_neg]
        intro hh; have := his.2 hh; cases this
      · have hmv : mlate (n - f) liars i c s = (0, { s with lt := fun k => s.lt k ∨ k = (c.round, (i : Int), c.high) }) := by
          unfold mlate; rw [if_neg q0, if_pos hli, if_pos (his.1 rfl), hw]
        simp -dsimp only [Fa.F77, e5, rdSA_of b3, rdSN_of b3, rdSC_of b3, b3, VC.Now, VC.vc, VC.lib, VC.regQ, VC.loopK, VC.reg, VC.opP, VC.pv, VC.thenF, VC.blkF, VC.retF, VC.resV, VC.oneV, VC.evo, VC.bin, VC.binI, VC.cmpI, VC.arithI, VC.ldv, VC.slv, VC.pickP, VC.holds, VC.chainOf, VC.look, VC.junk, VC.put, VC.eff, VC.callee, VC.pureB, VC.rdK, VC.rdKs, VC.okKs, VC.eqKs, VC.fillL, VC.putL, VC.stW, VC.stOK, VC.mixF, VC.setAll, Nat.reduceAdd, Nat.reduceSub, Nat.reduceMul, if_true, if_false, ↓reduceIte, forall_const, implies_true, reduceCtorEq, ne_eq, Nat.reduceBNe, Nat.reduceBEq, IntKind.signed, Nat.reduceEqDiff, Nat.reduceLeDiff, Nat.reduceLT, eq_self, Int.reduceEq, Int.reduceLT, Int.reduceLE, Int.reduceAdd, Int.reduceSub, VC.regC_nil, VC.regC_cons, VC.regCK_eq, VC.callQ, VC.tailQ, VC.goCall, VC.chStep]
        have st8 := h.below_st hB3
        obtain ⟨Ao, co, eo, _⟩ := ro_vl st8.hp
        have q5 := (ro_box st8.hp).at (i := 5) rfl
        rw [eo] at q5
        have x1 := hs3.at (i := 1) rfl
        have x3 := hs3.at (i := 3) rfl
        have x4 := hs3.at (i := 4) rfl
        rw [hw] at x1
        have hne1 : ¬ a.vl.ownBlock = some a.mb := fun hf => st8.hp.ne 0 3 (by decide) rfl rfl a.mb rfl hf
        have hne2 : ¬ a.vl.ownBlock = some sb := fun hf => by have := (h.lt 3 rfl hf).2; omega
        have hne3 : ¬ a.vl.ownBlock = some a.gk := fun hf => st8.hp.ne 5 3 (by decide) rfl rfl a.gk rfl hf
        have agS : Agree (fun j => a.vl.ownBlock = some j) wr (wr.drewN 1) := Agree.of_below (below_drewN (Below.refl _ wr) 1)
        refine WP_held 16 (fun j => a.vl.ownBlock = some j) (.take 0 (.take 1 (.take 2 (.take 3 (.take 4 (.take 5 (.take 6 (.take 7 (.take 8 (.take 9 (.take 10 (.take 11 (.one 12 (.one 13 (.one 14 (.take 15 (.one 16 .done))))))))))))))))) Fa.mix (by kernel_rfl) rfl ?_
        simp -dsimp only [VC.heldF_done, VC.heldF_last, VC.planF_done, VC.planF_take, VC.planF_one, VC.planF_two, VC.planK_eq, VC.heldF_take, VC.heldF_one, VC.heldF_two, VC.heldF_twoL, VC.heldK_eq, VC.okRd, Fa.F77, rdSA_of q5, rdSN_of q5, rdSC_of q5, q5, rdI_of x1, x1, rdI_of x3, x3, rdI_of x4, x4, VC.Now, VC.vc, VC.lib, VC.regQ, VC.loopK, VC.reg, VC.opP, VC.pv, VC.thenF, VC.blkF, VC.retF, VC.resV, VC.oneV, VC.evo, VC.bin, VC.binI, VC.cmpI, VC.arithI, VC.ldv, VC.slv, VC.pickP, VC.holds, VC.chainOf, VC.look, VC.junk, VC.put, VC.eff, VC.callee, VC.pureB, VC.rdK, VC.rdKs, VC.okKs, VC.eqKs, VC.fillL, VC.putL, VC.stW, VC.stOK, VC.mixF, VC.setAll, Nat.reduceAdd, Nat.reduceSub, Nat.reduceMul, if_true, if_false, ↓reduceIte, forall_const, implies_true, reduceCtorEq, ne_eq, Nat.reduceBNe, Nat.reduceBEq, IntKind.signed, Nat.reduceEqDiff, Nat.reduceLeDiff, Nat.reduceLT, eq_self, Int.reduceEq, Int.reduceLT, Int.reduceLE, Int.reduceAdd, Int.reduceSub, VC.regC_nil, VC.regC_cons, VC.regCK_eq, VC.callQ, VC.tailQ, VC.goCall, VC.chStep]
        refine ⟨⟨(ro_box st8.hp).1, hne1⟩, ⟨hs3.1, hne2⟩, ⟨hs3.1, hne2⟩, ⟨hs3.1, hne2⟩, agS.trans (Agree.of_below ((Below.refl _ _).alloc (Nat.le_refl _) _)), ?_⟩
        refine OPW_appK (v := a.vl) rfl Fa.apI130 eo.symm rfl rfl (by simp [Value.oneCell']) ((st8.hp.drewN 1).get 3 rfl) (Nat.zero_le _) (by omega) (by decide) fun v7 w7 ho7 hg7 hst7 => ?_
        rw [show T.flatMap voC ++ [Value.int .i64 (i : Int), .int .i64 c.round, .int .i64 c.high] = (T ++ [((i : Int), c.round, c.high)]).flatMap voC by simp] at ho7
        obtain ⟨A7, c7, rfl, _⟩ := id ho7
        have ho8 : OwnK w7 0 218 3 (T ++ [((i : Int), c.round, c.high)]).length (.slice A7 (T.length + 1) c7) ((T ++ [((i : Int), c.round, c.high)]).flatMap voC) := by rw [List.length_append]; exact ho7
        obtain ⟨⟨s1, s2⟩, st7⟩ := (st8.hp.drewN 1).growField 0 3 rfl rfl (by decide) ho8 hg7 hst7 5 (by show 5 < 8; omega)
        have ag7 : Agree (fun j => a.vl.ownBlock = some j) wr w7 := agS.trans (Agree.grown hg7 fun k hk => hk)
        simp -dsimp only [VC.heldF_done, VC.heldF_last, VC.planF_done, VC.planF_take, VC.planF_one, VC.planF_two, VC.planK_eq, VC.heldF_take, VC.heldF_one, VC.heldF_two, VC.heldF_twoL, VC.heldK_eq, VC.okRd, Fa.F77, VC.Now, VC.vc, VC.lib, VC.regQ, VC.loopK, VC.reg, VC.opP, VC.pv, VC.thenF, VC.blkF, VC.retF, VC.resV, VC.oneV, VC.evo, VC.bin, VC.binI, VC.cmpI, VC.arithI, VC.ldv, VC.slv, VC.pickP, VC.holds, VC.chainOf, VC.look, VC.junk, VC.put, VC.eff, VC.callee, VC.pureB, VC.rdK, VC.rdKs, VC.okKs, VC.eqKs, VC.fillL, VC.putL, VC.stW, VC.stOK, VC.mixF, VC.setAll, Nat.reduceAdd, Nat.reduceSub, Nat.reduceMul, if_true, if_false, ↓reduceIte, forall_const, implies_true, reduceCtorEq, ne_eq, Nat.reduceBNe, Nat.reduceBEq, IntKind.signed, Nat.reduceEqDiff, Nat.reduceLeDiff, Nat.reduceLT, eq_self, Int.reduceEq, Int.reduceLT, Int.reduceLE, Int.reduceAdd, Int.reduceSub, VC.regC_nil, VC.regC_cons, VC.regCK_eq, VC.callQ, VC.tailQ, VC.goCall, VC.chStep]
        rw [hmv]
        exact ⟨ag7, ag7, ⟨s1, s2⟩, rfl, a.vb, a.vo, .slice A7 (T.length + 1) c7, V, T ++ [((i : Int), c.round, c.high)], hR.lateL hi hli _ _, by omega, by simp, (st8.drewN 1).trans st7⟩
end
end Go.Proofs.Ytnggjekppdlaoaa
