/- An assembly in memory: one gives a round up. -/
import Derived.Test.YtnggjekppdlaoaaMoot3
namespace Go.Proofs.Ytnggjekppdlaoaa
open Go Go.RowKit Go.VC
set_option linter.unusedSimpArgs false
set_option linter.unusedVariables false
section
variable {B n need liars t : Nat} {a : MA} {s : MS} {w : World}
abbrev withL (a : MA) (nl : Nat) : MA := ⟨a.mb, a.gm, a.bl, a.bg, nl, a.ng, a.vb, a.vv⟩
abbrev withG (a : MA) (ng : Nat) : MA := ⟨a.mb, a.gm, a.bl, a.bg, a.nl, ng, a.vb, a.vv⟩
theorem mo_late (h : Hp B (MObs n need liars a s) w) {k : Int × Int × Int} {w' : World} (hM : MapV Try.prog EG w' a.bl (if (lateM s k).isSome = true then a.nl else a.nl + 1) (updV (lateM s) k (.int .i64 1))) (ht : w.mapTurned w' a.bl) :
    ∃ nl, nl ≤ a.nl + 1 ∧ St B (MObs n need liars a s) w (MObs n need liars (withL a nl) { s with lt := fun x => s.lt x ∨ x = k }) w' := by
  have e : updV (lateM s) k (.int .i64 1) = lateM { s with lt := fun x => s.lt x ∨ x = k } := by
    funext x
    by_cases hx : x = k
    · subst hx; rw [updV_same]; unfold lateM; rw [if_pos (Or.inr rfl)]
    · rw [updV_other hx]; unfold lateM
      by_cases hs : s.lt x
      · rw [if_pos hs, if_pos (Or.inl hs)]
      · rw [if_neg hs, if_neg (by rintro (h | h); exact hs h; exact hx h)]
  rw [e] at hM
  exact ⟨if (lateM s k).isSome = true then a.nl else a.nl + 1, by split <;> omega, h.turned 4 rfl hM ht⟩
theorem mo_gave (h : Hp B (MObs n need liars a s) w) {k : Int × Int} {w' : World} {ng : Nat} (hM : MapV Try.prog EW w' a.bg ng (updV (gaveM s) k (.int .i64 ((s.gc k : Nat) + 1)))) (ht : w.mapTurned w' a.bg) :
    St B (MObs n need liars a s) w (MObs n need liars (withG a ng) { s with gc := fun x => if x = k then s.gc x + 1 else s.gc x }) w' := by
  have e : updV (gaveM s) k (.int .i64 ((s.gc k : Nat) + 1)) = gaveM { s with gc := fun x => if x = k then s.gc x + 1 else s.gc x } := by
    funext x
    by_cases hx : x = k
    · subst hx; rw [updV_same]; unfold gaveM; simp
    · rw [updV_other hx]; unfold gaveM; simp [hx]
  rw [e] at hM
  exact h.turned 5 rfl hM ht
theorem EG_ok {x y z : Int} (h1 : fits .i64 x) (h2 : fits .i64 y) (h3 : fits .i64 z) : EG.ok (x, y, z) := fun j hj => by
  have hj : j ∈ [x, y, z] := hj
  simp only [List.mem_cons, List.not_mem_nil, or_false] at hj
  rcases hj with rfl | rfl | rfl <;> assumption
theorem EW_ok {x y : Int} (h1 : fits .i64 x) (h2 : fits .i64 y) : EW.ok (x, y) := fun j hj => by
  have hj : j ∈ [x, y] := hj
  simp only [List.mem_cons, List.not_mem_nil, or_false] at hj
  rcases hj with rfl | rfl <;> assumption
theorem gaveM_val (s : MS) (k : Int × Int) : (gaveM s k).getD (.int .i64 0) = .int .i64 (s.gc k) := by
  unfold gaveM; split
  · rename_i h; rw [h]; rfl
  · rfl

set_option maxRecDepth 8000 in
set_option maxHeartbeats 4000000 in
theorem giveUp_any (h : Hp B (MObs n need liars a s) w) (hok : MOK n t s) (hn : n ≤ 32) (hnd : need ≤ 1000) (hl : liars < 4294967296) (ht : t ≤ 1000) (hnl : a.nl ≤ 1000) (hng : a.ng ≤ 1000) {c : Say} (hc : SayOK c) {i : Nat} (hi : i < n) (hw : c.who = i) :
    Calls Try.prog 70 #[.pointer (some ⟨a.mb, 0, none⟩), sayV c] w (MPost B n need liars a s w (mlate need liars i c s)) := by
  obtain ⟨f1, f2, f3, f4⟩ := hc
  have hB0 : Below w.heap.size w (w.alloc (.cells (sayL c).toArray 124)) := (Below.refl _ _).alloc (Nat.le_refl _) _
  have hs0 : Box (w.alloc (.cells (sayL c).toArray 124)) w.heap.size (sayL c) := Box.new w _ _
  refine calls_vc (rs := [.tmp 4]) Fa.mix Try.func70 rfl Try.ntmps70 rfl (by kernel_rfl) (Nat.le_of_ble_eq_true rfl) ?_
  (repeat rw [vc_seq]); refine vc_plain _ fun Q hQ => ?_; simp -dsimp only [Fa.F70, VC.Now, VC.vc_skip, VC.vc_ret, VC.vc_exit, VC.vc_block, VC.vc_cond, VC.vc_region, VC.lib, VC.regQ, VC.loopK, VC.reg, VC.opP, VC.pv, VC.thenF, VC.blkF, VC.retF, VC.resV, VC.oneV, VC.evo, VC.bin, VC.binI, VC.cmpI, VC.arithI, VC.ldv, VC.slv, VC.pickP, VC.holds, VC.chainOf, VC.look, VC.junk, VC.put, VC.eff, VC.callee, VC.pureB, VC.rdK, VC.rdKs, VC.okKs, VC.eqKs, VC.fillL, VC.putL, VC.stW, VC.stOK, VC.mixF, VC.setAll, Nat.reduceAdd, Nat.reduceSub, Nat.reduceMul, if_true, if_false, ↓reduceIte, forall_const, implies_true, reduceCtorEq, ne_eq, Nat.reduceBNe, Nat.reduceBEq, IntKind.signed, Nat.reduceEqDiff, Nat.reduceLeDiff, Nat.reduceLT, eq_self, Int.reduceEq, Int.reduceLT, Int.reduceLE, Int.reduceAdd, Int.reduceSub, VC.regC_nil, VC.regC_cons, VC.regCK_eq, VC.callQ, VC.tailQ, VC.goCall, VC.chStep]
  generalize hsb : w.heap.size = sb at hs0 hB0 ⊢
  change Q _ _ (w.alloc (.cells (sayL c).toArray 124))
  generalize w.alloc (.cells (sayL c).toArray 124) = w1 at hs0 hB0 ⊢
  subst hQ
  replace hB0 : Below w.heap.size w w1 := by rw [hsb]; exact hB0
  have h1 := h.below hB0
  have z1 := hs0.at (i := 1) rfl
  have z3 := hs0.at (i := 3) rfl
  have z4 := hs0.at (i := 4) rfl
  rw [hw] at z1
  have hl1 : sb < w1.heap.size := hs0.1
  have hbg0 : a.bg < sb := hsb ▸ (h.lt 5 rfl (g := a.bg) rfl).2
  have hbl0 : a.bl < sb := hsb ▸ (h.lt 4 rfl (g := a.bl) rfl).2
  have hgm0 : a.gm < sb := hsb ▸ (h.lt 3 rfl (g := a.gm) rfl).2
  by_cases q0 : c.round < 1 ∨ 1000 < c.round
  · have e0 : (c.round < 1 ∨ 1000 < c.round) = True := eq_true q0
    simp -dsimp only [Fa.F70, rdI_of z1, z1, rdI_of z3, z3, rdI_of z4, z4, e0, VC.Now, VC.vc, VC.lib, VC.regQ, VC.loopK, VC.reg, VC.opP, VC.pv, VC.thenF, VC.blkF, VC.retF, VC.resV, VC.oneV, VC.evo, VC.bin, VC.binI, VC.cmpI, VC.arithI, VC.ldv, VC.slv, VC.pickP, VC.holds, VC.chainOf, VC.look, VC.junk, VC.put, VC.eff, VC.callee, VC.pureB, VC.rdK, VC.rdKs, VC.okKs, VC.eqKs, VC.fillL, VC.putL, VC.stW, VC.stOK, VC.mixF, VC.setAll, Nat.reduceAdd, Nat.reduceSub, Nat.reduceMul, if_true, if_false, ↓reduceIte, forall_const, implies_true, reduceCtorEq, ne_eq, Nat.reduceBNe, Nat.reduceBEq, IntKind.signed, Nat.reduceEqDiff, Nat.reduceLeDiff, Nat.reduceLT, eq_self, Int.reduceEq, Int.reduceLT, Int.reduceLE, Int.reduceAdd, Int.reduceSub, VC.regC_nil, VC.regC_cons, VC.regCK_eq, VC.callQ, VC.tailQ, VC.goCall, VC.chStep]
    exact MPost.same h hB0 (by unfold mlate; rw [if_pos q0])
  · have e0 : ((c.round < 1 ∨ 1000 < c.round)) = False := eq_false q0
    simp -dsimp only [Fa.F70, rdI_of z1, z1, rdI_of z3, z3, rdI_of z4, z4, e0, hl1, VC.Now, VC.vc, VC.lib, VC.regQ, VC.loopK, VC.reg, VC.opP, VC.pv, VC.thenF, VC.blkF, VC.retF, VC.resV, VC.oneV, VC.evo, VC.bin, VC.binI, VC.cmpI, VC.arithI, VC.ldv, VC.slv, VC.pickP, VC.holds, VC.chainOf, VC.look, VC.junk, VC.put, VC.eff, VC.callee, VC.pureB, VC.rdK, VC.rdKs, VC.okKs, VC.eqKs, VC.fillL, VC.putL, VC.stW, VC.stOK, VC.mixF, VC.setAll, Nat.reduceAdd, Nat.reduceSub, Nat.reduceMul, if_true, if_false, ↓reduceIte, forall_const, implies_true, reduceCtorEq, ne_eq, Nat.reduceBNe, Nat.reduceBEq, IntKind.signed, Nat.reduceEqDiff, Nat.reduceLeDiff, Nat.reduceLT, eq_self, Int.reduceEq, Int.reduceLT, Int.reduceLE, Int.reduceAdd, Int.reduceSub, VC.regC_nil, VC.regC_cons, VC.regCK_eq, VC.callQ, VC.tailQ, VC.goCall, VC.chStep]
    intro u
    have hg0 : Box (w1.alloc (.cells #[.int .i64 c.round, .int .i64 (i : Int), .int .i64 c.high] 212)) w1.heap.size [.int .i64 c.round, .int .i64 i, .int .i64 c.high] := Box.new w1 [.int .i64 c.round, .int .i64 i, .int .i64 c.high] _
    have hB2 : Below w1.heap.size w1 (w1.alloc (.cells #[.int .i64 c.round, .int .i64 (i : Int), .int .i64 c.high] 212)) := (Below.refl _ _).alloc (Nat.le_refl _) _
    generalize w1.alloc (.cells #[.int .i64 c.round, .int .i64 (i : Int), .int .i64 c.high] 212) = w2 at hg0 hB2 ⊢
    generalize hgb : w1.heap.size = gb at hg0 ⊢
    have h2 := h1.below hB2
    have hs2 := hs0.below hB2
    have hB02 : Below w.heap.size w w2 := hB0.trans (hB2.mono hB0.size)
    refine CALL_of (lies_any h2 hl (by omega)) fun w3 hw3 => ?_
    have h3 := h2.below hw3
    have hs3 := hs2.below hw3
    have hg3 := hg0.below hw3
    have hB03 := hB02.trans (hw3.mono hB02.size)
    clear hs2 hs0 hg0 h2 hB02 z1 z3 z4
    have z1 := hs3.at (i := 1) rfl
    have z3 := hs3.at (i := 3) rfl
    have z4 := hs3.at (i := 4) rfl
    rw [hw] at z1
    have hl3 := hs3.1
    have hlg := hg3.1
    obtain ⟨g, cb, e, hg, hblk⟩ := mo_blk h3 hok.nb0
    have b3 := (mo_box h3).at (i := 3) rfl
    have b5 := (mo_box h3).at (i := 5) rfl
    have b6 := (mo_box h3).at (i := 6) rfl
    have b7 := (mo_box h3).at (i := 7) rfl
    rw [e] at b3
    cases hli : liars.testBit i
    · simp -dsimp only [Fa.F70, rdI_of z1, z1, rdI_of z3, z3, rdI_of z4, z4, hl3, hlg, VC.Now, VC.vc, VC.lib, VC.regQ, VC.loopK, VC.reg, VC.opP, VC.pv, VC.thenF, VC.blkF, VC.retF, VC.resV, VC.oneV, VC.evo, VC.bin, VC.binI, VC.cmpI, VC.arithI, VC.ldv, VC.slv, VC.pickP, VC.holds, VC.chainOf, VC.look, VC.junk, VC.put, VC.eff, VC.callee, VC.pureB, VC.rdK, VC.rdKs, VC.okKs, VC.eqKs, VC.fillL, VC.putL, VC.stW, VC.stOK, VC.mixF, VC.setAll, Nat.reduceAdd, Nat.reduceSub, Nat.reduceMul, if_true, if_false, ↓reduceIte, forall_const, implies_true, reduceCtorEq, ne_eq, Nat.reduceBNe, Nat.reduceBEq, IntKind.signed, Nat.reduceEqDiff, Nat.reduceLeDiff, Nat.reduceLT, eq_self, Int.reduceEq, Int.reduceLT, Int.reduceLE, Int.reduceAdd, Int.reduceSub, VC.regC_nil, VC.regC_cons, VC.regCK_eq, VC.callQ, VC.tailQ, VC.goCall, VC.chStep]
      have hk4 : Box (w3.alloc (.cells #[.int .i64 (i : Int), .int .i64 c.round] 213)) w3.heap.size [.int .i64 i, .int .i64 c.round] := Box.new w3 [.int .i64 i, .int .i64 c.round] _
      have hB4 : Below w3.heap.size w3 (w3.alloc (.cells #[.int .i64 (i : Int), .int .i64 c.round] 213)) := below_box (Below.refl _ _) _
      have hbgl := (h3.lt 5 rfl (g := a.bg) rfl).2
      generalize w3.alloc (.cells #[.int .i64 (i : Int), .int .i64 c.round] 213) = w4 at hk4 hB4 ⊢
      generalize hkb : w3.heap.size = kb at hk4 hbgl ⊢
      have h4 := h3.below hB4
      have d7 := (mo_box h4).at (i := 7) rfl
      have k0 := hk4.at (i := 0) rfl
      have k1 := hk4.at (i := 1) rfl
      have hm4 := (mo_box h4).1
      have hkl := hk4.1
      have hne : a.mb ≠ a.bg := fun eq => h4.ne 0 5 (by decide) rfl rfl a.mb rfl (by rw [eq]; rfl)
      have hkey : EW.ok ((i : Int), c.round) := EW_ok (hw ▸ f1) f3
      have ag0 : Agree (fun j => j = a.bg) w4 (w4.drewN 1) := Agree.of_below (below_drewN (Below.refl _ w4) 1)
      refine WP_held 9 (fun j => j = a.bg) (.take 0 (.take 1 (.take 2 (.take 3 (.take 4 (.two 5 (.take 6 (.one 7 (.take 8 (.one 9 .done)))) 7 (.take 8 (.one 5 (.take 6 (.one 9 .done)))))))))) Fa.mix (by kernel_rfl) rfl ?_
      simp -dsimp only [VC.heldF_done, VC.heldF_last, VC.planF_done, VC.planF_take, VC.planF_one, VC.planF_two, VC.planK_eq, VC.heldF_take, VC.heldF_one, VC.heldF_two, VC.heldF_twoL, VC.heldK_eq, VC.okRd, Fa.F70, rdM_of d7, d7, rdI_of k0, k0, rdI_of k1, k1, VC.Now, VC.vc, VC.lib, VC.regQ, VC.loopK, VC.reg, VC.opP, VC.pv, VC.thenF, VC.blkF, VC.retF, VC.resV, VC.oneV, VC.evo, VC.bin, VC.binI, VC.cmpI, VC.arithI, VC.ldv, VC.slv, VC.pickP, VC.holds, VC.chainOf, VC.look, VC.junk, VC.put, VC.eff, VC.callee, VC.pureB, VC.rdK, VC.rdKs, VC.okKs, VC.eqKs, VC.fillL, VC.putL, VC.stW, VC.stOK, VC.mixF, VC.setAll, Nat.reduceAdd, Nat.reduceSub, Nat.reduceMul, if_true, if_false, ↓reduceIte, forall_const, implies_true, reduceCtorEq, ne_eq, Nat.reduceBNe, Nat.reduceBEq, IntKind.signed, Nat.reduceEqDiff, Nat.reduceLeDiff, Nat.reduceLT, eq_self, Int.reduceEq, Int.reduceLT, Int.reduceLE, Int.reduceAdd, Int.reduceSub, VC.regC_nil, VC.regC_cons, VC.regCK_eq, VC.callQ, VC.tailQ, VC.goCall, VC.chStep]
      refine ⟨⟨hm4, hne⟩, ⟨hkl, by omega⟩, ?_, ?_⟩
      refine OPW_lookV (x := ((i : Int), c.round)) (z := .int .i64 0) ((h4.drewN 1).get 5 rfl) rfl (by kernel_rfl) rfl rfl hkey (gaveM_val s _) ?_
      simp -dsimp only [VC.heldF_done, VC.heldF_last, VC.planF_done, VC.planF_take, VC.planF_one, VC.planF_two, VC.planK_eq, VC.heldF_take, VC.heldF_one, VC.heldF_two, VC.heldF_twoL, VC.heldK_eq, VC.okRd, Fa.F70, VC.Now, VC.vc, VC.lib, VC.regQ, VC.loopK, VC.reg, VC.opP, VC.pv, VC.thenF, VC.blkF, VC.retF, VC.resV, VC.oneV, VC.evo, VC.bin, VC.binI, VC.cmpI, VC.arithI, VC.ldv, VC.slv, VC.pickP, VC.holds, VC.chainOf, VC.look, VC.junk, VC.put, VC.eff, VC.callee, VC.pureB, VC.rdK, VC.rdKs, VC.okKs, VC.eqKs, VC.fillL, VC.putL, VC.stW, VC.stOK, VC.mixF, VC.setAll, Nat.reduceAdd, Nat.reduceSub, Nat.reduceMul, if_true, if_false, ↓reduceIte, forall_const, implies_true, reduceCtorEq, ne_eq, Nat.reduceBNe, Nat.reduceBEq, IntKind.signed, Nat.reduceEqDiff, Nat.reduceLeDiff, Nat.reduceLT, eq_self, Int.reduceEq, Int.reduceLT, Int.reduceLE, Int.reduceAdd, Int.reduceSub, VC.regC_nil, VC.regC_cons, VC.regCK_eq, VC.callQ, VC.tailQ, VC.goCall, VC.chStep]
      refine ⟨ag0, fits_i64_nat (by have := hok.gc ((i : Int), c.round); omega), OPW_entV (x := ((i : Int), c.round)) (z := .int .i64 0) ((h4.drewN 1).get 5 rfl) rfl (by kernel_rfl) rfl rfl hkey (by unfold maxLen; omega) (gaveM_val s _) fun w6 sp hM6 hS6 ht6 => ?_⟩
      simp -dsimp only [VC.heldF_done, VC.heldF_last, VC.planF_done, VC.planF_take, VC.planF_one, VC.planF_two, VC.planK_eq, VC.heldF_take, VC.heldF_one, VC.heldF_two, VC.heldF_twoL, VC.heldK_eq, VC.okRd, Fa.F70, VC.Now, VC.vc, VC.lib, VC.regQ, VC.loopK, VC.reg, VC.opP, VC.pv, VC.thenF, VC.blkF, VC.retF, VC.resV, VC.oneV, VC.evo, VC.bin, VC.binI, VC.cmpI, VC.arithI, VC.ldv, VC.slv, VC.pickP, VC.holds, VC.chainOf, VC.look, VC.junk, VC.put, VC.eff, VC.callee, VC.pureB, VC.rdK, VC.rdKs, VC.okKs, VC.eqKs, VC.fillL, VC.putL, VC.stW, VC.stOK, VC.mixF, VC.setAll, Nat.reduceAdd, Nat.reduceSub, Nat.reduceMul, if_true, if_false, ↓reduceIte, forall_const, implies_true, reduceCtorEq, ne_eq, Nat.reduceBNe, Nat.reduceBEq, IntKind.signed, Nat.reduceEqDiff, Nat.reduceLeDiff, Nat.reduceLT, eq_self, Int.reduceEq, Int.reduceLT, Int.reduceLE, Int.reduceAdd, Int.reduceSub, VC.regC_nil, VC.regC_cons, VC.regCK_eq, VC.callQ, VC.tailQ, VC.goCall, VC.chStep]
      have ag6 := ag0.trans (mapTurned_agree (X := fun j => j = a.bg) ht6 rfl)
      refine ⟨ag6, OPW_estV (x := ((i : Int), c.round)) hM6 hS6 rfl (by kernel_rfl) rfl rfl rfl hkey (by unfold maxLen; split <;> omega) fun w7 hM7 ht7 => ?_⟩
      rotate_left
      refine OPW_entV (x := ((i : Int), c.round)) (z := .int .i64 0) ((h4.drewN 1).get 5 rfl) rfl (by kernel_rfl) rfl rfl hkey (by unfold maxLen; omega) (gaveM_val s _) fun w6 sp hM6 hS6 ht6 => ?_
      simp -dsimp only [VC.heldF_done, VC.heldF_last, VC.planF_done, VC.planF_take, VC.planF_one, VC.planF_two, VC.planK_eq, VC.heldF_take, VC.heldF_one, VC.heldF_two, VC.heldF_twoL, VC.heldK_eq, VC.okRd, Fa.F70, VC.Now, VC.vc, VC.lib, VC.regQ, VC.loopK, VC.reg, VC.opP, VC.pv, VC.thenF, VC.blkF, VC.retF, VC.resV, VC.oneV, VC.evo, VC.bin, VC.binI, VC.cmpI, VC.arithI, VC.ldv, VC.slv, VC.pickP, VC.holds, VC.chainOf, VC.look, VC.junk, VC.put, VC.eff, VC.callee, VC.pureB, VC.rdK, VC.rdKs, VC.okKs, VC.eqKs, VC.fillL, VC.putL, VC.stW, VC.stOK, VC.mixF, VC.setAll, Nat.reduceAdd, Nat.reduceSub, Nat.reduceMul, if_true, if_false, ↓reduceIte, forall_const, implies_true, reduceCtorEq, ne_eq, Nat.reduceBNe, Nat.reduceBEq, IntKind.signed, Nat.reduceEqDiff, Nat.reduceLeDiff, Nat.reduceLT, eq_self, Int.reduceEq, Int.reduceLT, Int.reduceLE, Int.reduceAdd, Int.reduceSub, VC.regC_nil, VC.regC_cons, VC.regCK_eq, VC.callQ, VC.tailQ, VC.goCall, VC.chStep]
      have ag6 := ag0.trans (mapTurned_agree (X := fun j => j = a.bg) ht6 rfl)
      refine ⟨ag6, OPW_lookV (x := ((i : Int), c.round)) (z := .int .i64 0) hM6 rfl (by kernel_rfl) rfl rfl hkey (by rw [updV_same]) ?_⟩
      simp -dsimp only [VC.heldF_done, VC.heldF_last, VC.planF_done, VC.planF_take, VC.planF_one, VC.planF_two, VC.planK_eq, VC.heldF_take, VC.heldF_one, VC.heldF_two, VC.heldF_twoL, VC.heldK_eq, VC.okRd, Fa.F70, VC.Now, VC.vc, VC.lib, VC.regQ, VC.loopK, VC.reg, VC.opP, VC.pv, VC.thenF, VC.blkF, VC.retF, VC.resV, VC.oneV, VC.evo, VC.bin, VC.binI, VC.cmpI, VC.arithI, VC.ldv, VC.slv, VC.pickP, VC.holds, VC.chainOf, VC.look, VC.junk, VC.put, VC.eff, VC.callee, VC.pureB, VC.rdK, VC.rdKs, VC.okKs, VC.eqKs, VC.fillL, VC.putL, VC.stW, VC.stOK, VC.mixF, VC.setAll, Nat.reduceAdd, Nat.reduceSub, Nat.reduceMul, if_true, if_false, ↓reduceIte, forall_const, implies_true, reduceCtorEq, ne_eq, Nat.reduceBNe, Nat.reduceBEq, IntKind.signed, Nat.reduceEqDiff, Nat.reduceLeDiff, Nat.reduceLT, eq_self, Int.reduceEq, Int.reduceLT, Int.reduceLE, Int.reduceAdd, Int.reduceSub, VC.regC_nil, VC.regC_cons, VC.regCK_eq, VC.callQ, VC.tailQ, VC.goCall, VC.chStep]
      refine ⟨ag6, fits_i64_nat (by have := hok.gc ((i : Int), c.round); omega), OPW_estV (x := ((i : Int), c.round)) hM6 hS6 rfl (by kernel_rfl) rfl rfl rfl hkey (by unfold maxLen; split <;> omega) fun w7 hM7 ht7 => ?_⟩
      rotate_left
      all_goals
        rw [updV_updV] at hM7
        have st7 := mo_gave (h4.drewN 1) hM7 (ht6.trans ht7)
        simp -dsimp only [VC.heldF_done, VC.heldF_last, VC.planF_done, VC.planF_take, VC.planF_one, VC.planF_two, VC.planK_eq, VC.heldF_take, VC.heldF_one, VC.heldF_two, VC.heldF_twoL, VC.heldK_eq, VC.okRd, Fa.F70, VC.Now, VC.vc, VC.lib, VC.regQ, VC.loopK, VC.reg, VC.opP, VC.pv, VC.thenF, VC.blkF, VC.retF, VC.resV, VC.oneV, VC.evo, VC.bin, VC.binI, VC.cmpI, VC.arithI, VC.ldv, VC.slv, VC.pickP, VC.holds, VC.chainOf, VC.look, VC.junk, VC.put, VC.eff, VC.callee, VC.pureB, VC.rdK, VC.rdKs, VC.okKs, VC.eqKs, VC.fillL, VC.putL, VC.stW, VC.stOK, VC.mixF, VC.setAll, Nat.reduceAdd, Nat.reduceSub, Nat.reduceMul, if_true, if_false, ↓reduceIte, forall_const, implies_true, reduceCtorEq, ne_eq, Nat.reduceBNe, Nat.reduceBEq, IntKind.signed, Nat.reduceEqDiff, Nat.reduceLeDiff, Nat.reduceLT, eq_self, Int.reduceEq, Int.reduceLT, Int.reduceLE, Int.reduceAdd, Int.reduceSub, VC.regC_nil, VC.regC_cons, VC.regCK_eq, VC.callQ, VC.tailQ, VC.goCall, VC.chStep]
        have st0 := ((h.below_st (hB03.trans (hB4.mono (by exact hB03.size)))).drewN 1).trans st7
        have ag7 := (ag0.trans (mapTurned_agree (X := fun j => j = a.bg) ht6 rfl)).trans (mapTurned_agree (X := fun j => j = a.bg) ht7 rfl)
        have hkb7 : Box w7 kb [.int .i64 i, .int .i64 c.round] := hk4.agree ag7 (by omega)
        have hsb7 : Box w7 sb (sayL c) := (hs3.below (hkb ▸ hB4)).agree ag7 (by omega)
        have hgb7 : Box w7 gb [.int .i64 c.round, .int .i64 i, .int .i64 c.high] := (hg3.below (hkb ▸ hB4)).agree ag7 (by omega)
        clear hM7 hM6 hS6 ht6 ht7
        have h7 := st7.hp
        clear d7 k0 k1 h4 hk4
        have d7 := (mo_box h7).at (i := 7) rfl
        have d5 := (mo_box h7).at (i := 5) rfl
        have k0 := hkb7.at (i := 0) rfl
        have k1 := hkb7.at (i := 1) rfl
        have z1 := hsb7.at (i := 1) rfl
        rw [hw] at z1
        have ag8 : Agree (fun _ => False) w7 (w7.drewN 1) := Agree.of_below (below_drewN (Below.refl _ w7) 1)
        have hgc := hok.gc ((i : Int), c.round)
        refine WP_held 99 (fun _ => False) (.take 0 (.take 1 (.take 2 (.take 3 (.take 4 (.one 5 (.take 6 .done))))))) Fa.mix (by kernel_rfl) rfl ?_
        simp -dsimp only [VC.heldF_done, VC.heldF_last, VC.planF_done, VC.planF_take, VC.planF_one, VC.planF_two, VC.planK_eq, VC.heldF_take, VC.heldF_one, VC.heldF_two, VC.heldF_twoL, VC.heldK_eq, VC.okRd, Fa.F70, rdM_of d7, d7, rdI_of k0, k0, rdI_of k1, k1, VC.Now, VC.vc, VC.lib, VC.regQ, VC.loopK, VC.reg, VC.opP, VC.pv, VC.thenF, VC.blkF, VC.retF, VC.resV, VC.oneV, VC.evo, VC.bin, VC.binI, VC.cmpI, VC.arithI, VC.ldv, VC.slv, VC.pickP, VC.holds, VC.chainOf, VC.look, VC.junk, VC.put, VC.eff, VC.callee, VC.pureB, VC.rdK, VC.rdKs, VC.okKs, VC.eqKs, VC.fillL, VC.putL, VC.stW, VC.stOK, VC.mixF, VC.setAll, Nat.reduceAdd, Nat.reduceSub, Nat.reduceMul, if_true, if_false, ↓reduceIte, forall_const, implies_true, reduceCtorEq, ne_eq, Nat.reduceBNe, Nat.reduceBEq, IntKind.signed, Nat.reduceEqDiff, Nat.reduceLeDiff, Nat.reduceLT, eq_self, Int.reduceEq, Int.reduceLT, Int.reduceLE, Int.reduceAdd, Int.reduceSub, VC.regC_nil, VC.regC_cons, VC.regCK_eq, VC.callQ, VC.tailQ, VC.goCall, VC.chStep]
        refine ⟨(mo_box h7).1, hkb7.1, OPW_lookV (x := ((i : Int), c.round)) (z := .int .i64 0) ((h7.drewN 1).get 5 rfl) rfl (by kernel_rfl) rfl rfl hkey (gaveM_val _ _) ?_⟩
        by_cases q3 : 0 < s.gc ((i : Int), c.round)
        · have e3 : ((1 : Int) < ((s.gc ((i : Int), c.round) + 1 : Nat) : Int)) = True := eq_true (by omega)
          simp -dsimp only [VC.heldF_done, VC.heldF_last, VC.planF_done, VC.planF_take, VC.planF_one, VC.planF_two, VC.planK_eq, VC.heldF_take, VC.heldF_one, VC.heldF_two, VC.heldF_twoL, VC.heldK_eq, VC.okRd, Fa.F70, e3, if_pos, VC.Now, VC.vc, VC.lib, VC.regQ, VC.loopK, VC.reg, VC.opP, VC.pv, VC.thenF, VC.blkF, VC.retF, VC.resV, VC.oneV, VC.evo, VC.bin, VC.binI, VC.cmpI, VC.arithI, VC.ldv, VC.slv, VC.pickP, VC.holds, VC.chainOf, VC.look, VC.junk, VC.put, VC.eff, VC.callee, VC.pureB, VC.rdK, VC.rdKs, VC.okKs, VC.eqKs, VC.fillL, VC.putL, VC.stW, VC.stOK, VC.mixF, VC.setAll, Nat.reduceAdd, Nat.reduceSub, Nat.reduceMul, if_true, if_false, ↓reduceIte, forall_const, implies_true, reduceCtorEq, ne_eq, Nat.reduceBNe, Nat.reduceBEq, IntKind.signed, Nat.reduceEqDiff, Nat.reduceLeDiff, Nat.reduceLT, eq_self, Int.reduceEq, Int.reduceLT, Int.reduceLE, Int.reduceAdd, Int.reduceSub, VC.regC_nil, VC.regC_cons, VC.regCK_eq, VC.callQ, VC.tailQ, VC.goCall, VC.chStep]
          have hr : mlate need liars i c s = (6, { s with gc := fun k => if k = ((i : Int), c.round) then s.gc k + 1 else s.gc k }) := by
            unfold mlate; rw [if_neg q0, if_neg (by simp [hli]), hw, if_pos q3]
          rw [hr]
          exact ⟨ag8, rfl, a.vb, a.vv, a.nl, _, by omega, by split <;> omega, st0.drewN 1⟩
        have e3 : ((1 : Int) < ((s.gc ((i : Int), c.round) + 1 : Nat) : Int)) = False := eq_false (by omega)
        obtain ⟨m0, m1, fr0, fr1⟩ := mo_mem h7 hi
        have z3 := hsb7.at (i := 3) rfl
        simp -dsimp only [VC.heldF_done, VC.heldF_last, VC.planF_done, VC.planF_take, VC.planF_one, VC.planF_two, VC.planK_eq, VC.heldF_take, VC.heldF_one, VC.heldF_two, VC.heldF_twoL, VC.heldK_eq, VC.okRd, Fa.F70, e3, rdSA_of d5, rdSN_of d5, rdSC_of d5, d5, rdI_of z1, z1, VC.Now, VC.vc, VC.lib, VC.regQ, VC.loopK, VC.reg, VC.opP, VC.pv, VC.thenF, VC.blkF, VC.retF, VC.resV, VC.oneV, VC.evo, VC.bin, VC.binI, VC.cmpI, VC.arithI, VC.ldv, VC.slv, VC.pickP, VC.holds, VC.chainOf, VC.look, VC.junk, VC.put, VC.eff, VC.callee, VC.pureB, VC.rdK, VC.rdKs, VC.okKs, VC.eqKs, VC.fillL, VC.putL, VC.stW, VC.stOK, VC.mixF, VC.setAll, Nat.reduceAdd, Nat.reduceSub, Nat.reduceMul, if_true, if_false, ↓reduceIte, forall_const, implies_true, reduceCtorEq, ne_eq, Nat.reduceBNe, Nat.reduceBEq, IntKind.signed, Nat.reduceEqDiff, Nat.reduceLeDiff, Nat.reduceLT, eq_self, Int.reduceEq, Int.reduceLT, Int.reduceLE, Int.reduceAdd, Int.reduceSub, VC.regC_nil, VC.regC_cons, VC.regCK_eq, VC.callQ, VC.tailQ, VC.goCall, VC.chStep]
        refine ⟨ag8, ⟨by omega, by omega⟩, fun mm => ?_⟩
        have st8 := st0.drewN (1 + mm)
        have h8 := st8.hp
        have hsz8 : (w7.drewN (1 + mm)).heap.size = w7.heap.size := rfl
        refine WP_held 10 (fun _ => False) (.take 0 (.take 1 (.take 2 (.take 3 (.take 4 (.take 5 (.take 6 (.one 7 (.one 8 (.take 9 (.one 10 .done))))))))))) Fa.mix (by kernel_rfl) rfl ?_
        have st9 := mo_setVd (h8.drewN 1) hi (maxI (s.vd i) c.round)
        rw [World.drewN_drewN] at st9
        have h9 := st9.hp
        have k9 : ((w7.drewN (1 + mm + 1)).setCell ⟨a.gm, i * 2, none⟩ (.int .i64 (if s.vd i < c.round then c.round else s.vd i))).cell? ⟨a.gm, i * 2 + 1, none⟩ = some (.int .i64 (s.kn i)) := (mo_mem h9 hi).2.1
        have hgb9 : Box ((w7.drewN (1 + mm + 1)).setCell ⟨a.gm, i * 2, none⟩ (.int .i64 (if s.vd i < c.round then c.round else s.vd i))) gb [.int .i64 c.round, .int .i64 i, .int .i64 c.high] := (hgb7.below (below_drewN (Below.refl _ _) (1 + mm + 1))).far (a := ⟨a.gm, i * 2, none⟩) (by show a.gm ≠ gb; omega) _
        have k92 := hgb9.at (i := 2) rfl
        have f92 := hgb9.soft (i := 2) (by show 2 < 3; omega)
        simp -dsimp only [VC.heldF_done, VC.heldF_last, VC.planF_done, VC.planF_take, VC.planF_one, VC.planF_two, VC.planK_eq, VC.heldF_take, VC.heldF_one, VC.heldF_two, VC.heldF_twoL, VC.heldK_eq, VC.okRd, Fa.F70, rdI_of m0, m0, rdI_of z3, z3, fr0, rdI_of k9, k9, k92, f92, VC.Now, VC.vc, VC.lib, VC.regQ, VC.loopK, VC.reg, VC.opP, VC.pv, VC.thenF, VC.blkF, VC.retF, VC.resV, VC.oneV, VC.evo, VC.bin, VC.binI, VC.cmpI, VC.arithI, VC.ldv, VC.slv, VC.pickP, VC.holds, VC.chainOf, VC.look, VC.junk, VC.put, VC.eff, VC.callee, VC.pureB, VC.rdK, VC.rdKs, VC.okKs, VC.eqKs, VC.fillL, VC.putL, VC.stW, VC.stOK, VC.mixF, VC.setAll, Nat.reduceAdd, Nat.reduceSub, Nat.reduceMul, if_true, if_false, ↓reduceIte, forall_const, implies_true, reduceCtorEq, ne_eq, Nat.reduceBNe, Nat.reduceBEq, IntKind.signed, Nat.reduceEqDiff, Nat.reduceLeDiff, Nat.reduceLT, eq_self, Int.reduceEq, Int.reduceLT, Int.reduceLE, Int.reduceAdd, Int.reduceSub, VC.regC_nil, VC.regC_cons, VC.regCK_eq, VC.callQ, VC.tailQ, VC.goCall, VC.chStep]
        refine ⟨(h7.get 3 rfl : Recs w7 a.gm n 2 _).1, hsb7.1, ?_, ?_, ?_⟩
        · exact Agree.of_below (below_drewN (Below.refl _ (w7.drewN (1 + mm))) 1)
        · exact Agree.of_below (below_drewN (Below.refl _ (w7.drewN (1 + mm))) 1)
        have st9' := ((st8.drewN 1).trans (by rw [World.drewN_drewN]; exact st9))
        have hgw : w.heap.size ≤ gb := by omega
        have st10 := st9'.far (a := ⟨gb, 2, none⟩) hgw (fun hf => by have := (h.foot_lt (foot_congr (L' := MObs n need liars a s) (by rfl) hf)).2; show False; have h9 : gb < w.heap.size := this; omega) (.int .i64 (s.kn i))
        have hgb10 := hgb9.set 2 (.int .i64 (s.kn i))
        change Box (((w7.drewN (1 + mm + 1)).setCell ⟨a.gm, i * 2, none⟩ (.int .i64 (if s.vd i < c.round then c.round else s.vd i))).setCell ⟨gb, 2, none⟩ (.int .i64 (s.kn i))) gb [.int .i64 c.round, .int .i64 i, .int .i64 (s.kn i)] at hgb10
        change St _ _ _ _ (((w7.drewN (1 + mm + 1)).setCell ⟨a.gm, i * 2, none⟩ (.int .i64 (if s.vd i < c.round then c.round else s.vd i))).setCell ⟨gb, 2, none⟩ (.int .i64 (s.kn i))) at st10
        generalize ((w7.drewN (1 + mm + 1)).setCell ⟨a.gm, i * 2, none⟩ (.int .i64 (if s.vd i < c.round then c.round else s.vd i))).setCell ⟨gb, 2, none⟩ (.int .i64 (s.kn i)) = wA at hgb10 st10 ⊢
        have hA := st10.hp
        have e6 := (mo_box hA).at (i := 6) rfl
        have g0 := hgb10.at (i := 0) rfl
        have g1 := hgb10.at (i := 1) rfl
        have g2 := hgb10.at (i := 2) rfl
        have kf := hok.kn i
        refine WP_held 5 (fun _ => False) (.take 0 (.take 1 (.take 2 (.take 3 (.take 4 (.one 5 .done)))))) Fa.mix (by kernel_rfl) rfl ?_
        simp -dsimp only [VC.heldF_done, VC.heldF_last, VC.planF_done, VC.planF_take, VC.planF_one, VC.planF_two, VC.planK_eq, VC.heldF_take, VC.heldF_one, VC.heldF_two, VC.heldF_twoL, VC.heldK_eq, VC.okRd, Fa.F70, rdM_of e6, e6, rdI_of g0, g0, rdI_of g1, g1, rdI_of g2, g2, VC.Now, VC.vc, VC.lib, VC.regQ, VC.loopK, VC.reg, VC.opP, VC.pv, VC.thenF, VC.blkF, VC.retF, VC.resV, VC.oneV, VC.evo, VC.bin, VC.binI, VC.cmpI, VC.arithI, VC.ldv, VC.slv, VC.pickP, VC.holds, VC.chainOf, VC.look, VC.junk, VC.put, VC.eff, VC.callee, VC.pureB, VC.rdK, VC.rdKs, VC.okKs, VC.eqKs, VC.fillL, VC.putL, VC.stW, VC.stOK, VC.mixF, VC.setAll, Nat.reduceAdd, Nat.reduceSub, Nat.reduceMul, if_true, if_false, ↓reduceIte, forall_const, implies_true, reduceCtorEq, ne_eq, Nat.reduceBNe, Nat.reduceBEq, IntKind.signed, Nat.reduceEqDiff, Nat.reduceLeDiff, Nat.reduceLT, eq_self, Int.reduceEq, Int.reduceLT, Int.reduceLE, Int.reduceAdd, Int.reduceSub, VC.regC_nil, VC.regC_cons, VC.regCK_eq, VC.callQ, VC.tailQ, VC.goCall, VC.chStep]
        refine ⟨(mo_box hA).1, hgb10.1, OPW_updV (x := (c.round, (i : Int), s.kn i)) ((hA.drewN 1).get 4 rfl) rfl (by kernel_rfl) rfl rfl rfl (EG_ok f3 (hw ▸ f1) (fits_i64 (by omega) (by omega))) (by show a.nl < maxLen; unfold maxLen; omega) fun wB hMB htB => ?_⟩
        obtain ⟨nl, hnl2, stB⟩ := mo_late (hA.drewN 1) hMB htB
        simp -dsimp only [VC.heldF_done, VC.heldF_last, VC.planF_done, VC.planF_take, VC.planF_one, VC.planF_two, VC.planK_eq, VC.heldF_take, VC.heldF_one, VC.heldF_two, VC.heldF_twoL, VC.heldK_eq, VC.okRd, Fa.F70, VC.Now, VC.vc, VC.lib, VC.regQ, VC.loopK, VC.reg, VC.opP, VC.pv, VC.thenF, VC.blkF, VC.retF, VC.resV, VC.oneV, VC.evo, VC.bin, VC.binI, VC.cmpI, VC.arithI, VC.ldv, VC.slv, VC.pickP, VC.holds, VC.chainOf, VC.look, VC.junk, VC.put, VC.eff, VC.callee, VC.pureB, VC.rdK, VC.rdKs, VC.okKs, VC.eqKs, VC.fillL, VC.putL, VC.stW, VC.stOK, VC.mixF, VC.setAll, Nat.reduceAdd, Nat.reduceSub, Nat.reduceMul, if_true, if_false, ↓reduceIte, forall_const, implies_true, reduceCtorEq, ne_eq, Nat.reduceBNe, Nat.reduceBEq, IntKind.signed, Nat.reduceEqDiff, Nat.reduceLeDiff, Nat.reduceLT, eq_self, Int.reduceEq, Int.reduceLT, Int.reduceLE, Int.reduceAdd, Int.reduceSub, VC.regC_nil, VC.regC_cons, VC.regCK_eq, VC.callQ, VC.tailQ, VC.goCall, VC.chStep]
        have hr : mlate need liars i c s = (0, { s with gc := (fun k => if k = ((i : Int), c.round) then s.gc k + 1 else s.gc k), vd := upd s.vd i (maxI (s.vd i) c.round), lt := fun x => s.lt x ∨ x = (c.round, (i : Int), s.kn i) }) := by
          unfold mlate; rw [if_neg q0, if_neg (by simp [hli]), hw, if_neg q3]
        rw [hr]
        exact ⟨rfl, a.vb, a.vv, nl, (if (gaveM s ((i : Int), c.round)).isSome = true then a.ng else a.ng + 1), hnl2, by split <;> omega, (st10.drewN 1).trans stB⟩
    · simp -dsimp only [Fa.F70, rdSA_of b3, rdSN_of b3, rdSC_of b3, b3, rdI_of z1, z1, rdI_of z3, z3, rdI_of z4, z4, hl3, hlg, VC.Now, VC.vc, VC.lib, VC.regQ, VC.loopK, VC.reg, VC.opP, VC.pv, VC.thenF, VC.blkF, VC.retF, VC.resV, VC.oneV, VC.evo, VC.bin, VC.binI, VC.cmpI, VC.arithI, VC.ldv, VC.slv, VC.pickP, VC.holds, VC.chainOf, VC.look, VC.junk, VC.put, VC.eff, VC.callee, VC.pureB, VC.rdK, VC.rdKs, VC.okKs, VC.eqKs, VC.fillL, VC.putL, VC.stW, VC.stOK, VC.mixF, VC.setAll, Nat.reduceAdd, Nat.reduceSub, Nat.reduceMul, if_true, if_false, ↓reduceIte, forall_const, implies_true, reduceCtorEq, ne_eq, Nat.reduceBNe, Nat.reduceBEq, IntKind.signed, Nat.reduceEqDiff, Nat.reduceLeDiff, Nat.reduceLT, eq_self, Int.reduceEq, Int.reduceLT, Int.reduceLE, Int.reduceAdd, Int.reduceSub, VC.regC_nil, VC.regC_cons, VC.regCK_eq, VC.callQ, VC.tailQ, VC.goCall, VC.chStep]
      refine loop_slots Fa.mix [34] [4, 6, 7, 35, 36, 37, 38, 39, 40, 41, 42, 43, 44, 45, 46, 47, 48, 49, 50, 51, 52, 53, 54] (fun m vs wr => ∃ k : Nat, k + m = s.nb ∧ vs = [.int .i64 k] ∧ Below w3.heap.size w3 wr ∧ ∀ b, b < k → ¬ (s.r b = c.high ∧ certB need s b = true)) s.nb (by kernel_rfl) rfl
        ⟨0, by omega, rfl, Below.refl _ _, fun b hb => by omega⟩ ?_
      rintro m vs u wr ⟨k, hkm, rfl, hBr, hno⟩
      have h4 := h3.below hBr
      have hs4 := hs3.below hBr
      have y4 := hs4.at (i := 4) rfl
      have hl4 := hs4.1
      by_cases hk : k < s.nb
      · have e5 : ((k : Int) < s.nb) = True := eq_true (by omega)
        obtain ⟨c0, c1⟩ := hblk k hk
        have c0 := (hBr.cell (p := ⟨g, k * 2, none⟩) hg).trans c0
        have c1 := (hBr.cell (p := ⟨g, k * 2 + 1, none⟩) hg).trans c1
        have next : ¬ (s.r k = c.high ∧ certB need s k = true) → ∀ b, b < k + 1 → ¬ (s.r b = c.high ∧ certB need s b = true) := fun hn b hb hbc => by
          by_cases hbk : b = k
          · subst hbk; exact hn hbc
          · exact hno b (by omega) hbc
        have hBa : Below w3.heap.size w3 (wr.alloc (.cells #[.int .i64 (s.p k), .int .i64 (s.r k)] 116)) := below_box hBr _
        have hnb := hok.nb1
        by_cases q1 : s.r k = c.high
        · have e6 := eq_true q1
          simp -dsimp only [Fa.F70, e5, e6, rdSA_of b3, rdSN_of b3, rdSC_of b3, b3, rdI_of c0, c0, rdI_of c1, c1, rdI_of y4, y4, hl4, undef, tu, uf, ul, ur, VC.Now, VC.vc, VC.lib, VC.regQ, VC.loopK, VC.reg, VC.opP, VC.pv, VC.thenF, VC.blkF, VC.retF, VC.resV, VC.oneV, VC.evo, VC.bin, VC.binI, VC.cmpI, VC.arithI, VC.ldv, VC.slv, VC.pickP, VC.holds, VC.chainOf, VC.look, VC.junk, VC.put, VC.eff, VC.callee, VC.pureB, VC.rdK, VC.rdKs, VC.okKs, VC.eqKs, VC.fillL, VC.putL, VC.stW, VC.stOK, VC.mixF, VC.setAll, Nat.reduceAdd, Nat.reduceSub, Nat.reduceMul, if_true, if_false, ↓reduceIte, forall_const, implies_true, reduceCtorEq, ne_eq, Nat.reduceBNe, Nat.reduceBEq, IntKind.signed, Nat.reduceEqDiff, Nat.reduceLeDiff, Nat.reduceLT, eq_self, Int.reduceEq, Int.reduceLT, Int.reduceLE, Int.reduceAdd, Int.reduceSub, VC.regC_nil, VC.regC_cons, VC.regCK_eq, VC.callQ, VC.tailQ, VC.goCall, VC.chStep]
          refine ⟨by omega, ?_⟩
          generalize wr.alloc (.cells #[.int .i64 (s.p k), .int .i64 (s.r k)] 116) = wa at hBa ⊢
          refine CALL_of (certified_any (h3.below hBa) hok hn hnd hk) fun w5 hw5 => ?_
          have hB5 := hBa.trans (hw5.mono hBa.size)
          have h5 := h3.below hB5
          cases hce : certB need s k
          · simp -dsimp only [Fa.F70, e5, VC.Now, VC.vc, VC.lib, VC.regQ, VC.loopK, VC.reg, VC.opP, VC.pv, VC.thenF, VC.blkF, VC.retF, VC.resV, VC.oneV, VC.evo, VC.bin, VC.binI, VC.cmpI, VC.arithI, VC.ldv, VC.slv, VC.pickP, VC.holds, VC.chainOf, VC.look, VC.junk, VC.put, VC.eff, VC.callee, VC.pureB, VC.rdK, VC.rdKs, VC.okKs, VC.eqKs, VC.fillL, VC.putL, VC.stW, VC.stOK, VC.mixF, VC.setAll, Nat.reduceAdd, Nat.reduceSub, Nat.reduceMul, if_true, if_false, ↓reduceIte, forall_const, implies_true, reduceCtorEq, ne_eq, Nat.reduceBNe, Nat.reduceBEq, IntKind.signed, Nat.reduceEqDiff, Nat.reduceLeDiff, Nat.reduceLT, eq_self, Int.reduceEq, Int.reduceLT, Int.reduceLE, Int.reduceAdd, Int.reduceSub, VC.regC_nil, VC.regC_cons, VC.regCK_eq, VC.callQ, VC.tailQ, VC.goCall, VC.chStep]
            exact ⟨fits_i64_nat (by omega), SAME.intro (by kernel_rfl), m - 1, by omega, k + 1, by omega, rfl, hB5, next (by simp [hce])⟩
          have d6 := (mo_box h5).at (i := 6) rfl
          have hgb5 := hg3.below hB5
          have g0 := hgb5.at (i := 0) rfl
          have g1 := hgb5.at (i := 1) rfl
          have g2 := hgb5.at (i := 2) rfl
          have hlg5 := hgb5.1
          have hm5 := (mo_box h5).1
          simp -dsimp only [Fa.F70, e5, VC.Now, VC.vc, VC.lib, VC.regQ, VC.loopK, VC.reg, VC.opP, VC.pv, VC.thenF, VC.blkF, VC.retF, VC.resV, VC.oneV, VC.evo, VC.bin, VC.binI, VC.cmpI, VC.arithI, VC.ldv, VC.slv, VC.pickP, VC.holds, VC.chainOf, VC.look, VC.junk, VC.put, VC.eff, VC.callee, VC.pureB, VC.rdK, VC.rdKs, VC.okKs, VC.eqKs, VC.fillL, VC.putL, VC.stW, VC.stOK, VC.mixF, VC.setAll, Nat.reduceAdd, Nat.reduceSub, Nat.reduceMul, if_true, if_false, ↓reduceIte, forall_const, implies_true, reduceCtorEq, ne_eq, Nat.reduceBNe, Nat.reduceBEq, IntKind.signed, Nat.reduceEqDiff, Nat.reduceLeDiff, Nat.reduceLT, eq_self, Int.reduceEq, Int.reduceLT, Int.reduceLE, Int.reduceAdd, Int.reduceSub, VC.regC_nil, VC.regC_cons, VC.regCK_eq, VC.callQ, VC.tailQ, VC.goCall, VC.chStep]
          refine WP_held 5 (fun _ => False) (.take 0 (.take 1 (.take 2 (.take 3 (.take 4 (.one 5 .done)))))) Fa.mix (by kernel_rfl) rfl ?_
          simp -dsimp only [VC.heldF_done, VC.heldF_last, VC.planF_done, VC.planF_take, VC.planF_one, VC.planF_two, VC.planK_eq, VC.heldF_take, VC.heldF_one, VC.heldF_two, VC.heldF_twoL, VC.heldK_eq, VC.okRd, Fa.F70, rdM_of d6, d6, rdI_of g0, g0, rdI_of g1, g1, rdI_of g2, g2, hlg5, VC.Now, VC.vc, VC.lib, VC.regQ, VC.loopK, VC.reg, VC.opP, VC.pv, VC.thenF, VC.blkF, VC.retF, VC.resV, VC.oneV, VC.evo, VC.bin, VC.binI, VC.cmpI, VC.arithI, VC.ldv, VC.slv, VC.pickP, VC.holds, VC.chainOf, VC.look, VC.junk, VC.put, VC.eff, VC.callee, VC.pureB, VC.rdK, VC.rdKs, VC.okKs, VC.eqKs, VC.fillL, VC.putL, VC.stW, VC.stOK, VC.mixF, VC.setAll, Nat.reduceAdd, Nat.reduceSub, Nat.reduceMul, if_true, if_false, ↓reduceIte, forall_const, implies_true, reduceCtorEq, ne_eq, Nat.reduceBNe, Nat.reduceBEq, IntKind.signed, Nat.reduceEqDiff, Nat.reduceLeDiff, Nat.reduceLT, eq_self, Int.reduceEq, Int.reduceLT, Int.reduceLE, Int.reduceAdd, Int.reduceSub, VC.regC_nil, VC.regC_cons, VC.regCK_eq, VC.callQ, VC.tailQ, VC.goCall, VC.chStep]
          refine ⟨hm5, OPW_updV (x := (c.round, (i : Int), c.high)) ((h5.drewN 1).get 4 rfl) rfl (by kernel_rfl) rfl rfl rfl (EG_ok f3 (hw ▸ f1) f4) (by unfold maxLen; omega) fun w6 hM6 ht6 => ?_⟩
          obtain ⟨nl, hnl2, st6⟩ := mo_late (h5.drewN 1) hM6 ht6
          simp -dsimp only [VC.heldF_done, VC.heldF_last, VC.planF_done, VC.planF_take, VC.planF_one, VC.planF_two, VC.planK_eq, VC.heldF_take, VC.heldF_one, VC.heldF_two, VC.heldF_twoL, VC.heldK_eq, VC.okRd, Fa.F70, e5, VC.Now, VC.vc, VC.lib, VC.regQ, VC.loopK, VC.reg, VC.opP, VC.pv, VC.thenF, VC.blkF, VC.retF, VC.resV, VC.oneV, VC.evo, VC.bin, VC.binI, VC.cmpI, VC.arithI, VC.ldv, VC.slv, VC.pickP, VC.holds, VC.chainOf, VC.look, VC.junk, VC.put, VC.eff, VC.callee, VC.pureB, VC.rdK, VC.rdKs, VC.okKs, VC.eqKs, VC.fillL, VC.putL, VC.stW, VC.stOK, VC.mixF, VC.setAll, Nat.reduceAdd, Nat.reduceSub, Nat.reduceMul, if_true, if_false, ↓reduceIte, forall_const, implies_true, reduceCtorEq, ne_eq, Nat.reduceBNe, Nat.reduceBEq, IntKind.signed, Nat.reduceEqDiff, Nat.reduceLeDiff, Nat.reduceLT, eq_self, Int.reduceEq, Int.reduceLT, Int.reduceLE, Int.reduceAdd, Int.reduceSub, VC.regC_nil, VC.regC_cons, VC.regCK_eq, VC.callQ, VC.tailQ, VC.goCall, VC.chStep]
          have hr : mlate need liars i c s = (0, { s with lt := fun x => s.lt x ∨ x = (c.round, (i : Int), c.high) }) := by
            unfold mlate; rw [if_neg q0, if_pos hli, if_pos ⟨k, hk, q1, hce⟩, hw]
          rw [hr]
          exact ⟨rfl, a.vb, a.vv, nl, a.ng, hnl2, by omega, ((h.below_st (hB03.trans (hB5.mono hB03.size))).drewN 1).trans st6⟩
        · have e6 := eq_false q1
          simp -dsimp only [Fa.F70, e5, e6, rdSA_of b3, rdSN_of b3, rdSC_of b3, b3, rdI_of c0, c0, rdI_of c1, c1, rdI_of y4, y4, hl4, undef, tu, uf, ul, ur, VC.Now, VC.vc, VC.lib, VC.regQ, VC.loopK, VC.reg, VC.opP, VC.pv, VC.thenF, VC.blkF, VC.retF, VC.resV, VC.oneV, VC.evo, VC.bin, VC.binI, VC.cmpI, VC.arithI, VC.ldv, VC.slv, VC.pickP, VC.holds, VC.chainOf, VC.look, VC.junk, VC.put, VC.eff, VC.callee, VC.pureB, VC.rdK, VC.rdKs, VC.okKs, VC.eqKs, VC.fillL, VC.putL, VC.stW, VC.stOK, VC.mixF, VC.setAll, Nat.reduceAdd, Nat.reduceSub, Nat.reduceMul, if_true, if_false, ↓reduceIte, forall_const, implies_true, reduceCtorEq, ne_eq, Nat.reduceBNe, Nat.reduceBEq, IntKind.signed, Nat.reduceEqDiff, Nat.reduceLeDiff, Nat.reduceLT, eq_self, Int.reduceEq, Int.reduceLT, Int.reduceLE, Int.reduceAdd, Int.reduceSub, VC.regC_nil, VC.regC_cons, VC.regCK_eq, VC.callQ, VC.tailQ, VC.goCall, VC.chStep]
          exact ⟨by omega, fits_i64_nat (by omega), SAME.intro (by kernel_rfl), m - 1, by omega, k + 1, by omega, rfl, hBa, next (by simp [q1])⟩
      · obtain rfl : k = s.nb := by omega
        have e5 : ((s.nb : Int) < s.nb) = False := eq_false (by omega)
        simp -dsimp only [Fa.F70, e5, rdSA_of b3, rdSN_of b3, rdSC_of b3, b3, VC.Now, VC.vc, VC.lib, VC.regQ, VC.loopK, VC.reg, VC.opP, VC.pv, VC.thenF, VC.blkF, VC.retF, VC.resV, VC.oneV, VC.evo, VC.bin, VC.binI, VC.cmpI, VC.arithI, VC.ldv, VC.slv, VC.pickP, VC.holds, VC.chainOf, VC.look, VC.junk, VC.put, VC.eff, VC.callee, VC.pureB, VC.rdK, VC.rdKs, VC.okKs, VC.eqKs, VC.fillL, VC.putL, VC.stW, VC.stOK, VC.mixF, VC.setAll, Nat.reduceAdd, Nat.reduceSub, Nat.reduceMul, if_true, if_false, ↓reduceIte, forall_const, implies_true, reduceCtorEq, ne_eq, Nat.reduceBNe, Nat.reduceBEq, IntKind.signed, Nat.reduceEqDiff, Nat.reduceLeDiff, Nat.reduceLT, eq_self, Int.reduceEq, Int.reduceLT, Int.reduceLE, Int.reduceAdd, Int.reduceSub, VC.regC_nil, VC.regC_cons, VC.regCK_eq, VC.callQ, VC.tailQ, VC.goCall, VC.chStep]
        refine MPost.same h (hB03.trans (hBr.mono hB03.size)) ?_
        unfold mlate
        rw [if_neg q0, if_pos hli, if_neg]
        rintro ⟨b, hb, hbc⟩
        exact hno b hb hbc
end
end Go.Proofs.Ytnggjekppdlaoaa
