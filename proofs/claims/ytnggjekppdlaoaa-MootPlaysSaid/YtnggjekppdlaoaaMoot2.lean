/- An assembly in memory: a new block. -/
import Derived.Test.YtnggjekppdlaoaaMoot1
namespace Go.Proofs.Ytnggjekppdlaoaa
open Go Go.RowKit Go.VC
set_option linter.unusedSimpArgs false
set_option linter.unusedVariables false

abbrev sayL (c : Say) : List Value := [.int .i64 c.kind, .int .i64 c.who, .int .i64 c.block, .int .i64 c.round, .int .i64 c.high]
abbrev sayV (c : Say) : Value := .agg (sayL c).toArray
structure SayOK (c : Say) : Prop where
  who : fits .i64 c.who
  block : fits .i64 c.block
  round : fits .i64 c.round
  high : fits .i64 c.high
def MPost (B n need liars : Nat) (a : MA) (s : MS) (w : World) (r : Int × MS) (e : Ending) (w' : World) : Prop :=
  e = .returned (.int .i64 r.1) ∧ ∃ vb vv nl ng, nl ≤ a.nl + 1 ∧ ng ≤ a.ng + 1 ∧ St B (MObs n need liars a s) w (MObs n need liars ⟨a.mb, a.gm, a.bl, a.bg, nl, ng, vb, vv⟩ r.2) w'
section
variable {B n need liars t : Nat} {a : MA} {s : MS} {w : World}
theorem MPost.same (h : Hp B (MObs n need liars a s) w) {w' : World} (hB : Below w.heap.size w w') {x : Int} {r : Int × MS} (hr : r = (x, s)) : MPost B n need liars a s w r (.returned (.int .i64 x)) w' := by
  subst hr
  exact ⟨rfl, a.vb, a.vv, a.nl, a.ng, by omega, by omega, h.below_st hB⟩

set_option maxRecDepth 8000 in
set_option maxHeartbeats 4000000 in
theorem behind_any (h : Hp B (MObs n need liars a s) w) (hok : MOK n t s) (hn : n ≤ 32) (hnd : need ≤ 1000) {c : Say} (hc : SayOK c) :
    Calls Try.prog 68 #[.pointer (some ⟨a.mb, 0, none⟩), sayV c] w (MPost B n need liars a s w (mblock need c s)) := by
  obtain ⟨g, cb, e, hg, hblk⟩ := mo_blk h hok.nb0
  have b3 := (mo_box h).at (i := 3) rfl
  have b4 := (mo_box h).at (i := 4) rfl
  rw [e] at b3
  have hmb := (mo_box h).1
  obtain ⟨f1, f2, f3, f4⟩ := hc
  have hB0 : Below w.heap.size w (w.alloc (.cells (sayL c).toArray 124)) := (Below.refl _ _).alloc (Nat.le_refl _) _
  have hH := h.below hB0
  by_cases q0 : isBlk s c.block
  · obtain ⟨b0, hb0, hbt⟩ : ∃ b0 : Nat, c.block = b0 ∧ b0 < s.nb := ⟨c.block.toNat, by have := q0.1; omega, by have := q0.2; have := q0.1; omega⟩
    have hbN : c.block.toNat = b0 := by omega
    have hc1 := (hblk _ hbt).2
    refine calls_vc (rs := [.tmp 4]) Fa.mix Try.func68 rfl Try.ntmps68 rfl (by kernel_rfl) (Nat.le_of_ble_eq_true rfl) ?_
    simp -dsimp only [Fa.F68, VC.Now, VC.vc, VC.lib, VC.regQ, VC.loopK, VC.reg, VC.opP, VC.pv, VC.thenF, VC.blkF, VC.retF, VC.resV, VC.oneV, VC.evo, VC.bin, VC.binI, VC.cmpI, VC.arithI, VC.ldv, VC.slv, VC.pickP, VC.holds, VC.chainOf, VC.look, VC.junk, VC.put, VC.eff, VC.callee, VC.pureB, VC.rdK, VC.rdKs, VC.okKs, VC.eqKs, VC.fillL, VC.putL, VC.stW, VC.stOK, VC.mixF, VC.setAll, Nat.reduceAdd, Nat.reduceSub, Nat.reduceMul, if_true, if_false, ↓reduceIte, forall_const, implies_true, reduceCtorEq, ne_eq, Nat.reduceBNe, Nat.reduceBEq, IntKind.signed, Nat.reduceEqDiff, Nat.reduceLeDiff, Nat.reduceLT, eq_self, Int.reduceEq, Int.reduceLT, Int.reduceLE, Int.reduceAdd, Int.reduceSub, VC.regC_nil, VC.regC_cons, VC.regCK_eq, VC.callQ, VC.tailQ, VC.goCall, VC.chStep]
    refine WP_calls Fa.mix (by kernel_rfl) (by kernel_rfl) rfl ?_
    simp -dsimp only [Fa.F68, rdSA_of b3, rdSN_of b3, rdSC_of b3, b3, hb0, rdI_of hc1, hc1, hmb, hg, VC.Now, VC.vc, VC.lib, VC.regQ, VC.loopK, VC.reg, VC.opP, VC.pv, VC.thenF, VC.blkF, VC.retF, VC.resV, VC.oneV, VC.evo, VC.bin, VC.binI, VC.cmpI, VC.arithI, VC.ldv, VC.slv, VC.pickP, VC.holds, VC.chainOf, VC.look, VC.junk, VC.put, VC.eff, VC.callee, VC.pureB, VC.rdK, VC.rdKs, VC.okKs, VC.eqKs, VC.fillL, VC.putL, VC.stW, VC.stOK, VC.mixF, VC.setAll, Nat.reduceAdd, Nat.reduceSub, Nat.reduceMul, if_true, if_false, ↓reduceIte, forall_const, implies_true, reduceCtorEq, ne_eq, Nat.reduceBNe, Nat.reduceBEq, IntKind.signed, Nat.reduceEqDiff, Nat.reduceLeDiff, Nat.reduceLT, eq_self, Int.reduceEq, Int.reduceLT, Int.reduceLE, Int.reduceAdd, Int.reduceSub, VC.regC_nil, VC.regC_cons, VC.regCK_eq, VC.callQ, VC.tailQ, VC.goCall, VC.chStep]
    refine CALLQ_of (v := .bool true) (fun _ wr hw => ?_) ?_
    · have := isblk_any (hH.below hw) hok (b0 : Int)
      rw [decide_eq_true (by omega), decide_eq_true (by omega)] at this
      exact this
    simp -dsimp only [Fa.F68, rdSA_of b3, rdSN_of b3, rdSC_of b3, b3, hb0, rdI_of hc1, hc1, hmb, hg, VC.Now, VC.vc, VC.lib, VC.regQ, VC.loopK, VC.reg, VC.opP, VC.pv, VC.thenF, VC.blkF, VC.retF, VC.resV, VC.oneV, VC.evo, VC.bin, VC.binI, VC.cmpI, VC.arithI, VC.ldv, VC.slv, VC.pickP, VC.holds, VC.chainOf, VC.look, VC.junk, VC.put, VC.eff, VC.callee, VC.pureB, VC.rdK, VC.rdKs, VC.okKs, VC.eqKs, VC.fillL, VC.putL, VC.stW, VC.stOK, VC.mixF, VC.setAll, Nat.reduceAdd, Nat.reduceSub, Nat.reduceMul, if_true, if_false, ↓reduceIte, forall_const, implies_true, reduceCtorEq, ne_eq, Nat.reduceBNe, Nat.reduceBEq, IntKind.signed, Nat.reduceEqDiff, Nat.reduceLeDiff, Nat.reduceLT, eq_self, Int.reduceEq, Int.reduceLT, Int.reduceLE, Int.reduceAdd, Int.reduceSub, VC.regC_nil, VC.regC_cons, VC.regCK_eq, VC.callQ, VC.tailQ, VC.goCall, VC.chStep]
    refine ⟨⟨by omega, by omega⟩, fun u w' hw => ?_⟩
    replace hw : Below (w.alloc (.cells (sayL c).toArray 124)).heap.size (w.alloc (.cells (sayL c).toArray 124)) w' := by simpa using hw
    have hB1 := hB0.trans (hw.mono hB0.size)
    have hs : Box w' w.heap.size (sayL c) := (Box.new w (sayL c) _).below hw
    refine ⟨fun hd => MPost.same h hB1 (by unfold mblock; rw [if_pos (by rw [hbN]; exact Or.inr hd)]), fun hd => ?_⟩
    have z2 := hs.at (i := 2) rfl
    have z3 := hs.at (i := 3) rfl
    rw [hb0] at z2
    have hH2 := hH.below hw
    simp -dsimp only [Fa.F68, rdI_of z2, z2, rdI_of z3, z3, VC.Now, VC.vc, VC.lib, VC.regQ, VC.loopK, VC.reg, VC.opP, VC.pv, VC.thenF, VC.blkF, VC.retF, VC.resV, VC.oneV, VC.evo, VC.bin, VC.binI, VC.cmpI, VC.arithI, VC.ldv, VC.slv, VC.pickP, VC.holds, VC.chainOf, VC.look, VC.junk, VC.put, VC.eff, VC.callee, VC.pureB, VC.rdK, VC.rdKs, VC.okKs, VC.eqKs, VC.fillL, VC.putL, VC.stW, VC.stOK, VC.mixF, VC.setAll, Nat.reduceAdd, Nat.reduceSub, Nat.reduceMul, if_true, if_false, ↓reduceIte, forall_const, implies_true, reduceCtorEq, ne_eq, Nat.reduceBNe, Nat.reduceBEq, IntKind.signed, Nat.reduceEqDiff, Nat.reduceLeDiff, Nat.reduceLT, eq_self, Int.reduceEq, Int.reduceLT, Int.reduceLE, Int.reduceAdd, Int.reduceSub, VC.regC_nil, VC.regC_cons, VC.regCK_eq, VC.callQ, VC.tailQ, VC.goCall, VC.chStep]
    refine CALL_of (certified_any hH2 hok hn hnd hbt) fun w3 hw3 => ?_
    have hH3 := hH2.below hw3
    have hB3 := hB1.trans (hw3.mono hB1.size)
    have hs3 := hs.below hw3
    have y3 := (mo_box hH3).at (i := 3) rfl
    have y4 := (mo_box hH3).at (i := 4) rfl
    rw [e] at y3
    have z2 := hs3.at (i := 2) rfl
    have z3 := hs3.at (i := 3) rfl
    rw [hb0] at z2
    cases hce : certB need s b0
    · have hr : mblock need c s = (6, s) := by unfold mblock; rw [if_neg (by rw [hbN, not_or, Classical.not_not]; exact ⟨q0, hd⟩), hbN, if_pos hce]
      simp -dsimp only [Fa.F68, rdSA_of y3, rdSN_of y3, rdSC_of y3, y3, rdI_of z2, z2, rdI_of z3, z3, VC.Now, VC.vc, VC.lib, VC.regQ, VC.loopK, VC.reg, VC.opP, VC.pv, VC.thenF, VC.blkF, VC.retF, VC.resV, VC.oneV, VC.evo, VC.bin, VC.binI, VC.cmpI, VC.arithI, VC.ldv, VC.slv, VC.pickP, VC.holds, VC.chainOf, VC.look, VC.junk, VC.put, VC.eff, VC.callee, VC.pureB, VC.rdK, VC.rdKs, VC.okKs, VC.eqKs, VC.fillL, VC.putL, VC.stW, VC.stOK, VC.mixF, VC.setAll, Nat.reduceAdd, Nat.reduceSub, Nat.reduceMul, if_true, if_false, ↓reduceIte, forall_const, implies_true, reduceCtorEq, ne_eq, Nat.reduceBNe, Nat.reduceBEq, IntKind.signed, Nat.reduceEqDiff, Nat.reduceLeDiff, Nat.reduceLT, eq_self, Int.reduceEq, Int.reduceLT, Int.reduceLE, Int.reduceAdd, Int.reduceSub, VC.regC_nil, VC.regC_cons, VC.regCK_eq, VC.callQ, VC.tailQ, VC.goCall, VC.chStep]
      exact MPost.same h hB3 hr
    simp -dsimp only [Fa.F68, rdSA_of y3, rdSN_of y3, rdSC_of y3, y3, rdI_of z2, z2, rdI_of z3, z3, VC.Now, VC.vc, VC.lib, VC.regQ, VC.loopK, VC.reg, VC.opP, VC.pv, VC.thenF, VC.blkF, VC.retF, VC.resV, VC.oneV, VC.evo, VC.bin, VC.binI, VC.cmpI, VC.arithI, VC.ldv, VC.slv, VC.pickP, VC.holds, VC.chainOf, VC.look, VC.junk, VC.put, VC.eff, VC.callee, VC.pureB, VC.rdK, VC.rdKs, VC.okKs, VC.eqKs, VC.fillL, VC.putL, VC.stW, VC.stOK, VC.mixF, VC.setAll, Nat.reduceAdd, Nat.reduceSub, Nat.reduceMul, if_true, if_false, ↓reduceIte, forall_const, implies_true, reduceCtorEq, ne_eq, Nat.reduceBNe, Nat.reduceBEq, IntKind.signed, Nat.reduceEqDiff, Nat.reduceLeDiff, Nat.reduceLT, eq_self, Int.reduceEq, Int.reduceLT, Int.reduceLE, Int.reduceAdd, Int.reduceSub, VC.regC_nil, VC.regC_cons, VC.regCK_eq, VC.callQ, VC.tailQ, VC.goCall, VC.chStep]
    have hcond : ¬ (¬ isBlk s c.block ∨ c.round ≤ s.r c.block.toNat ∨ 1000 < c.round) := by rw [hbN, not_or, Classical.not_not]; exact ⟨q0, hd⟩
    refine ⟨fun h40 => MPost.same h hB3 (by unfold mblock; rw [if_neg hcond, hbN, if_neg (by simp [hce]), if_pos (by omega)]), fun h40 => ?_⟩
    refine WP_held 14 (fun j => j = g) (.take 0 (.take 1 (.take 2 (.take 3 (.take 4 (.take 5 (.take 6 (.take 7 (.take 8 (.take 9 (.one 10 (.one 11 (.one 12 (.take 13 (.one 14 .done))))))))))))))) Fa.mix (by kernel_rfl) rfl ?_
    simp -dsimp only [VC.heldF_done, VC.heldF_last, VC.planF_done, VC.planF_take, VC.planF_one, VC.planF_two, VC.planK_eq, VC.heldF_take, VC.heldF_one, VC.heldF_two, VC.heldF_twoL, VC.heldK_eq, VC.okRd, Fa.F68, rdSA_of y3, rdSN_of y3, rdSC_of y3, y3, rdI_of z2, z2, rdI_of z3, z3, VC.Now, VC.vc, VC.lib, VC.regQ, VC.loopK, VC.reg, VC.opP, VC.pv, VC.thenF, VC.blkF, VC.retF, VC.resV, VC.oneV, VC.evo, VC.bin, VC.binI, VC.cmpI, VC.arithI, VC.ldv, VC.slv, VC.pickP, VC.holds, VC.chainOf, VC.look, VC.junk, VC.put, VC.eff, VC.callee, VC.pureB, VC.rdK, VC.rdKs, VC.okKs, VC.eqKs, VC.fillL, VC.putL, VC.stW, VC.stOK, VC.mixF, VC.setAll, Nat.reduceAdd, Nat.reduceSub, Nat.reduceMul, if_true, if_false, ↓reduceIte, forall_const, implies_true, reduceCtorEq, ne_eq, Nat.reduceBNe, Nat.reduceBEq, IntKind.signed, Nat.reduceEqDiff, Nat.reduceLeDiff, Nat.reduceLT, eq_self, Int.reduceEq, Int.reduceLT, Int.reduceLE, Int.reduceAdd, Int.reduceSub, VC.regC_nil, VC.regC_cons, VC.regCK_eq, VC.callQ, VC.tailQ, VC.goCall, VC.chStep]
    have hng : a.mb ≠ g ∧ w.heap.size ≠ g := ⟨fun eq => hH3.ne 0 1 (by decide) rfl rfl a.mb rfl (by show a.vb.ownBlock = _; rw [e, eq]; rfl), by omega⟩
    have hl3 : w.heap.size < w3.heap.size := hs3.1
    have ag0 : Agree (fun j => j = g) w3 (w3.drewN 1) := Agree.of_below (below_drewN (Below.refl _ w3) 1)
    have hp4 := hH3.drewN 1
    have hnb := hok.nb1
    refine ⟨⟨(mo_box hH3).1, hng.1⟩, ⟨hl3, hng.2⟩, ⟨hl3, hng.2⟩, ag0.trans (Agree.of_below ((Below.refl _ _).alloc (Nat.le_refl _) _)), ?_⟩
    refine OPW_appK (v := a.vb) rfl Fa.apI45 e.symm rfl rfl (by simp [Value.oneCell']) (hp4.get 1 rfl) (Nat.zero_le _) (by omega) (by decide) fun v5 w5 ho5 hg5 hst5 => ?_
    have hbc : blkC s.p s.r s.nb ++ [Value.int .i64 (b0 : Int), .int .i64 c.round] = blkC (upd s.p s.nb c.block) (upd s.r s.nb c.round) (s.nb + 1) := by
      rw [blkC, upd_same, upd_same, hb0]
      congr 1
      exact blkC_congr fun i hi => ⟨(upd_other (by omega)).symm, (upd_other (by omega)).symm⟩
    rw [hbc] at ho5
    obtain ⟨⟨s1, s2⟩, st5⟩ := hp4.growField 0 1 rfl rfl (by decide) ho5 hg5 hst5 3 (by show 3 < 8; omega)
    have ag5 : Agree (fun j => j = g) w3 w5 := ag0.trans (Agree.grown hg5 fun k hk => by rw [e] at hk; cases hk; rfl)
    obtain ⟨A5, c5, rfl, _⟩ := id ho5
    obtain ⟨gv, cv, ev, hgv, _⟩ := mo_vot h hok.nb0
    have y4 := (st5.hp.get 0 rfl : Box _ a.mb _).at (i := 4) (v := a.vv) rfl
    rw [ev] at y4
    simp -dsimp only [VC.heldF_done, VC.heldF_last, VC.planF_done, VC.planF_take, VC.planF_one, VC.planF_two, VC.planK_eq, VC.heldF_take, VC.heldF_one, VC.heldF_two, VC.heldF_twoL, VC.heldK_eq, VC.okRd, Fa.F68, rdSA_of y3, rdSN_of y3, rdSC_of y3, y3, rdI_of z2, z2, rdI_of z3, z3, rdSA_of y4, rdSN_of y4, rdSC_of y4, y4, VC.Now, VC.vc, VC.lib, VC.regQ, VC.loopK, VC.reg, VC.opP, VC.pv, VC.thenF, VC.blkF, VC.retF, VC.resV, VC.oneV, VC.evo, VC.bin, VC.binI, VC.cmpI, VC.arithI, VC.ldv, VC.slv, VC.pickP, VC.holds, VC.chainOf, VC.look, VC.junk, VC.put, VC.eff, VC.callee, VC.pureB, VC.rdK, VC.rdKs, VC.okKs, VC.eqKs, VC.fillL, VC.putL, VC.stW, VC.stOK, VC.mixF, VC.setAll, Nat.reduceAdd, Nat.reduceSub, Nat.reduceMul, if_true, if_false, ↓reduceIte, forall_const, implies_true, reduceCtorEq, ne_eq, Nat.reduceBNe, Nat.reduceBEq, IntKind.signed, Nat.reduceEqDiff, Nat.reduceLeDiff, Nat.reduceLT, eq_self, Int.reduceEq, Int.reduceLT, Int.reduceLE, Int.reduceAdd, Int.reduceSub, VC.regC_nil, VC.regC_cons, VC.regCK_eq, VC.callQ, VC.tailQ, VC.goCall, VC.chStep]
    refine ⟨ag5, ag5, ⟨s1, s2⟩, ?_⟩
    refine OPW_appK (v := a.vv) rfl Fa.apI117 ev.symm rfl rfl (by simp [Value.oneCell']) (st5.hp.get 2 rfl) (Nat.zero_le _) (by omega) (by decide) fun v6 w6 ho6 hg6 hst6 => ?_
    have hvc : votC s ++ [Value.int .u32 0] = (List.range (s.nb + 1)).map fun b => Value.int .u32 ((upd s.vm s.nb 0 b : Nat) : Int) := by
      rw [List.range_succ, List.map_append, List.map_cons, List.map_nil, upd_same]
      congr 1
      exact List.map_congr_left fun b hb => by rw [upd_other (by have := List.mem_range.1 hb; omega)]
    rw [hvc] at ho6
    obtain ⟨⟨s3, s4⟩, st6⟩ := st5.hp.growField 0 2 rfl rfl (by decide) ho6 hg6 hst6 4 (by show 4 < 8; omega)
    obtain ⟨A6, c6, rfl, _⟩ := id ho6
    rw [VC.Now, VC.seqK_eq]
    simp -dsimp only [Fa.F68, rdSA_of y3, rdSN_of y3, rdSC_of y3, y3, rdI_of z2, z2, rdI_of z3, z3, rdSA_of y4, rdSN_of y4, rdSC_of y4, y4, VC.Now, VC.vc, VC.lib, VC.regQ, VC.loopK, VC.reg, VC.opP, VC.pv, VC.thenF, VC.blkF, VC.retF, VC.resV, VC.oneV, VC.evo, VC.bin, VC.binI, VC.cmpI, VC.arithI, VC.ldv, VC.slv, VC.pickP, VC.holds, VC.chainOf, VC.look, VC.junk, VC.put, VC.eff, VC.callee, VC.pureB, VC.rdK, VC.rdKs, VC.okKs, VC.eqKs, VC.fillL, VC.putL, VC.stW, VC.stOK, VC.mixF, VC.setAll, Nat.reduceAdd, Nat.reduceSub, Nat.reduceMul, if_true, if_false, ↓reduceIte, forall_const, implies_true, reduceCtorEq, ne_eq, Nat.reduceBNe, Nat.reduceBEq, IntKind.signed, Nat.reduceEqDiff, Nat.reduceLeDiff, Nat.reduceLT, eq_self, Int.reduceEq, Int.reduceLT, Int.reduceLE, Int.reduceAdd, Int.reduceSub, VC.regC_nil, VC.regC_cons, VC.regCK_eq, VC.callQ, VC.tailQ, VC.goCall, VC.chStep]
    have hr : mblock need c s = (0, { s with nb := s.nb + 1, p := upd s.p s.nb c.block, r := upd s.r s.nb c.round, vm := upd s.vm s.nb 0 }) := by
      unfold mblock; rw [if_neg hcond, hbN, if_neg (by simp [hce]), if_neg (by omega)]
    rw [hr]
    exact ⟨⟨s3, s4⟩, rfl, .slice A5 (s.nb + 1) c5, .slice A6 (s.nb + 1) c6, a.nl, a.ng, by omega, by omega, ((h.below_st hB3).drewN 1).trans (st5.trans st6)⟩
  · have hq : (decide (0 ≤ c.block) && decide (c.block < s.nb)) = false := by
      cases hh : (decide (0 ≤ c.block) && decide (c.block < s.nb)) with
      | false => rfl
      | true => rw [Bool.and_eq_true, decide_eq_true_eq, decide_eq_true_eq] at hh; exact absurd hh q0
    refine calls_vc (rs := [.tmp 4]) Fa.mix Try.func68 rfl Try.ntmps68 rfl (by kernel_rfl) (Nat.le_of_ble_eq_true rfl) ?_
    simp -dsimp only [Fa.F68, VC.Now, VC.vc, VC.lib, VC.regQ, VC.loopK, VC.reg, VC.opP, VC.pv, VC.thenF, VC.blkF, VC.retF, VC.resV, VC.oneV, VC.evo, VC.bin, VC.binI, VC.cmpI, VC.arithI, VC.ldv, VC.slv, VC.pickP, VC.holds, VC.chainOf, VC.look, VC.junk, VC.put, VC.eff, VC.callee, VC.pureB, VC.rdK, VC.rdKs, VC.okKs, VC.eqKs, VC.fillL, VC.putL, VC.stW, VC.stOK, VC.mixF, VC.setAll, Nat.reduceAdd, Nat.reduceSub, Nat.reduceMul, if_true, if_false, ↓reduceIte, forall_const, implies_true, reduceCtorEq, ne_eq, Nat.reduceBNe, Nat.reduceBEq, IntKind.signed, Nat.reduceEqDiff, Nat.reduceLeDiff, Nat.reduceLT, eq_self, Int.reduceEq, Int.reduceLT, Int.reduceLE, Int.reduceAdd, Int.reduceSub, VC.regC_nil, VC.regC_cons, VC.regCK_eq, VC.callQ, VC.tailQ, VC.goCall, VC.chStep]
    refine WP_calls Fa.mix (by kernel_rfl) (by kernel_rfl) rfl ?_
    simp -dsimp only [Fa.F68, rdSA_of b3, rdSN_of b3, rdSC_of b3, b3, hmb, hg, VC.Now, VC.vc, VC.lib, VC.regQ, VC.loopK, VC.reg, VC.opP, VC.pv, VC.thenF, VC.blkF, VC.retF, VC.resV, VC.oneV, VC.evo, VC.bin, VC.binI, VC.cmpI, VC.arithI, VC.ldv, VC.slv, VC.pickP, VC.holds, VC.chainOf, VC.look, VC.junk, VC.put, VC.eff, VC.callee, VC.pureB, VC.rdK, VC.rdKs, VC.okKs, VC.eqKs, VC.fillL, VC.putL, VC.stW, VC.stOK, VC.mixF, VC.setAll, Nat.reduceAdd, Nat.reduceSub, Nat.reduceMul, if_true, if_false, ↓reduceIte, forall_const, implies_true, reduceCtorEq, ne_eq, Nat.reduceBNe, Nat.reduceBEq, IntKind.signed, Nat.reduceEqDiff, Nat.reduceLeDiff, Nat.reduceLT, eq_self, Int.reduceEq, Int.reduceLT, Int.reduceLE, Int.reduceAdd, Int.reduceSub, VC.regC_nil, VC.regC_cons, VC.regCK_eq, VC.callQ, VC.tailQ, VC.goCall, VC.chStep]
    refine CALLQ_of (v := .bool false) (fun _ wr hw => ?_) ?_
    · have := isblk_any (hH.below hw) hok c.block
      rw [hq] at this
      exact this
    simp -dsimp only [Fa.F68, rdSA_of b3, rdSN_of b3, rdSC_of b3, b3, hmb, hg, VC.Now, VC.vc, VC.lib, VC.regQ, VC.loopK, VC.reg, VC.opP, VC.pv, VC.thenF, VC.blkF, VC.retF, VC.resV, VC.oneV, VC.evo, VC.bin, VC.binI, VC.cmpI, VC.arithI, VC.ldv, VC.slv, VC.pickP, VC.holds, VC.chainOf, VC.look, VC.junk, VC.put, VC.eff, VC.callee, VC.pureB, VC.rdK, VC.rdKs, VC.okKs, VC.eqKs, VC.fillL, VC.putL, VC.stW, VC.stOK, VC.mixF, VC.setAll, Nat.reduceAdd, Nat.reduceSub, Nat.reduceMul, if_true, if_false, ↓reduceIte, forall_const, implies_true, reduceCtorEq, ne_eq, Nat.reduceBNe, Nat.reduceBEq, IntKind.signed, Nat.reduceEqDiff, Nat.reduceLeDiff, Nat.reduceLT, eq_self, Int.reduceEq, Int.reduceLT, Int.reduceLE, Int.reduceAdd, Int.reduceSub, VC.regC_nil, VC.regC_cons, VC.regCK_eq, VC.callQ, VC.tailQ, VC.goCall, VC.chStep]
    intro w' hw
    replace hw : Below (w.alloc (.cells (sayL c).toArray 124)).heap.size (w.alloc (.cells (sayL c).toArray 124)) w' := by simpa using hw
    exact MPost.same h (hB0.trans (hw.mono hB0.size)) (by unfold mblock; rw [if_pos (Or.inl q0)])
end
end Go.Proofs.Ytnggjekppdlaoaa
