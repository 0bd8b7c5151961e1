/- When all rests: what a step does, by its kind. -/
import Derived.Test.YtelfmhiaafkimaaQuiet3
namespace Go.Proofs.Ytelfmhiaafkimaa
open Go Go.RowKit Go.VC
set_option linter.unusedSimpArgs false
set_option linter.unusedVariables false


set_option maxRecDepth 8000 in
set_option maxHeartbeats 8000000 in
theorem does_rest : doesBut.1 := by
  unfold doesBut
  refine ⟨?_, trivial⟩
  intro B n a s q w h hq A D hb hA hD hn hka hkc c x hx0 hxn hkl hkh hot w1 sb hsb e0 m Q hQ hb' tb w3 bh bt hlh hlt hB h3 x0
  have z0 := x0.at (i := 0) rfl
  have z2 := x0.at (i := 2) rfl
  have hxl := x0.1
  have bw : Box w3 a.wb (worldQ n a s.done) := h3.get 0 rfl
  have m1 := bw.at (i := 1) rfl
  have m2 := bw.at (i := 2) rfl
  have hwl := bw.1
  have hr : Recs w3 a.gv n 4 (fun i => prL (s.pr i)) := h3.get 1 rfl
  have hgl := hr.1
  have p0 := hr.at (i := x) (j := 0) hxn (by omega) rfl
  have p1 := hr.at (i := x) (j := 1) hxn (by omega) rfl
  have p2 := hr.at (i := x) (j := 2) hxn (by omega) rfl
  have p3 := hr.at (i := x) (j := 3) hxn (by omega) rfl
  have f0 := hr.soft (i := x) (j := 0) hxn (by omega)
  simp only [Nat.add_zero] at p0 f0
  by_cases k3 : c.kind = 3
  · have e1 : (c.kind = 1) = False := eq_false (by omega)
    have e3 := eq_true k3
    have k1 : ¬ c.kind = 1 := by omega
    cases hwo : (s.pr x).works with
    | false =>
      rw [hwo] at p0
      have hres : qdoes x c.other.toNat c.kind s = (6, s) := by unfold qdoes; rw [if_neg k1, if_pos k3, if_pos hwo]
      subst hQ
      simp -dsimp only [Fa.F89, rdI_of z0, z0, hxl, e1, e3, rdB_of p0, p0, hgl, undef, tu, uf, ul, ur, VC.Now, VC.vc, VC.lib, VC.mapN_drewN, VC.mapB_drewN, VC.regQ, VC.loopK, VC.reg, VC.opP, VC.opS, VC.opZ, VC.nomulB, VC.pv, VC.thenF, VC.blkF, VC.retF, VC.resV, VC.oneV, VC.evo, VC.bin, VC.binI, VC.cmpI, VC.arithI, VC.ldv, VC.slv, VC.pickP, VC.holds, VC.chainOf, VC.look, VC.junk, VC.put, VC.eff, VC.callee, VC.pureB, VC.rdK, VC.rdKs, VC.okKs, VC.eqKs, VC.fillL, VC.putL, VC.stW, VC.stOK, VC.mixF, VC.setAll, Nat.reduceAdd, Nat.reduceSub, Nat.reduceMul, if_true, if_false, ↓reduceIte, forall_const, implies_true, reduceCtorEq, ne_eq, Nat.reduceBNe, Nat.reduceBEq, IntKind.signed, Nat.reduceEqDiff, Nat.reduceLeDiff, Nat.reduceLT, eq_self, Int.reduceEq, Int.reduceLT, Int.reduceLE, Int.reduceAdd, Int.reduceSub, VC.regC_nil, VC.regC_cons, VC.regCK_eq, VC.callQ, VC.tailQ, VC.goCall, VC.chStep]
      rw [hres]
      exact QPost.same h hq hB rfl
    | true =>
      rw [hwo] at p0
      have hres : qdoes x c.other.toNat c.kind s = (0, { s with pr := upd s.pr x { s.pr x with works := false } }) := by unfold qdoes; rw [if_neg k1, if_pos k3, if_neg (by rw [hwo]; decide)]
      have kk : (w3.cell? ⟨a.gv, x * 4, none⟩).isSome = true := by rw [p0]; rfl
      have st1 := h3.setRec (en := prL) (P := s.pr) 1 rfl hxn (j := 0) (by omega) rfl (v := .bool false) (p := { s.pr x with works := false }) rfl
      simp only [Nat.add_zero] at st1
      subst hQ
      simp -dsimp only [Fa.F89, rdI_of z0, z0, hxl, e1, e3, rdB_of p0, p0, hgl, f0, kk, undef, tu, uf, ul, ur, VC.Now, VC.vc, VC.lib, VC.mapN_drewN, VC.mapB_drewN, VC.regQ, VC.loopK, VC.reg, VC.opP, VC.opS, VC.opZ, VC.nomulB, VC.pv, VC.thenF, VC.blkF, VC.retF, VC.resV, VC.oneV, VC.evo, VC.bin, VC.binI, VC.cmpI, VC.arithI, VC.ldv, VC.slv, VC.pickP, VC.holds, VC.chainOf, VC.look, VC.junk, VC.put, VC.eff, VC.callee, VC.pureB, VC.rdK, VC.rdKs, VC.okKs, VC.eqKs, VC.fillL, VC.putL, VC.stW, VC.stOK, VC.mixF, VC.setAll, Nat.reduceAdd, Nat.reduceSub, Nat.reduceMul, if_true, if_false, ↓reduceIte, forall_const, implies_true, reduceCtorEq, ne_eq, Nat.reduceBNe, Nat.reduceBEq, IntKind.signed, Nat.reduceEqDiff, Nat.reduceLeDiff, Nat.reduceLT, eq_self, Int.reduceEq, Int.reduceLT, Int.reduceLE, Int.reduceAdd, Int.reduceSub, VC.regC_nil, VC.regC_cons, VC.regCK_eq, VC.callQ, VC.tailQ, VC.goCall, VC.chStep]
      rw [hres]
      exact ⟨rfl, q, (h.below_st hB).trans st1, ⟨hq.ca, hq.an⟩, Nat.le_add_right _ _, Nat.le_add_right _ _⟩
  obtain ⟨y, hy, hyn⟩ := hot k3
  have hyN : c.other.toNat = y := by omega
  rw [hy] at z2 bh bt
  have e3 := eq_false k3
  have g0 := bh.at (i := 0) rfl
  have g1 := bh.at (i := 1) rfl
  have hhl := bh.1
  have t0 := bt.at (i := 0) rfl
  have t1 := bt.at (i := 1) rfl
  have htl := bt.1
  have hkey := EQ_ok (i := x) (j := y) (by omega) (by omega)
  have hkmc : q.kc < maxLen := by unfold maxLen; omega
  have hkma : q.ka < maxLen := by unfold maxLen; omega
  have hd1 : Below w3.heap.size w3 (w3.drewN 1) := below_drewN (Below.refl _ w3) 1
  by_cases k1 : c.kind = 1
  · have e1 := eq_true k1
    cases hwo : (s.pr x).works with
    | false =>
      rw [hwo] at p0
      have hres : qdoes x c.other.toNat c.kind s = (6, s) := by unfold qdoes; rw [hyN, if_pos k1, if_pos hwo]
      subst hQ
      simp -dsimp only [Fa.F89, rdI_of z0, z0, hxl, e1, e3, rdB_of p0, p0, hgl, undef, tu, uf, ul, ur, VC.Now, VC.vc, VC.lib, VC.mapN_drewN, VC.mapB_drewN, VC.regQ, VC.loopK, VC.reg, VC.opP, VC.opS, VC.opZ, VC.nomulB, VC.pv, VC.thenF, VC.blkF, VC.retF, VC.resV, VC.oneV, VC.evo, VC.bin, VC.binI, VC.cmpI, VC.arithI, VC.ldv, VC.slv, VC.pickP, VC.holds, VC.chainOf, VC.look, VC.junk, VC.put, VC.eff, VC.callee, VC.pureB, VC.rdK, VC.rdKs, VC.okKs, VC.eqKs, VC.fillL, VC.putL, VC.stW, VC.stOK, VC.mixF, VC.setAll, Nat.reduceAdd, Nat.reduceSub, Nat.reduceMul, if_true, if_false, ↓reduceIte, forall_const, implies_true, reduceCtorEq, ne_eq, Nat.reduceBNe, Nat.reduceBEq, IntKind.signed, Nat.reduceEqDiff, Nat.reduceLeDiff, Nat.reduceLT, eq_self, Int.reduceEq, Int.reduceLT, Int.reduceLE, Int.reduceAdd, Int.reduceSub, VC.regC_nil, VC.regC_cons, VC.regCK_eq, VC.callQ, VC.tailQ, VC.goCall, VC.chStep]
      rw [hres]
      exact QPost.same h hq hB rfl
    | true =>
      rw [hwo] at p0
      have hres : qdoes x c.other.toNat c.kind s = (0, { s with pr := upd s.pr x { s.pr x with owes := (s.pr x).owes + 1 }, ca := set2 s.ca x y (s.ca x y + 1) }) := by unfold qdoes; rw [hyN, if_pos k1, if_neg (by rw [hwo]; decide)]
      have hv := hq.ca.val x y hxn hyn
      have hbca := hb.ca x y
      have how := hb.ow x
      have hM1 : MapV Try.prog EQ (w3.drewN 1) a.mc q.kc q.Mc := (h3.drewN 1).get 2 rfl
      have n1 : a.wb ≠ a.mc := fun e => h3.ne 0 2 (by decide) rfl rfl a.wb rfl (by rw [e]; rfl)
      have n2 : tb ≠ a.mc := by have h9 := (h.lt 2 rfl (g := a.mc) rfl).2; omega
      have ag1 : Agree (fun l => l = a.mc) w3 (w3.drewN 1) := Agree.of_below hd1
      subst hQ
      simp -dsimp only [Fa.F89, rdI_of z0, z0, hxl, e1, e3, rdB_of p0, p0, hgl, undef, tu, uf, ul, ur, VC.Now, VC.vc, VC.lib, VC.mapN_drewN, VC.mapB_drewN, VC.regQ, VC.loopK, VC.reg, VC.opP, VC.opS, VC.opZ, VC.nomulB, VC.pv, VC.thenF, VC.blkF, VC.retF, VC.resV, VC.oneV, VC.evo, VC.bin, VC.binI, VC.cmpI, VC.arithI, VC.ldv, VC.slv, VC.pickP, VC.holds, VC.chainOf, VC.look, VC.junk, VC.put, VC.eff, VC.callee, VC.pureB, VC.rdK, VC.rdKs, VC.okKs, VC.eqKs, VC.fillL, VC.putL, VC.stW, VC.stOK, VC.mixF, VC.setAll, Nat.reduceAdd, Nat.reduceSub, Nat.reduceMul, if_true, if_false, ↓reduceIte, forall_const, implies_true, reduceCtorEq, ne_eq, Nat.reduceBNe, Nat.reduceBEq, IntKind.signed, Nat.reduceEqDiff, Nat.reduceLeDiff, Nat.reduceLT, eq_self, Int.reduceEq, Int.reduceLT, Int.reduceLE, Int.reduceAdd, Int.reduceSub, VC.regC_nil, VC.regC_cons, VC.regCK_eq, VC.callQ, VC.tailQ, VC.goCall, VC.chStep]
      refine WP_held 9 (fun l => l = a.mc) (.take 0 (.take 1 (.take 2 (.take 3 (.take 4 (.two 5 (.take 6 (.one 7 (.take 8 (.one 9 .done)))) 7 (.take 8 (.one 5 (.take 6 (.one 9 .done)))))))))) Fa.mix (by kernel_rfl) rfl ?_
      simp -dsimp only [VC.heldF_done, VC.heldF_last, VC.planF_done, VC.planF_take, VC.planF_one, VC.planF_two, VC.planK_eq, VC.heldF_take, VC.heldF_one, VC.heldF_two, VC.heldF_twoL, VC.heldK_eq, VC.okRd, Fa.F89, rdM_of m1, m1, rdI_of t0, t0, rdI_of t1, t1, hwl, htl, VC.Now, VC.vc, VC.lib, VC.mapN_drewN, VC.mapB_drewN, VC.regQ, VC.loopK, VC.reg, VC.opP, VC.opS, VC.opZ, VC.nomulB, VC.pv, VC.thenF, VC.blkF, VC.retF, VC.resV, VC.oneV, VC.evo, VC.bin, VC.binI, VC.cmpI, VC.arithI, VC.ldv, VC.slv, VC.pickP, VC.holds, VC.chainOf, VC.look, VC.junk, VC.put, VC.eff, VC.callee, VC.pureB, VC.rdK, VC.rdKs, VC.okKs, VC.eqKs, VC.fillL, VC.putL, VC.stW, VC.stOK, VC.mixF, VC.setAll, Nat.reduceAdd, Nat.reduceSub, Nat.reduceMul, if_true, if_false, ↓reduceIte, forall_const, implies_true, reduceCtorEq, ne_eq, Nat.reduceBNe, Nat.reduceBEq, IntKind.signed, Nat.reduceEqDiff, Nat.reduceLeDiff, Nat.reduceLT, eq_self, Int.reduceEq, Int.reduceLT, Int.reduceLE, Int.reduceAdd, Int.reduceSub, VC.regC_nil, VC.regC_cons, VC.regCK_eq, VC.callQ, VC.tailQ, VC.goCall, VC.chStep]
      (repeat refine ⟨by first | assumption | omega, ?_⟩)
      refine ⟨?_, ?_⟩
      ·
        refine OPW_lookV (x := ((x : Int), (y : Int))) (z := .int .i64 0) hM1 rfl (by kernel_rfl) rfl rfl hkey hv ?_
        simp -dsimp only [VC.heldF_done, VC.heldF_last, VC.planF_done, VC.planF_take, VC.planF_one, VC.planF_two, VC.planK_eq, VC.heldF_take, VC.heldF_one, VC.heldF_two, VC.heldF_twoL, VC.heldK_eq, VC.okRd, Fa.F89, hwl, VC.Now, VC.vc, VC.lib, VC.mapN_drewN, VC.mapB_drewN, VC.regQ, VC.loopK, VC.reg, VC.opP, VC.opS, VC.opZ, VC.nomulB, VC.pv, VC.thenF, VC.blkF, VC.retF, VC.resV, VC.oneV, VC.evo, VC.bin, VC.binI, VC.cmpI, VC.arithI, VC.ldv, VC.slv, VC.pickP, VC.holds, VC.chainOf, VC.look, VC.junk, VC.put, VC.eff, VC.callee, VC.pureB, VC.rdK, VC.rdKs, VC.okKs, VC.eqKs, VC.fillL, VC.putL, VC.stW, VC.stOK, VC.mixF, VC.setAll, Nat.reduceAdd, Nat.reduceSub, Nat.reduceMul, if_true, if_false, ↓reduceIte, forall_const, implies_true, reduceCtorEq, ne_eq, Nat.reduceBNe, Nat.reduceBEq, IntKind.signed, Nat.reduceEqDiff, Nat.reduceLeDiff, Nat.reduceLT, eq_self, Int.reduceEq, Int.reduceLT, Int.reduceLE, Int.reduceAdd, Int.reduceSub, VC.regC_nil, VC.regC_cons, VC.regCK_eq, VC.callQ, VC.tailQ, VC.goCall, VC.chStep]
        refine ⟨ag1, fits_i64 (by omega) (by omega), ?_⟩
        refine OPW_entV (x := ((x : Int), (y : Int))) (z := .int .i64 0) hM1 rfl (by kernel_rfl) rfl rfl hkey hkmc hv fun w6 sp hM6 hS6 ht6 => ?_
        have ag6 := (ag1).trans (mapTurned_agree (X := fun l => l = a.mc) ht6 rfl)
        simp -dsimp only [VC.heldF_done, VC.heldF_last, VC.planF_done, VC.planF_take, VC.planF_one, VC.planF_two, VC.planK_eq, VC.heldF_take, VC.heldF_one, VC.heldF_two, VC.heldF_twoL, VC.heldK_eq, VC.okRd, Fa.F89, hwl, VC.Now, VC.vc, VC.lib, VC.mapN_drewN, VC.mapB_drewN, VC.regQ, VC.loopK, VC.reg, VC.opP, VC.opS, VC.opZ, VC.nomulB, VC.pv, VC.thenF, VC.blkF, VC.retF, VC.resV, VC.oneV, VC.evo, VC.bin, VC.binI, VC.cmpI, VC.arithI, VC.ldv, VC.slv, VC.pickP, VC.holds, VC.chainOf, VC.look, VC.junk, VC.put, VC.eff, VC.callee, VC.pureB, VC.rdK, VC.rdKs, VC.okKs, VC.eqKs, VC.fillL, VC.putL, VC.stW, VC.stOK, VC.mixF, VC.setAll, Nat.reduceAdd, Nat.reduceSub, Nat.reduceMul, if_true, if_false, ↓reduceIte, forall_const, implies_true, reduceCtorEq, ne_eq, Nat.reduceBNe, Nat.reduceBEq, IntKind.signed, Nat.reduceEqDiff, Nat.reduceLeDiff, Nat.reduceLT, eq_self, Int.reduceEq, Int.reduceLT, Int.reduceLE, Int.reduceAdd, Int.reduceSub, VC.regC_nil, VC.regC_cons, VC.regCK_eq, VC.callQ, VC.tailQ, VC.goCall, VC.chStep]
        refine ⟨ag6, ?_⟩
        refine OPW_estV (x := ((x : Int), (y : Int))) hM6 hS6 rfl (by kernel_rfl) rfl rfl rfl hkey (by unfold maxLen; split <;> omega) fun w7 hM7 ht7 => ?_
        rw [updV_updV] at hM7
        have st7 := (h3.below_st hd1).trans ((h3.drewN 1).turned 2 rfl hM7 (ht6.trans ht7))
        have h7 := st7.hp
        have hr7 : Recs w7 a.gv n 4 (fun i => prL (s.pr i)) := h7.get 1 rfl
        have hg7 := hr7.1
        have r3 := hr7.at (i := x) (j := 3) hxn (by omega) rfl
        have f3 := hr7.soft (i := x) (j := 3) hxn (by omega)
        have kk : (w7.cell? ⟨a.gv, x * 4 + 3, none⟩).isSome = true := by rw [r3]; rfl
        have st8 := st7.trans (h7.setRec (en := prL) (P := s.pr) 1 rfl hxn (j := 3) (by omega) rfl (v := .int .i64 ((s.pr x).owes + 1)) (p := { s.pr x with owes := (s.pr x).owes + 1 }) rfl)
        simp -dsimp only [VC.heldF_done, VC.heldF_last, VC.planF_done, VC.planF_take, VC.planF_one, VC.planF_two, VC.planK_eq, VC.heldF_take, VC.heldF_one, VC.heldF_two, VC.heldF_twoL, VC.heldK_eq, VC.okRd, Fa.F89, rdI_of r3, r3, hg7, f3, kk, VC.Now, VC.vc, VC.lib, VC.mapN_drewN, VC.mapB_drewN, VC.regQ, VC.loopK, VC.reg, VC.opP, VC.opS, VC.opZ, VC.nomulB, VC.pv, VC.thenF, VC.blkF, VC.retF, VC.resV, VC.oneV, VC.evo, VC.bin, VC.binI, VC.cmpI, VC.arithI, VC.ldv, VC.slv, VC.pickP, VC.holds, VC.chainOf, VC.look, VC.junk, VC.put, VC.eff, VC.callee, VC.pureB, VC.rdK, VC.rdKs, VC.okKs, VC.eqKs, VC.fillL, VC.putL, VC.stW, VC.stOK, VC.mixF, VC.setAll, Nat.reduceAdd, Nat.reduceSub, Nat.reduceMul, if_true, if_false, ↓reduceIte, forall_const, implies_true, reduceCtorEq, ne_eq, Nat.reduceBNe, Nat.reduceBEq, IntKind.signed, Nat.reduceEqDiff, Nat.reduceLeDiff, Nat.reduceLT, eq_self, Int.reduceEq, Int.reduceLT, Int.reduceLE, Int.reduceAdd, Int.reduceSub, VC.regC_nil, VC.regC_cons, VC.regCK_eq, VC.callQ, VC.tailQ, VC.goCall, VC.chStep]
        refine ⟨fits_i64 (by omega) (by omega), ?_⟩
        rw [hres]
        refine ⟨rfl, { q with kc := if (q.Mc ((x : Int), (y : Int))).isSome = true then q.kc else q.kc + 1, Mc := updV q.Mc ((x : Int), (y : Int)) (.int .i64 ((s.ca x y + 1 : Nat) : Int)) }, (h.below_st hB).trans st8, ⟨hq.ca.upd hxn hyn, hq.an⟩, ?_, Nat.le_add_right _ _⟩
        show (if (q.Mc ((x : Int), (y : Int))).isSome = true then q.kc else q.kc + 1) ≤ _
        split <;> omega
      ·
        refine OPW_entV (x := ((x : Int), (y : Int))) (z := .int .i64 0) hM1 rfl (by kernel_rfl) rfl rfl hkey hkmc hv fun w6 sp hM6 hS6 ht6 => ?_
        have ag6 := (ag1).trans (mapTurned_agree (X := fun l => l = a.mc) ht6 rfl)
        simp -dsimp only [VC.heldF_done, VC.heldF_last, VC.planF_done, VC.planF_take, VC.planF_one, VC.planF_two, VC.planK_eq, VC.heldF_take, VC.heldF_one, VC.heldF_two, VC.heldF_twoL, VC.heldK_eq, VC.okRd, Fa.F89, hwl, VC.Now, VC.vc, VC.lib, VC.mapN_drewN, VC.mapB_drewN, VC.regQ, VC.loopK, VC.reg, VC.opP, VC.opS, VC.opZ, VC.nomulB, VC.pv, VC.thenF, VC.blkF, VC.retF, VC.resV, VC.oneV, VC.evo, VC.bin, VC.binI, VC.cmpI, VC.arithI, VC.ldv, VC.slv, VC.pickP, VC.holds, VC.chainOf, VC.look, VC.junk, VC.put, VC.eff, VC.callee, VC.pureB, VC.rdK, VC.rdKs, VC.okKs, VC.eqKs, VC.fillL, VC.putL, VC.stW, VC.stOK, VC.mixF, VC.setAll, Nat.reduceAdd, Nat.reduceSub, Nat.reduceMul, if_true, if_false, ↓reduceIte, forall_const, implies_true, reduceCtorEq, ne_eq, Nat.reduceBNe, Nat.reduceBEq, IntKind.signed, Nat.reduceEqDiff, Nat.reduceLeDiff, Nat.reduceLT, eq_self, Int.reduceEq, Int.reduceLT, Int.reduceLE, Int.reduceAdd, Int.reduceSub, VC.regC_nil, VC.regC_cons, VC.regCK_eq, VC.callQ, VC.tailQ, VC.goCall, VC.chStep]
        refine ⟨ag6, ?_⟩
        refine OPW_lookV (x := ((x : Int), (y : Int))) (z := .int .i64 0) hM6 rfl (by kernel_rfl) rfl rfl hkey (by rw [updV_same]) ?_
        simp -dsimp only [VC.heldF_done, VC.heldF_last, VC.planF_done, VC.planF_take, VC.planF_one, VC.planF_two, VC.planK_eq, VC.heldF_take, VC.heldF_one, VC.heldF_two, VC.heldF_twoL, VC.heldK_eq, VC.okRd, Fa.F89, hwl, VC.Now, VC.vc, VC.lib, VC.mapN_drewN, VC.mapB_drewN, VC.regQ, VC.loopK, VC.reg, VC.opP, VC.opS, VC.opZ, VC.nomulB, VC.pv, VC.thenF, VC.blkF, VC.retF, VC.resV, VC.oneV, VC.evo, VC.bin, VC.binI, VC.cmpI, VC.arithI, VC.ldv, VC.slv, VC.pickP, VC.holds, VC.chainOf, VC.look, VC.junk, VC.put, VC.eff, VC.callee, VC.pureB, VC.rdK, VC.rdKs, VC.okKs, VC.eqKs, VC.fillL, VC.putL, VC.stW, VC.stOK, VC.mixF, VC.setAll, Nat.reduceAdd, Nat.reduceSub, Nat.reduceMul, if_true, if_false, ↓reduceIte, forall_const, implies_true, reduceCtorEq, ne_eq, Nat.reduceBNe, Nat.reduceBEq, IntKind.signed, Nat.reduceEqDiff, Nat.reduceLeDiff, Nat.reduceLT, eq_self, Int.reduceEq, Int.reduceLT, Int.reduceLE, Int.reduceAdd, Int.reduceSub, VC.regC_nil, VC.regC_cons, VC.regCK_eq, VC.callQ, VC.tailQ, VC.goCall, VC.chStep]
        refine ⟨ag6, fits_i64 (by omega) (by omega), ?_⟩
        refine OPW_estV (x := ((x : Int), (y : Int))) hM6 hS6 rfl (by kernel_rfl) rfl rfl rfl hkey (by unfold maxLen; split <;> omega) fun w7 hM7 ht7 => ?_
        rw [updV_updV] at hM7
        have st7 := (h3.below_st hd1).trans ((h3.drewN 1).turned 2 rfl hM7 (ht6.trans ht7))
        have h7 := st7.hp
        have hr7 : Recs w7 a.gv n 4 (fun i => prL (s.pr i)) := h7.get 1 rfl
        have hg7 := hr7.1
        have r3 := hr7.at (i := x) (j := 3) hxn (by omega) rfl
        have f3 := hr7.soft (i := x) (j := 3) hxn (by omega)
        have kk : (w7.cell? ⟨a.gv, x * 4 + 3, none⟩).isSome = true := by rw [r3]; rfl
        have st8 := st7.trans (h7.setRec (en := prL) (P := s.pr) 1 rfl hxn (j := 3) (by omega) rfl (v := .int .i64 ((s.pr x).owes + 1)) (p := { s.pr x with owes := (s.pr x).owes + 1 }) rfl)
        simp -dsimp only [VC.heldF_done, VC.heldF_last, VC.planF_done, VC.planF_take, VC.planF_one, VC.planF_two, VC.planK_eq, VC.heldF_take, VC.heldF_one, VC.heldF_two, VC.heldF_twoL, VC.heldK_eq, VC.okRd, Fa.F89, rdI_of r3, r3, hg7, f3, kk, VC.Now, VC.vc, VC.lib, VC.mapN_drewN, VC.mapB_drewN, VC.regQ, VC.loopK, VC.reg, VC.opP, VC.opS, VC.opZ, VC.nomulB, VC.pv, VC.thenF, VC.blkF, VC.retF, VC.resV, VC.oneV, VC.evo, VC.bin, VC.binI, VC.cmpI, VC.arithI, VC.ldv, VC.slv, VC.pickP, VC.holds, VC.chainOf, VC.look, VC.junk, VC.put, VC.eff, VC.callee, VC.pureB, VC.rdK, VC.rdKs, VC.okKs, VC.eqKs, VC.fillL, VC.putL, VC.stW, VC.stOK, VC.mixF, VC.setAll, Nat.reduceAdd, Nat.reduceSub, Nat.reduceMul, if_true, if_false, ↓reduceIte, forall_const, implies_true, reduceCtorEq, ne_eq, Nat.reduceBNe, Nat.reduceBEq, IntKind.signed, Nat.reduceEqDiff, Nat.reduceLeDiff, Nat.reduceLT, eq_self, Int.reduceEq, Int.reduceLT, Int.reduceLE, Int.reduceAdd, Int.reduceSub, VC.regC_nil, VC.regC_cons, VC.regCK_eq, VC.callQ, VC.tailQ, VC.goCall, VC.chStep]
        refine ⟨fits_i64 (by omega) (by omega), ?_⟩
        rw [hres]
        refine ⟨rfl, { q with kc := if (q.Mc ((x : Int), (y : Int))).isSome = true then q.kc else q.kc + 1, Mc := updV q.Mc ((x : Int), (y : Int)) (.int .i64 ((s.ca x y + 1 : Nat) : Int)) }, (h.below_st hB).trans st8, ⟨hq.ca.upd hxn hyn, hq.an⟩, ?_, Nat.le_add_right _ _⟩
        show (if (q.Mc ((x : Int), (y : Int))).isSome = true then q.kc else q.kc + 1) ≤ _
        split <;> omega
  have e1 := eq_false k1
  by_cases k2 : c.kind = 2
  · have e2 := eq_true k2
    have hv := hq.ca.val y x hyn hxn
    have hbca := hb.ca y x
    have hban := hb.an x y
    subst hQ
    simp -dsimp only [Fa.F89, rdI_of z0, z0, hxl, e1, e2, e3, undef, tu, uf, ul, ur, VC.Now, VC.vc, VC.lib, VC.mapN_drewN, VC.mapB_drewN, VC.regQ, VC.loopK, VC.reg, VC.opP, VC.opS, VC.opZ, VC.nomulB, VC.pv, VC.thenF, VC.blkF, VC.retF, VC.resV, VC.oneV, VC.evo, VC.bin, VC.binI, VC.cmpI, VC.arithI, VC.ldv, VC.slv, VC.pickP, VC.holds, VC.chainOf, VC.look, VC.junk, VC.put, VC.eff, VC.callee, VC.pureB, VC.rdK, VC.rdKs, VC.okKs, VC.eqKs, VC.fillL, VC.putL, VC.stW, VC.stOK, VC.mixF, VC.setAll, Nat.reduceAdd, Nat.reduceSub, Nat.reduceMul, if_true, if_false, ↓reduceIte, forall_const, implies_true, reduceCtorEq, ne_eq, Nat.reduceBNe, Nat.reduceBEq, IntKind.signed, Nat.reduceEqDiff, Nat.reduceLeDiff, Nat.reduceLT, eq_self, Int.reduceEq, Int.reduceLT, Int.reduceLE, Int.reduceAdd, Int.reduceSub, VC.regC_nil, VC.regC_cons, VC.regCK_eq, VC.callQ, VC.tailQ, VC.goCall, VC.chStep]
    refine WP_tail 5 Fa.mix (by kernel_rfl) (by kernel_rfl) (by kernel_rfl) rfl ?_
    simp -dsimp only [Fa.F89, rdM_of m1, m1, rdI_of g0, g0, rdI_of g1, g1, hwl, hhl, VC.Now, VC.vc_skip, VC.vc_ret, VC.vc_exit, VC.vc_block, VC.vc_cond, VC.vc_region, VC.lib, VC.mapN_drewN, VC.mapB_drewN, VC.regQ, VC.loopK, VC.reg, VC.opP, VC.opS, VC.opZ, VC.nomulB, VC.pv, VC.thenF, VC.blkF, VC.retF, VC.resV, VC.oneV, VC.evo, VC.bin, VC.binI, VC.cmpI, VC.arithI, VC.ldv, VC.slv, VC.pickP, VC.holds, VC.chainOf, VC.look, VC.junk, VC.put, VC.eff, VC.callee, VC.pureB, VC.rdK, VC.rdKs, VC.okKs, VC.eqKs, VC.fillL, VC.putL, VC.stW, VC.stOK, VC.mixF, VC.setAll, Nat.reduceAdd, Nat.reduceSub, Nat.reduceMul, if_true, if_false, ↓reduceIte, forall_const, implies_true, reduceCtorEq, ne_eq, Nat.reduceBNe, Nat.reduceBEq, IntKind.signed, Nat.reduceEqDiff, Nat.reduceLeDiff, Nat.reduceLT, eq_self, Int.reduceEq, Int.reduceLT, Int.reduceLE, Int.reduceAdd, Int.reduceSub, VC.regC_nil, VC.regC_cons, VC.regCK_eq, VC.callQ, VC.tailQ, VC.goCall, VC.chStep]
    intro w4 hw4
    have h4 := h3.below hw4
    have hB4 := hB.trans (hw4.mono hB.size)
    refine CALL_by (arrive_any (h4.get 2 rfl : MapV Try.prog EQ w4 a.mc q.kc q.Mc) (by omega) (by omega) hv hkc (by omega)) fun e w5 hp => ⟨_, hp.1, ?_⟩
    obtain ⟨_, k', hM5, hk', hA5⟩ := hp
    have nxs : sb ≠ a.mc := by have h9 := (h.lt 2 rfl (g := a.mc) rfl).2; omega
    have nxt : tb ≠ a.mc := by have h9 := (h.lt 2 rfl (g := a.mc) rfl).2; omega
    have x5 := (x0.below hw4).agree hA5 nxs
    have bt5 := (bt.below hw4).agree hA5 nxt
    rw [VC.Now, VC.seqK_eq]
    by_cases qf : s.ca y x = 0
    · have eb : decide (s.ca y x ≠ 0) = false := decide_eq_false (by simpa using qf)
      rw [if_pos qf] at hM5
      have st5 := (h.below_st hB4).trans (h4.st 2 rfl (o' := oMap EQ a.mc k' q.Mc) hM5 (hA5.mono fun j _ hj => by rw [hj]; rfl) (Or.inl rfl))
      have hres : qdoes x c.other.toNat c.kind s = (5, s) := by unfold qdoes; rw [hyN, if_neg k1, if_neg k3, if_pos k2, if_pos qf]
      simp -dsimp only [Fa.F89, eb, VC.Now, VC.vc, VC.lib, VC.mapN_drewN, VC.mapB_drewN, VC.regQ, VC.loopK, VC.reg, VC.opP, VC.opS, VC.opZ, VC.nomulB, VC.pv, VC.thenF, VC.blkF, VC.retF, VC.resV, VC.oneV, VC.evo, VC.bin, VC.binI, VC.cmpI, VC.arithI, VC.ldv, VC.slv, VC.pickP, VC.holds, VC.chainOf, VC.look, VC.junk, VC.put, VC.eff, VC.callee, VC.pureB, VC.rdK, VC.rdKs, VC.okKs, VC.eqKs, VC.fillL, VC.putL, VC.stW, VC.stOK, VC.mixF, VC.setAll, Nat.reduceAdd, Nat.reduceSub, Nat.reduceMul, if_true, if_false, ↓reduceIte, forall_const, implies_true, reduceCtorEq, ne_eq, Nat.reduceBNe, Nat.reduceBEq, IntKind.signed, Nat.reduceEqDiff, Nat.reduceLeDiff, Nat.reduceLT, eq_self, Int.reduceEq, Int.reduceLT, Int.reduceLE, Int.reduceAdd, Int.reduceSub, VC.regC_nil, VC.regC_cons, VC.regCK_eq, VC.callQ, VC.tailQ, VC.goCall, VC.chStep]
      rw [hres]
      exact ⟨rfl, { q with kc := k' }, st5, ⟨hq.ca, hq.an⟩, hk', Nat.le_add_right _ _⟩
    · have eb : decide (s.ca y x ≠ 0) = true := decide_eq_true qf
      rw [if_neg qf] at hM5
      have st5 := (h.below_st hB4).trans (h4.st 2 rfl (o' := oMap EQ a.mc k' (updV q.Mc ((y : Int), (x : Int)) (.int .i64 ((s.ca y x - 1 : Nat) : Int)))) hM5 (hA5.mono fun j _ hj => by rw [hj]; rfl) (Or.inl rfl))
      have hqc := hq.ca.upd hyn hxn (v := s.ca y x - 1)
      generalize updV q.Mc ((y : Int), (x : Int)) (.int .i64 ((s.ca y x - 1 : Nat) : Int)) = Mc5 at st5 hqc
      clear hM5 hA5 bh bt x0 z0 z2 g0 g1 hhl t0 t1 htl hxl m1 m2 hwl hgl bw hr p0 p1 p2 p3 f0 h3 h4 hw4 hd1 hB hB4
      simp -dsimp only [Fa.F89, eb, VC.Now, VC.vc_skip, VC.vc_ret, VC.vc_exit, VC.vc_block, VC.vc_cond, VC.vc_region, VC.lib, VC.mapN_drewN, VC.mapB_drewN, VC.regQ, VC.loopK, VC.reg, VC.opP, VC.opS, VC.opZ, VC.nomulB, VC.pv, VC.thenF, VC.blkF, VC.retF, VC.resV, VC.oneV, VC.evo, VC.bin, VC.binI, VC.cmpI, VC.arithI, VC.ldv, VC.slv, VC.pickP, VC.holds, VC.chainOf, VC.look, VC.junk, VC.put, VC.eff, VC.callee, VC.pureB, VC.rdK, VC.rdKs, VC.okKs, VC.eqKs, VC.fillL, VC.putL, VC.stW, VC.stOK, VC.mixF, VC.setAll, Nat.reduceAdd, Nat.reduceSub, Nat.reduceMul, if_true, if_false, ↓reduceIte, forall_const, implies_true, reduceCtorEq, ne_eq, Nat.reduceBNe, Nat.reduceBEq, IntKind.signed, Nat.reduceEqDiff, Nat.reduceLeDiff, Nat.reduceLT, eq_self, Int.reduceEq, Int.reduceLT, Int.reduceLE, Int.reduceAdd, Int.reduceSub, VC.regC_nil, VC.regC_cons, VC.regCK_eq, VC.callQ, VC.tailQ, VC.goCall, VC.chStep]
      have h5 := st5.hp
      have hr5 : Recs w5 a.gv n 4 (fun i => prL (s.pr i)) := h5.get 1 rfl
      have hg5 := hr5.1
      have p0 := hr5.at (i := x) (j := 0) hxn (by omega) rfl
      have f0 := hr5.soft (i := x) (j := 0) hxn (by omega)
      simp only [Nat.add_zero] at p0 f0
      have kk : (w5.cell? ⟨a.gv, x * 4, none⟩).isSome = true := by rw [p0]; rfl
      have st6 := st5.trans (h5.setRec (en := prL) (P := s.pr) 1 rfl hxn (j := 0) (by omega) rfl (v := .bool true) (p := { s.pr x with works := true }) rfl)
      simp only [Nat.add_zero] at st6
      have ngs : sb ≠ a.gv := by have h9 := (h.lt 1 rfl (g := a.gv) rfl).2; omega
      have ngt : tb ≠ a.gv := by have h9 := (h.lt 1 rfl (g := a.gv) rfl).2; omega
      have x6 := x5.far (a := ⟨a.gv, x * 4, none⟩) (Ne.symm ngs) (.bool true)
      have bt6 := bt5.far (a := ⟨a.gv, x * 4, none⟩) (Ne.symm ngt) (.bool true)
      (repeat rw [vc_seq]); refine vc_plain _ fun Q hQ => ?_; simp -dsimp only [Fa.F89, kk, f0, hg5, VC.Now, VC.vc_skip, VC.vc_ret, VC.vc_exit, VC.vc_block, VC.vc_cond, VC.vc_region, VC.lib, VC.mapN_drewN, VC.mapB_drewN, VC.regQ, VC.loopK, VC.reg, VC.opP, VC.opS, VC.opZ, VC.nomulB, VC.pv, VC.thenF, VC.blkF, VC.retF, VC.resV, VC.oneV, VC.evo, VC.bin, VC.binI, VC.cmpI, VC.arithI, VC.ldv, VC.slv, VC.pickP, VC.holds, VC.chainOf, VC.look, VC.junk, VC.put, VC.eff, VC.callee, VC.pureB, VC.rdK, VC.rdKs, VC.okKs, VC.eqKs, VC.fillL, VC.putL, VC.stW, VC.stOK, VC.mixF, VC.setAll, Nat.reduceAdd, Nat.reduceSub, Nat.reduceMul, if_true, if_false, ↓reduceIte, forall_const, implies_true, reduceCtorEq, ne_eq, Nat.reduceBNe, Nat.reduceBEq, IntKind.signed, Nat.reduceEqDiff, Nat.reduceLeDiff, Nat.reduceLT, eq_self, Int.reduceEq, Int.reduceLT, Int.reduceLE, Int.reduceAdd, Int.reduceSub, VC.regC_nil, VC.regC_cons, VC.regCK_eq, VC.callQ, VC.tailQ, VC.goCall, VC.chStep]
      generalize w5.setCell ⟨a.gv, x * 4, none⟩ (.bool true) = w6 at st6 x6 bt6 ⊢
      clear st5 h5 hr5 hg5 p0 f0 kk x5 bt5
      have h6 := st6.hp
      have hr6 : Recs w6 a.gv n 4 (fun i => prL (upd s.pr x { s.pr x with works := true } i)) := h6.get 1 rfl
      have hg6 := hr6.1
      have r1 := hr6.at (i := x) (j := 1) (v := .bool (s.pr x).bound) hxn (by omega) (by rw [upd_same]; rfl)
      cases hbo : (s.pr x).bound with
      | true =>
        rw [hbo] at r1
        have hres : qdoes x c.other.toNat c.kind s = (0, { s with pr := upd s.pr x { s.pr x with works := true }, ca := set2 s.ca y x (s.ca y x - 1), an := set2 s.an x y (s.an x y + 1) }) := by unfold qdoes; rw [hyN, if_neg k1, if_neg k3, if_pos k2, if_neg qf, if_pos hbo]
        have hva := hq.an.val x y hxn hyn
        have bw6 : Box w6 a.wb (worldQ n a s.done) := h6.get 0 rfl
        have m2 := bw6.at (i := 2) rfl
        have hwl := bw6.1
        have t0 := bt6.at (i := 0) rfl
        have t1 := bt6.at (i := 1) rfl
        have htl := bt6.1
        have hd6 : Below w6.heap.size w6 (w6.drewN 1) := below_drewN (Below.refl _ w6) 1
        have hM6 : MapV Try.prog EQ (w6.drewN 1) a.ma q.ka q.Ma := (h6.drewN 1).get 3 rfl
        have n1 : a.wb ≠ a.ma := fun e => h6.ne 0 3 (by decide) rfl rfl a.wb rfl (by rw [e]; rfl)
        have n2 : tb ≠ a.ma := by have h9 := (h.lt 3 rfl (g := a.ma) rfl).2; omega
        have ag1 : Agree (fun l => l = a.ma) w6 (w6.drewN 1) := Agree.of_below hd6
        subst hQ
        simp -dsimp only [Fa.F89, rdB_of r1, r1, hg6, VC.Now, VC.vc, VC.lib, VC.mapN_drewN, VC.mapB_drewN, VC.regQ, VC.loopK, VC.reg, VC.opP, VC.opS, VC.opZ, VC.nomulB, VC.pv, VC.thenF, VC.blkF, VC.retF, VC.resV, VC.oneV, VC.evo, VC.bin, VC.binI, VC.cmpI, VC.arithI, VC.ldv, VC.slv, VC.pickP, VC.holds, VC.chainOf, VC.look, VC.junk, VC.put, VC.eff, VC.callee, VC.pureB, VC.rdK, VC.rdKs, VC.okKs, VC.eqKs, VC.fillL, VC.putL, VC.stW, VC.stOK, VC.mixF, VC.setAll, Nat.reduceAdd, Nat.reduceSub, Nat.reduceMul, if_true, if_false, ↓reduceIte, forall_const, implies_true, reduceCtorEq, ne_eq, Nat.reduceBNe, Nat.reduceBEq, IntKind.signed, Nat.reduceEqDiff, Nat.reduceLeDiff, Nat.reduceLT, eq_self, Int.reduceEq, Int.reduceLT, Int.reduceLE, Int.reduceAdd, Int.reduceSub, VC.regC_nil, VC.regC_cons, VC.regCK_eq, VC.callQ, VC.tailQ, VC.goCall, VC.chStep]
        refine WP_held 9 (fun l => l = a.ma) (.take 0 (.take 1 (.take 2 (.take 3 (.take 4 (.two 5 (.take 6 (.one 7 (.take 8 (.one 9 .done)))) 7 (.take 8 (.one 5 (.take 6 (.one 9 .done)))))))))) Fa.mix (by kernel_rfl) rfl ?_
        simp -dsimp only [VC.heldF_done, VC.heldF_last, VC.planF_done, VC.planF_take, VC.planF_one, VC.planF_two, VC.planK_eq, VC.heldF_take, VC.heldF_one, VC.heldF_two, VC.heldF_twoL, VC.heldK_eq, VC.okRd, Fa.F89, rdM_of m2, m2, rdI_of t0, t0, rdI_of t1, t1, hwl, htl, VC.Now, VC.vc, VC.lib, VC.mapN_drewN, VC.mapB_drewN, VC.regQ, VC.loopK, VC.reg, VC.opP, VC.opS, VC.opZ, VC.nomulB, VC.pv, VC.thenF, VC.blkF, VC.retF, VC.resV, VC.oneV, VC.evo, VC.bin, VC.binI, VC.cmpI, VC.arithI, VC.ldv, VC.slv, VC.pickP, VC.holds, VC.chainOf, VC.look, VC.junk, VC.put, VC.eff, VC.callee, VC.pureB, VC.rdK, VC.rdKs, VC.okKs, VC.eqKs, VC.fillL, VC.putL, VC.stW, VC.stOK, VC.mixF, VC.setAll, Nat.reduceAdd, Nat.reduceSub, Nat.reduceMul, if_true, if_false, ↓reduceIte, forall_const, implies_true, reduceCtorEq, ne_eq, Nat.reduceBNe, Nat.reduceBEq, IntKind.signed, Nat.reduceEqDiff, Nat.reduceLeDiff, Nat.reduceLT, eq_self, Int.reduceEq, Int.reduceLT, Int.reduceLE, Int.reduceAdd, Int.reduceSub, VC.regC_nil, VC.regC_cons, VC.regCK_eq, VC.callQ, VC.tailQ, VC.goCall, VC.chStep]
        (repeat refine ⟨by first | assumption | omega, ?_⟩)
        refine ⟨?_, ?_⟩
        ·
          refine OPW_lookV (x := ((x : Int), (y : Int))) (z := .int .i64 0) hM6 rfl (by kernel_rfl) rfl rfl hkey hva ?_
          simp -dsimp only [VC.heldF_done, VC.heldF_last, VC.planF_done, VC.planF_take, VC.planF_one, VC.planF_two, VC.planK_eq, VC.heldF_take, VC.heldF_one, VC.heldF_two, VC.heldF_twoL, VC.heldK_eq, VC.okRd, Fa.F89, hwl, VC.Now, VC.vc, VC.lib, VC.mapN_drewN, VC.mapB_drewN, VC.regQ, VC.loopK, VC.reg, VC.opP, VC.opS, VC.opZ, VC.nomulB, VC.pv, VC.thenF, VC.blkF, VC.retF, VC.resV, VC.oneV, VC.evo, VC.bin, VC.binI, VC.cmpI, VC.arithI, VC.ldv, VC.slv, VC.pickP, VC.holds, VC.chainOf, VC.look, VC.junk, VC.put, VC.eff, VC.callee, VC.pureB, VC.rdK, VC.rdKs, VC.okKs, VC.eqKs, VC.fillL, VC.putL, VC.stW, VC.stOK, VC.mixF, VC.setAll, Nat.reduceAdd, Nat.reduceSub, Nat.reduceMul, if_true, if_false, ↓reduceIte, forall_const, implies_true, reduceCtorEq, ne_eq, Nat.reduceBNe, Nat.reduceBEq, IntKind.signed, Nat.reduceEqDiff, Nat.reduceLeDiff, Nat.reduceLT, eq_self, Int.reduceEq, Int.reduceLT, Int.reduceLE, Int.reduceAdd, Int.reduceSub, VC.regC_nil, VC.regC_cons, VC.regCK_eq, VC.callQ, VC.tailQ, VC.goCall, VC.chStep]
          refine ⟨ag1, fits_i64 (by omega) (by omega), ?_⟩
          refine OPW_entV (x := ((x : Int), (y : Int))) (z := .int .i64 0) hM6 rfl (by kernel_rfl) rfl rfl hkey hkma hva fun w6 sp hM6 hS6 ht6 => ?_
          have ag6 := (ag1).trans (mapTurned_agree (X := fun l => l = a.ma) ht6 rfl)
          simp -dsimp only [VC.heldF_done, VC.heldF_last, VC.planF_done, VC.planF_take, VC.planF_one, VC.planF_two, VC.planK_eq, VC.heldF_take, VC.heldF_one, VC.heldF_two, VC.heldF_twoL, VC.heldK_eq, VC.okRd, Fa.F89, hwl, VC.Now, VC.vc, VC.lib, VC.mapN_drewN, VC.mapB_drewN, VC.regQ, VC.loopK, VC.reg, VC.opP, VC.opS, VC.opZ, VC.nomulB, VC.pv, VC.thenF, VC.blkF, VC.retF, VC.resV, VC.oneV, VC.evo, VC.bin, VC.binI, VC.cmpI, VC.arithI, VC.ldv, VC.slv, VC.pickP, VC.holds, VC.chainOf, VC.look, VC.junk, VC.put, VC.eff, VC.callee, VC.pureB, VC.rdK, VC.rdKs, VC.okKs, VC.eqKs, VC.fillL, VC.putL, VC.stW, VC.stOK, VC.mixF, VC.setAll, Nat.reduceAdd, Nat.reduceSub, Nat.reduceMul, if_true, if_false, ↓reduceIte, forall_const, implies_true, reduceCtorEq, ne_eq, Nat.reduceBNe, Nat.reduceBEq, IntKind.signed, Nat.reduceEqDiff, Nat.reduceLeDiff, Nat.reduceLT, eq_self, Int.reduceEq, Int.reduceLT, Int.reduceLE, Int.reduceAdd, Int.reduceSub, VC.regC_nil, VC.regC_cons, VC.regCK_eq, VC.callQ, VC.tailQ, VC.goCall, VC.chStep]
          refine ⟨ag6, ?_⟩
          refine OPW_estV (x := ((x : Int), (y : Int))) hM6 hS6 rfl (by kernel_rfl) rfl rfl rfl hkey (by unfold maxLen; split <;> omega) fun w7 hM7 ht7 => ?_
          rw [updV_updV] at hM7
          have st7 := st6.trans ((h6.below_st hd6).trans ((h6.drewN 1).turned 3 rfl hM7 (ht6.trans ht7)))
          simp -dsimp only [VC.heldF_done, VC.heldF_last, VC.planF_done, VC.planF_take, VC.planF_one, VC.planF_two, VC.planK_eq, VC.heldF_take, VC.heldF_one, VC.heldF_two, VC.heldF_twoL, VC.heldK_eq, VC.okRd, Fa.F89, hwl, VC.Now, VC.vc, VC.lib, VC.mapN_drewN, VC.mapB_drewN, VC.regQ, VC.loopK, VC.reg, VC.opP, VC.opS, VC.opZ, VC.nomulB, VC.pv, VC.thenF, VC.blkF, VC.retF, VC.resV, VC.oneV, VC.evo, VC.bin, VC.binI, VC.cmpI, VC.arithI, VC.ldv, VC.slv, VC.pickP, VC.holds, VC.chainOf, VC.look, VC.junk, VC.put, VC.eff, VC.callee, VC.pureB, VC.rdK, VC.rdKs, VC.okKs, VC.eqKs, VC.fillL, VC.putL, VC.stW, VC.stOK, VC.mixF, VC.setAll, Nat.reduceAdd, Nat.reduceSub, Nat.reduceMul, if_true, if_false, ↓reduceIte, forall_const, implies_true, reduceCtorEq, ne_eq, Nat.reduceBNe, Nat.reduceBEq, IntKind.signed, Nat.reduceEqDiff, Nat.reduceLeDiff, Nat.reduceLT, eq_self, Int.reduceEq, Int.reduceLT, Int.reduceLE, Int.reduceAdd, Int.reduceSub, VC.regC_nil, VC.regC_cons, VC.regCK_eq, VC.callQ, VC.tailQ, VC.goCall, VC.chStep]
          rw [hres]
          refine ⟨rfl, { kc := k', Mc := Mc5, ka := if (q.Ma ((x : Int), (y : Int))).isSome = true then q.ka else q.ka + 1, Ma := updV q.Ma ((x : Int), (y : Int)) (.int .i64 ((s.an x y + 1 : Nat) : Int)) }, st7, ⟨hqc, hq.an.upd hxn hyn⟩, hk', ?_⟩
          show (if (q.Ma ((x : Int), (y : Int))).isSome = true then q.ka else q.ka + 1) ≤ _
          split <;> omega
        ·
          refine OPW_entV (x := ((x : Int), (y : Int))) (z := .int .i64 0) hM6 rfl (by kernel_rfl) rfl rfl hkey hkma hva fun w6 sp hM6 hS6 ht6 => ?_
          have ag6 := (ag1).trans (mapTurned_agree (X := fun l => l = a.ma) ht6 rfl)
          simp -dsimp only [VC.heldF_done, VC.heldF_last, VC.planF_done, VC.planF_take, VC.planF_one, VC.planF_two, VC.planK_eq, VC.heldF_take, VC.heldF_one, VC.heldF_two, VC.heldF_twoL, VC.heldK_eq, VC.okRd, Fa.F89, hwl, VC.Now, VC.vc, VC.lib, VC.mapN_drewN, VC.mapB_drewN, VC.regQ, VC.loopK, VC.reg, VC.opP, VC.opS, VC.opZ, VC.nomulB, VC.pv, VC.thenF, VC.blkF, VC.retF, VC.resV, VC.oneV, VC.evo, VC.bin, VC.binI, VC.cmpI, VC.arithI, VC.ldv, VC.slv, VC.pickP, VC.holds, VC.chainOf, VC.look, VC.junk, VC.put, VC.eff, VC.callee, VC.pureB, VC.rdK, VC.rdKs, VC.okKs, VC.eqKs, VC.fillL, VC.putL, VC.stW, VC.stOK, VC.mixF, VC.setAll, Nat.reduceAdd, Nat.reduceSub, Nat.reduceMul, if_true, if_false, ↓reduceIte, forall_const, implies_true, reduceCtorEq, ne_eq, Nat.reduceBNe, Nat.reduceBEq, IntKind.signed, Nat.reduceEqDiff, Nat.reduceLeDiff, Nat.reduceLT, eq_self, Int.reduceEq, Int.reduceLT, Int.reduceLE, Int.reduceAdd, Int.reduceSub, VC.regC_nil, VC.regC_cons, VC.regCK_eq, VC.callQ, VC.tailQ, VC.goCall, VC.chStep]
          refine ⟨ag6, ?_⟩
          refine OPW_lookV (x := ((x : Int), (y : Int))) (z := .int .i64 0) hM6 rfl (by kernel_rfl) rfl rfl hkey (by rw [updV_same]) ?_
          simp -dsimp only [VC.heldF_done, VC.heldF_last, VC.planF_done, VC.planF_take, VC.planF_one, VC.planF_two, VC.planK_eq, VC.heldF_take, VC.heldF_one, VC.heldF_two, VC.heldF_twoL, VC.heldK_eq, VC.okRd, Fa.F89, hwl, VC.Now, VC.vc, VC.lib, VC.mapN_drewN, VC.mapB_drewN, VC.regQ, VC.loopK, VC.reg, VC.opP, VC.opS, VC.opZ, VC.nomulB, VC.pv, VC.thenF, VC.blkF, VC.retF, VC.resV, VC.oneV, VC.evo, VC.bin, VC.binI, VC.cmpI, VC.arithI, VC.ldv, VC.slv, VC.pickP, VC.holds, VC.chainOf, VC.look, VC.junk, VC.put, VC.eff, VC.callee, VC.pureB, VC.rdK, VC.rdKs, VC.okKs, VC.eqKs, VC.fillL, VC.putL, VC.stW, VC.stOK, VC.mixF, VC.setAll, Nat.reduceAdd, Nat.reduceSub, Nat.reduceMul, if_true, if_false, ↓reduceIte, forall_const, implies_true, reduceCtorEq, ne_eq, Nat.reduceBNe, Nat.reduceBEq, IntKind.signed, Nat.reduceEqDiff, Nat.reduceLeDiff, Nat.reduceLT, eq_self, Int.reduceEq, Int.reduceLT, Int.reduceLE, Int.reduceAdd, Int.reduceSub, VC.regC_nil, VC.regC_cons, VC.regCK_eq, VC.callQ, VC.tailQ, VC.goCall, VC.chStep]
          refine ⟨ag6, fits_i64 (by omega) (by omega), ?_⟩
          refine OPW_estV (x := ((x : Int), (y : Int))) hM6 hS6 rfl (by kernel_rfl) rfl rfl rfl hkey (by unfold maxLen; split <;> omega) fun w7 hM7 ht7 => ?_
          rw [updV_updV] at hM7
          have st7 := st6.trans ((h6.below_st hd6).trans ((h6.drewN 1).turned 3 rfl hM7 (ht6.trans ht7)))
          simp -dsimp only [VC.heldF_done, VC.heldF_last, VC.planF_done, VC.planF_take, VC.planF_one, VC.planF_two, VC.planK_eq, VC.heldF_take, VC.heldF_one, VC.heldF_two, VC.heldF_twoL, VC.heldK_eq, VC.okRd, Fa.F89, hwl, VC.Now, VC.vc, VC.lib, VC.mapN_drewN, VC.mapB_drewN, VC.regQ, VC.loopK, VC.reg, VC.opP, VC.opS, VC.opZ, VC.nomulB, VC.pv, VC.thenF, VC.blkF, VC.retF, VC.resV, VC.oneV, VC.evo, VC.bin, VC.binI, VC.cmpI, VC.arithI, VC.ldv, VC.slv, VC.pickP, VC.holds, VC.chainOf, VC.look, VC.junk, VC.put, VC.eff, VC.callee, VC.pureB, VC.rdK, VC.rdKs, VC.okKs, VC.eqKs, VC.fillL, VC.putL, VC.stW, VC.stOK, VC.mixF, VC.setAll, Nat.reduceAdd, Nat.reduceSub, Nat.reduceMul, if_true, if_false, ↓reduceIte, forall_const, implies_true, reduceCtorEq, ne_eq, Nat.reduceBNe, Nat.reduceBEq, IntKind.signed, Nat.reduceEqDiff, Nat.reduceLeDiff, Nat.reduceLT, eq_self, Int.reduceEq, Int.reduceLT, Int.reduceLE, Int.reduceAdd, Int.reduceSub, VC.regC_nil, VC.regC_cons, VC.regCK_eq, VC.callQ, VC.tailQ, VC.goCall, VC.chStep]
          rw [hres]
          refine ⟨rfl, { kc := k', Mc := Mc5, ka := if (q.Ma ((x : Int), (y : Int))).isSome = true then q.ka else q.ka + 1, Ma := updV q.Ma ((x : Int), (y : Int)) (.int .i64 ((s.an x y + 1 : Nat) : Int)) }, st7, ⟨hqc, hq.an.upd hxn hyn⟩, hk', ?_⟩
          show (if (q.Ma ((x : Int), (y : Int))).isSome = true then q.ka else q.ka + 1) ≤ _
          split <;> omega
      | false =>
        rw [hbo] at r1
        have hres : qdoes x c.other.toNat c.kind s = (0, { s with pr := upd s.pr x { s.pr x with works := true, bound := true, to := y }, ca := set2 s.ca y x (s.ca y x - 1) }) := by unfold qdoes; rw [hyN, if_neg k1, if_neg k3, if_pos k2, if_neg qf, if_neg (by rw [hbo]; decide)]
        have z2 := x6.at (i := 2) rfl
        rw [hy] at z2
        have hxl := x6.1
        have hd6 : Below w6.heap.size w6 (w6.drewN 1) := below_drewN (Below.refl _ w6) 1
        have ag1 : Agree (fun l => l = a.gv) w6 (w6.drewN 1) := Agree.of_below hd6
        have f1 := hr6.soft (i := x) (j := 1) hxn (by omega)
        have kk : (w6.cell? ⟨a.gv, x * 4 + 1, none⟩).isSome = true := by rw [r1]; rfl
        have st7 := (h6.drewN 1).setRec (en := prL) (P := upd s.pr x { s.pr x with works := true }) 1 rfl hxn (j := 1) (by omega) (by rw [upd_same]; rfl) (v := .bool true) (p := { s.pr x with works := true, bound := true }) (by rw [upd_same]; rfl)
        rw [upd_upd] at st7
        have hr7 : Recs ((w6.drewN 1).setCell ⟨a.gv, x * 4 + 1, none⟩ (.bool true)) a.gv n 4 (fun i => prL (upd s.pr x { s.pr x with works := true, bound := true } i)) := st7.hp.get 1 rfl
        have f2 := hr7.soft (i := x) (j := 2) hxn (by omega)
        have k22 : (((w6.drewN 1).setCell ⟨a.gv, x * 4 + 1, none⟩ (.bool true)).cell? ⟨a.gv, x * 4 + 2, none⟩).isSome = true := by rw [hr7.at (i := x) (j := 2) (v := .int .i64 (s.pr x).to) hxn (by omega) (by rw [upd_same]; rfl)]; rfl
        have st8 := st7.hp.setRec (en := prL) (P := upd s.pr x { s.pr x with works := true, bound := true }) 1 rfl hxn (j := 2) (by omega) (by rw [upd_same]; rfl) (v := .int .i64 y) (p := { s.pr x with works := true, bound := true, to := y }) (by rw [upd_same]; rfl)
        rw [upd_upd] at st8
        subst hQ
        simp -dsimp only [Fa.F89, rdB_of r1, r1, hg6, VC.Now, VC.vc, VC.lib, VC.mapN_drewN, VC.mapB_drewN, VC.regQ, VC.loopK, VC.reg, VC.opP, VC.opS, VC.opZ, VC.nomulB, VC.pv, VC.thenF, VC.blkF, VC.retF, VC.resV, VC.oneV, VC.evo, VC.bin, VC.binI, VC.cmpI, VC.arithI, VC.ldv, VC.slv, VC.pickP, VC.holds, VC.chainOf, VC.look, VC.junk, VC.put, VC.eff, VC.callee, VC.pureB, VC.rdK, VC.rdKs, VC.okKs, VC.eqKs, VC.fillL, VC.putL, VC.stW, VC.stOK, VC.mixF, VC.setAll, Nat.reduceAdd, Nat.reduceSub, Nat.reduceMul, if_true, if_false, ↓reduceIte, forall_const, implies_true, reduceCtorEq, ne_eq, Nat.reduceBNe, Nat.reduceBEq, IntKind.signed, Nat.reduceEqDiff, Nat.reduceLeDiff, Nat.reduceLT, eq_self, Int.reduceEq, Int.reduceLT, Int.reduceLE, Int.reduceAdd, Int.reduceSub, VC.regC_nil, VC.regC_cons, VC.regCK_eq, VC.callQ, VC.tailQ, VC.goCall, VC.chStep]
        refine WP_held 9 (fun l => l = a.gv) (.take 0 (.take 1 (.take 2 (.take 3 (.take 4 (.take 5 (.one 6 (.one 7 (.take 8 (.one 9 .done)))))))))) Fa.mix (by kernel_rfl) rfl ?_
        simp -dsimp only [VC.heldF_done, VC.heldF_last, VC.planF_done, VC.planF_take, VC.planF_one, VC.planF_two, VC.planK_eq, VC.heldF_take, VC.heldF_one, VC.heldF_two, VC.heldF_twoL, VC.heldK_eq, VC.okRd, Fa.F89, rdI_of z2, z2, hxl, hg6, f1, kk, f2, k22, VC.Now, VC.vc, VC.lib, VC.mapN_drewN, VC.mapB_drewN, VC.regQ, VC.loopK, VC.reg, VC.opP, VC.opS, VC.opZ, VC.nomulB, VC.pv, VC.thenF, VC.blkF, VC.retF, VC.resV, VC.oneV, VC.evo, VC.bin, VC.binI, VC.cmpI, VC.arithI, VC.ldv, VC.slv, VC.pickP, VC.holds, VC.chainOf, VC.look, VC.junk, VC.put, VC.eff, VC.callee, VC.pureB, VC.rdK, VC.rdKs, VC.okKs, VC.eqKs, VC.fillL, VC.putL, VC.stW, VC.stOK, VC.mixF, VC.setAll, Nat.reduceAdd, Nat.reduceSub, Nat.reduceMul, if_true, if_false, ↓reduceIte, forall_const, implies_true, reduceCtorEq, ne_eq, Nat.reduceBNe, Nat.reduceBEq, IntKind.signed, Nat.reduceEqDiff, Nat.reduceLeDiff, Nat.reduceLT, eq_self, Int.reduceEq, Int.reduceLT, Int.reduceLE, Int.reduceAdd, Int.reduceSub, VC.regC_nil, VC.regC_cons, VC.regCK_eq, VC.callQ, VC.tailQ, VC.goCall, VC.chStep]
        have ag2 := ag1.trans (Agree.setCell (X := fun l => l = a.gv) (w6.drewN 1) (.bool true) (a := ⟨a.gv, x * 4 + 1, none⟩) rfl)
        refine ⟨ngs, ag2, ag2, ?_⟩
        rw [hres]
        exact ⟨rfl, { q with kc := k', Mc := Mc5 }, (st6.trans (h6.below_st hd6)).trans (st7.trans st8), ⟨hqc, hq.an⟩, hk', Nat.le_add_right _ _⟩
  have e2 := eq_false k2
  have e4 : (c.kind = 4) = True := eq_true (by omega)
  have hv := hq.an.val y x hyn hxn
  have hban := hb.an y x
  have how := hb.ow x
  subst hQ
  simp -dsimp only [Fa.F89, rdI_of z0, z0, hxl, e1, e2, e3, e4, undef, tu, uf, ul, ur, VC.Now, VC.vc, VC.lib, VC.mapN_drewN, VC.mapB_drewN, VC.regQ, VC.loopK, VC.reg, VC.opP, VC.opS, VC.opZ, VC.nomulB, VC.pv, VC.thenF, VC.blkF, VC.retF, VC.resV, VC.oneV, VC.evo, VC.bin, VC.binI, VC.cmpI, VC.arithI, VC.ldv, VC.slv, VC.pickP, VC.holds, VC.chainOf, VC.look, VC.junk, VC.put, VC.eff, VC.callee, VC.pureB, VC.rdK, VC.rdKs, VC.okKs, VC.eqKs, VC.fillL, VC.putL, VC.stW, VC.stOK, VC.mixF, VC.setAll, Nat.reduceAdd, Nat.reduceSub, Nat.reduceMul, if_true, if_false, ↓reduceIte, forall_const, implies_true, reduceCtorEq, ne_eq, Nat.reduceBNe, Nat.reduceBEq, IntKind.signed, Nat.reduceEqDiff, Nat.reduceLeDiff, Nat.reduceLT, eq_self, Int.reduceEq, Int.reduceLT, Int.reduceLE, Int.reduceAdd, Int.reduceSub, VC.regC_nil, VC.regC_cons, VC.regCK_eq, VC.callQ, VC.tailQ, VC.goCall, VC.chStep]
  refine WP_tail 5 Fa.mix (by kernel_rfl) (by kernel_rfl) (by kernel_rfl) rfl ?_
  simp -dsimp only [Fa.F89, rdM_of m2, m2, rdI_of g0, g0, rdI_of g1, g1, hwl, hhl, VC.Now, VC.vc_skip, VC.vc_ret, VC.vc_exit, VC.vc_block, VC.vc_cond, VC.vc_region, VC.lib, VC.mapN_drewN, VC.mapB_drewN, VC.regQ, VC.loopK, VC.reg, VC.opP, VC.opS, VC.opZ, VC.nomulB, VC.pv, VC.thenF, VC.blkF, VC.retF, VC.resV, VC.oneV, VC.evo, VC.bin, VC.binI, VC.cmpI, VC.arithI, VC.ldv, VC.slv, VC.pickP, VC.holds, VC.chainOf, VC.look, VC.junk, VC.put, VC.eff, VC.callee, VC.pureB, VC.rdK, VC.rdKs, VC.okKs, VC.eqKs, VC.fillL, VC.putL, VC.stW, VC.stOK, VC.mixF, VC.setAll, Nat.reduceAdd, Nat.reduceSub, Nat.reduceMul, if_true, if_false, ↓reduceIte, forall_const, implies_true, reduceCtorEq, ne_eq, Nat.reduceBNe, Nat.reduceBEq, IntKind.signed, Nat.reduceEqDiff, Nat.reduceLeDiff, Nat.reduceLT, eq_self, Int.reduceEq, Int.reduceLT, Int.reduceLE, Int.reduceAdd, Int.reduceSub, VC.regC_nil, VC.regC_cons, VC.regCK_eq, VC.callQ, VC.tailQ, VC.goCall, VC.chStep]
  intro w4 hw4
  have h4 := h3.below hw4
  have hB4 := hB.trans (hw4.mono hB.size)
  refine CALL_by (arrive_any (h4.get 3 rfl : MapV Try.prog EQ w4 a.ma q.ka q.Ma) (by omega) (by omega) hv hka (by omega)) fun e w5 hp => ⟨_, hp.1, ?_⟩
  obtain ⟨_, k', hM5, hk', hA5⟩ := hp
  rw [VC.Now, VC.seqK_eq]
  by_cases qf : s.an y x = 0
  · have eb : decide (s.an y x ≠ 0) = false := decide_eq_false (by simpa using qf)
    rw [if_pos qf] at hM5
    have st5 := (h.below_st hB4).trans (h4.st 3 rfl (o' := oMap EQ a.ma k' q.Ma) hM5 (hA5.mono fun j _ hj => by rw [hj]; rfl) (Or.inl rfl))
    have hres : qdoes x c.other.toNat c.kind s = (5, s) := by unfold qdoes; rw [hyN, if_neg k1, if_neg k3, if_neg k2, if_pos qf]
    simp -dsimp only [Fa.F89, eb, VC.Now, VC.vc, VC.lib, VC.mapN_drewN, VC.mapB_drewN, VC.regQ, VC.loopK, VC.reg, VC.opP, VC.opS, VC.opZ, VC.nomulB, VC.pv, VC.thenF, VC.blkF, VC.retF, VC.resV, VC.oneV, VC.evo, VC.bin, VC.binI, VC.cmpI, VC.arithI, VC.ldv, VC.slv, VC.pickP, VC.holds, VC.chainOf, VC.look, VC.junk, VC.put, VC.eff, VC.callee, VC.pureB, VC.rdK, VC.rdKs, VC.okKs, VC.eqKs, VC.fillL, VC.putL, VC.stW, VC.stOK, VC.mixF, VC.setAll, Nat.reduceAdd, Nat.reduceSub, Nat.reduceMul, if_true, if_false, ↓reduceIte, forall_const, implies_true, reduceCtorEq, ne_eq, Nat.reduceBNe, Nat.reduceBEq, IntKind.signed, Nat.reduceEqDiff, Nat.reduceLeDiff, Nat.reduceLT, eq_self, Int.reduceEq, Int.reduceLT, Int.reduceLE, Int.reduceAdd, Int.reduceSub, VC.regC_nil, VC.regC_cons, VC.regCK_eq, VC.callQ, VC.tailQ, VC.goCall, VC.chStep]
    rw [hres]
    exact ⟨rfl, { q with ka := k' }, st5, ⟨hq.ca, hq.an⟩, Nat.le_add_right _ _, hk'⟩
  · have eb : decide (s.an y x ≠ 0) = true := decide_eq_true qf
    rw [if_neg qf] at hM5
    have st5 := (h.below_st hB4).trans (h4.st 3 rfl (o' := oMap EQ a.ma k' (updV q.Ma ((y : Int), (x : Int)) (.int .i64 ((s.an y x - 1 : Nat) : Int)))) hM5 (hA5.mono fun j _ hj => by rw [hj]; rfl) (Or.inl rfl))
    have hqc := hq.an.upd hyn hxn (v := s.an y x - 1)
    generalize updV q.Ma ((y : Int), (x : Int)) (.int .i64 ((s.an y x - 1 : Nat) : Int)) = Ma5 at st5 hqc
    have hres : qdoes x c.other.toNat c.kind s = (0, { s with pr := upd s.pr x { s.pr x with owes := (s.pr x).owes - 1 }, an := set2 s.an y x (s.an y x - 1) }) := by unfold qdoes; rw [hyN, if_neg k1, if_neg k3, if_neg k2, if_neg qf]
    clear hM5 hA5 bh bt x0 z0 z2 g0 g1 hhl t0 t1 htl hxl m1 m2 hwl hgl bw hr p0 p1 p2 p3 f0 h3 h4 hw4 hd1 hB hB4
    have h5 := st5.hp
    have hr5 : Recs w5 a.gv n 4 (fun i => prL (s.pr i)) := h5.get 1 rfl
    have hg5 := hr5.1
    have p3 := hr5.at (i := x) (j := 3) hxn (by omega) rfl
    have f3 := hr5.soft (i := x) (j := 3) hxn (by omega)
    have kk : (w5.cell? ⟨a.gv, x * 4 + 3, none⟩).isSome = true := by rw [p3]; rfl
    have st6 := st5.trans (h5.setRec (en := prL) (P := s.pr) 1 rfl hxn (j := 3) (by omega) rfl (v := .int .i64 ((s.pr x).owes - 1)) (p := { s.pr x with owes := (s.pr x).owes - 1 }) rfl)
    simp -dsimp only [Fa.F89, eb, rdI_of p3, p3, hg5, f3, kk, VC.Now, VC.vc, VC.lib, VC.mapN_drewN, VC.mapB_drewN, VC.regQ, VC.loopK, VC.reg, VC.opP, VC.opS, VC.opZ, VC.nomulB, VC.pv, VC.thenF, VC.blkF, VC.retF, VC.resV, VC.oneV, VC.evo, VC.bin, VC.binI, VC.cmpI, VC.arithI, VC.ldv, VC.slv, VC.pickP, VC.holds, VC.chainOf, VC.look, VC.junk, VC.put, VC.eff, VC.callee, VC.pureB, VC.rdK, VC.rdKs, VC.okKs, VC.eqKs, VC.fillL, VC.putL, VC.stW, VC.stOK, VC.mixF, VC.setAll, Nat.reduceAdd, Nat.reduceSub, Nat.reduceMul, if_true, if_false, ↓reduceIte, forall_const, implies_true, reduceCtorEq, ne_eq, Nat.reduceBNe, Nat.reduceBEq, IntKind.signed, Nat.reduceEqDiff, Nat.reduceLeDiff, Nat.reduceLT, eq_self, Int.reduceEq, Int.reduceLT, Int.reduceLE, Int.reduceAdd, Int.reduceSub, VC.regC_nil, VC.regC_cons, VC.regCK_eq, VC.callQ, VC.tailQ, VC.goCall, VC.chStep]
    refine ⟨fits_i64 (by omega) (by omega), ?_⟩
    rw [hres]
    exact ⟨rfl, { q with ka := k', Ma := Ma5 }, st6, ⟨hq.ca, hqc⟩, Nat.le_add_right _ _, hk'⟩
end Go.Proofs.Ytelfmhiaafkimaa
