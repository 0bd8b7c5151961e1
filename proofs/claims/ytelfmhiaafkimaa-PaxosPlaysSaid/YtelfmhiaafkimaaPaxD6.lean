/- A choice, the document's: a step that asks, where a ballot is fixed. -/
import Derived.Test.YtelfmhiaafkimaaPaxD5
namespace Go.Proofs.Ytelfmhiaafkimaa
open Go Go.RowKit Go.VC
set_option linter.unusedSimpArgs false
set_option linter.unusedVariables false
set_option maxRecDepth 8000 in
set_option maxHeartbeats 16000000 in
theorem dask_rest : daskBut.1 := by
  unfold daskBut
  refine ⟨?_, trivial⟩
  intro B n t a s V T w h hd hok ht hn c w1 sb hsb hsz u Ab cb eb _ ob w2 hlo i q2 q3 x hx0 hxN hxn hi hnum u2 m w3 Af cf _ fb w4 hfb hlf Av cv _ At ct et _ hpro w5 hr hqn nmb nsb nob e w6 w8 A8 c8 nfs nfo V' _ hd' hbe hlV' hbei hf hpl q5 e9 u4 Q hQ w11 x0 hob bb stC hlx hlo2
  have hC := stC.hp
  have hrv := RdT.ownL (hC.get 3 rfl : OwnK w11 0 258 4 V'.length (.slice A8 V'.length c8) _) (fun _ => rfl) vow0
  have z1 := x0.at (i := 1) rfl
  have hxl := x0.1
  have bm : Box w11 a.mb (paxC n { a with vv := .slice A8 V'.length c8 }) := hC.get 1 rfl
  have m2 := bm.at (i := 2) rfl
  have hml := bm.1
  have hlw : w.heap.size ≤ w11.heap.size := stC.agree.size
  have stD : St B (PDObs n a (begL s) V T s.fixd) w (oBox bb (bL (bestL (V'.take 0) c.ballot)) :: PDObs n { a with vv := .slice A8 V'.length c8 } (begL s) V' T s.fixd) w11 := stC
  have nbs : bb ≠ sb := by omega
  have nbo : bb ≠ ob := by omega
  subst hQ
  simp -dsimp only [Fa.F47, VC.Now, VC.vc_skip, VC.vc_ret, VC.vc_exit, VC.vc_block, VC.vc_cond, VC.vc_region, VC.lib, VC.mapN_drewN, VC.mapB_drewN, VC.regQ, VC.loopK, VC.reg, VC.opP, VC.pv, VC.thenF, VC.blkF, VC.retF, VC.resV, VC.oneV, VC.evo, VC.bin, VC.binI, VC.cmpI, VC.arithI, VC.ldv, VC.slv, VC.pickP, VC.holds, VC.chainOf, VC.look, VC.junk, VC.put, VC.eff, VC.callee, VC.pureB, VC.rdK, VC.rdKs, VC.okKs, VC.eqKs, VC.fillL, VC.putL, VC.stW, VC.stOK, VC.mixF, VC.setAll, Nat.reduceAdd, Nat.reduceSub, Nat.reduceMul, if_true, if_false, ↓reduceIte, forall_const, implies_true, reduceCtorEq, ne_eq, Nat.reduceBNe, Nat.reduceBEq, IntKind.signed, Nat.reduceEqDiff, Nat.reduceLeDiff, Nat.reduceLT, eq_self, Int.reduceEq, Int.reduceLT, Int.reduceLE, Int.reduceAdd, Int.reduceSub, VC.regC_nil, VC.regC_cons, VC.regCK_eq, VC.callQ, VC.tailQ, VC.goCall, VC.chStep]
  (repeat rw [vc_seq]); refine vc_plain _ fun Q hQ => ?_; simp -dsimp only [Fa.F47, rdSA_of m2, rdSN_of m2, rdSC_of m2, m2, hml, VC.Now, VC.vc_skip, VC.vc_ret, VC.vc_exit, VC.vc_block, VC.vc_cond, VC.vc_region, VC.lib, VC.mapN_drewN, VC.mapB_drewN, VC.regQ, VC.loopK, VC.reg, VC.opP, VC.pv, VC.thenF, VC.blkF, VC.retF, VC.resV, VC.oneV, VC.evo, VC.bin, VC.binI, VC.cmpI, VC.arithI, VC.ldv, VC.slv, VC.pickP, VC.holds, VC.chainOf, VC.look, VC.junk, VC.put, VC.eff, VC.callee, VC.pureB, VC.rdK, VC.rdKs, VC.okKs, VC.eqKs, VC.fillL, VC.putL, VC.stW, VC.stOK, VC.mixF, VC.setAll, Nat.reduceAdd, Nat.reduceSub, Nat.reduceMul, if_true, if_false, ↓reduceIte, forall_const, implies_true, reduceCtorEq, ne_eq, Nat.reduceBNe, Nat.reduceBEq, IntKind.signed, Nat.reduceEqDiff, Nat.reduceLeDiff, Nat.reduceLT, eq_self, Int.reduceEq, Int.reduceLT, Int.reduceLE, Int.reduceAdd, Int.reduceSub, VC.regC_nil, VC.regC_cons, VC.regCK_eq, VC.callQ, VC.tailQ, VC.goCall, VC.chStep]
  subst hQ
  simp -dsimp only [Fa.F47, rdSA_of m2, rdSN_of m2, rdSC_of m2, m2, hml, VC.Now, VC.vc, VC.lib, VC.mapN_drewN, VC.mapB_drewN, VC.regQ, VC.loopK, VC.reg, VC.opP, VC.pv, VC.thenF, VC.blkF, VC.retF, VC.resV, VC.oneV, VC.evo, VC.bin, VC.binI, VC.cmpI, VC.arithI, VC.ldv, VC.slv, VC.pickP, VC.holds, VC.chainOf, VC.look, VC.junk, VC.put, VC.eff, VC.callee, VC.pureB, VC.rdK, VC.rdKs, VC.okKs, VC.eqKs, VC.fillL, VC.putL, VC.stW, VC.stOK, VC.mixF, VC.setAll, Nat.reduceAdd, Nat.reduceSub, Nat.reduceMul, if_true, if_false, ↓reduceIte, forall_const, implies_true, reduceCtorEq, ne_eq, Nat.reduceBNe, Nat.reduceBEq, IntKind.signed, Nat.reduceEqDiff, Nat.reduceLeDiff, Nat.reduceLT, eq_self, Int.reduceEq, Int.reduceLT, Int.reduceLE, Int.reduceAdd, Int.reduceSub, VC.regC_nil, VC.regC_cons, VC.regCK_eq, VC.callQ, VC.tailQ, VC.goCall, VC.chStep]
  clear m2 bm z1 stC hC
  refine loop_slots Fa.mix [147] [12, 148, 149, 150, 151, 152, 153, 154, 155, 156, 157, 158, 159, 160, 161, 162, 163, 164, 165, 166] (fun m vs wx => ∃ k : Nat, k + m = V'.length ∧ vs = [.int .i64 k] ∧ St B (PDObs n a (begL s) V T s.fixd) w (oBox bb (bL (bestL (V'.take k) c.ballot)) :: PDObs n { a with vv := .slice A8 V'.length c8 } (begL s) V' T s.fixd) wx ∧ Box wx sb (tryL c) ∧ Box wx ob (bL ⟨s.num i, (s.bal i).own⟩)) V'.length (by kernel_rfl) rfl
    ⟨0, by omega, rfl, stD, x0, hob⟩ ?_
  clear stD x0 hob hrv hxl hml hlw
  rintro m vs u5 wx ⟨k, hkm, rfl, stD, x0, hob⟩
  have hC := stD.hp
  have bt : Box wx bb (bL (bestL (V'.take k) c.ballot)) := hC.get 0 rfl
  have t0 := bt.at (i := 0) rfl
  have t1 := bt.at (i := 1) rfl
  have htl := bt.1
  have z1 := x0.at (i := 1) rfl
  have hxl := x0.1
  by_cases hk : k < V'.length
  · have hrv := RdT.ownL (hC.get 3 rfl : OwnK wx 0 258 4 V'.length (.slice A8 V'.length c8) _) (fun _ => rfl) vow0
    obtain ⟨b, o, rfl, hb, hc⟩ := hrv (by omega)
    have c0 := hc k hk 0 _ rfl
    have c1 := hc k hk 1 _ rfl
    have c2 := hc k hk 2 _ rfl
    have c3 := hc k hk 3 _ rfl
    simp only [Nat.add_zero] at c0
    have e7 : ((k : Int) < V'.length) = True := eq_true (by omega)
    have htk : bestL (V'.take (k + 1)) c.ballot = bestF c.ballot (bestL (V'.take k) c.ballot) (V'.getD k vow0) := by rw [take_last hk vow0, bestL_snoc]
    generalize V'.getD k vow0 = y at c0 c1 c2 c3 htk
    generalize bestL (V'.take k) c.ballot = z at *
    have hBs : Below wx.heap.size wx (wx.alloc (.cells (vowL y).toArray 258)) := (Below.refl _ _).alloc (Nat.le_refl _) _
    by_cases qa : y.b = c.ballot
    · have ea := eq_true qa
      by_cases qb : z.n < y.told.n
      · have eb := eq_true qb
        have g1 := bt.at (i := 1) rfl
        have f0 := bt.soft (i := 0) (by show 0 < 2; omega)
        have f1 := bt.soft (i := 1) (by show 1 < 2; omega)
        simp -dsimp only [Fa.F47, e7, ea, eb, rdI_of c0, c0, rdI_of c1, c1, rdI_of c2, c2, rdI_of c3, c3, rdI_of t0, t0, rdI_of z1, z1, htl, hxl, hb, Int.toNat_natCast, g1, f0, f1, undef, tu, uf, ul, ur, VC.Now, VC.vc, VC.lib, VC.mapN_drewN, VC.mapB_drewN, VC.regQ, VC.loopK, VC.reg, VC.opP, VC.pv, VC.thenF, VC.blkF, VC.retF, VC.resV, VC.oneV, VC.evo, VC.bin, VC.binI, VC.cmpI, VC.arithI, VC.ldv, VC.slv, VC.pickP, VC.holds, VC.chainOf, VC.look, VC.junk, VC.put, VC.eff, VC.callee, VC.pureB, VC.rdK, VC.rdKs, VC.okKs, VC.eqKs, VC.fillL, VC.putL, VC.stW, VC.stOK, VC.mixF, VC.setAll, Nat.reduceAdd, Nat.reduceSub, Nat.reduceMul, if_true, if_false, ↓reduceIte, forall_const, implies_true, reduceCtorEq, ne_eq, Nat.reduceBNe, Nat.reduceBEq, IntKind.signed, Nat.reduceEqDiff, Nat.reduceLeDiff, Nat.reduceLT, eq_self, Int.reduceEq, Int.reduceLT, Int.reduceLE, Int.reduceAdd, Int.reduceSub, VC.regC_nil, VC.regC_cons, VC.regCK_eq, VC.callQ, VC.tailQ, VC.goCall, VC.chStep]
        rw [show bestF c.ballot z y = y.told from if_pos ⟨qa, qb⟩] at htk
        have stE := stD.later hBs
        have stF := (stE.trans (stE.hp.setBox 0 rfl 0 (.int .i64 y.told.n)))
        have stG := stF.trans (stF.hp.setBox 0 rfl 1 (.int .i64 y.told.v))
        refine ⟨by omega, fun u6 => ⟨fits_i64 (by omega) (by omega), SAME.intro (by kernel_rfl), m - 1, by omega, k + 1, by omega, rfl, ?_, ((x0.below hBs).far nbs _).far nbs _, ((hob.below hBs).far nbo _).far nbo _⟩⟩
        rw [htk]; exact stG
      · have eb := eq_false qb
        rw [show bestF c.ballot z y = z from if_neg fun h => qb h.2] at htk
        simp -dsimp only [Fa.F47, e7, ea, eb, rdI_of c0, c0, rdI_of c1, c1, rdI_of c2, c2, rdI_of c3, c3, rdI_of t0, t0, rdI_of z1, z1, htl, hxl, hb, Int.toNat_natCast, undef, tu, uf, ul, ur, VC.Now, VC.vc, VC.lib, VC.mapN_drewN, VC.mapB_drewN, VC.regQ, VC.loopK, VC.reg, VC.opP, VC.pv, VC.thenF, VC.blkF, VC.retF, VC.resV, VC.oneV, VC.evo, VC.bin, VC.binI, VC.cmpI, VC.arithI, VC.ldv, VC.slv, VC.pickP, VC.holds, VC.chainOf, VC.look, VC.junk, VC.put, VC.eff, VC.callee, VC.pureB, VC.rdK, VC.rdKs, VC.okKs, VC.eqKs, VC.fillL, VC.putL, VC.stW, VC.stOK, VC.mixF, VC.setAll, Nat.reduceAdd, Nat.reduceSub, Nat.reduceMul, if_true, if_false, ↓reduceIte, forall_const, implies_true, reduceCtorEq, ne_eq, Nat.reduceBNe, Nat.reduceBEq, IntKind.signed, Nat.reduceEqDiff, Nat.reduceLeDiff, Nat.reduceLT, eq_self, Int.reduceEq, Int.reduceLT, Int.reduceLE, Int.reduceAdd, Int.reduceSub, VC.regC_nil, VC.regC_cons, VC.regCK_eq, VC.callQ, VC.tailQ, VC.goCall, VC.chStep]
        refine ⟨by omega, fun u6 => ⟨fits_i64 (by omega) (by omega), SAME.intro (by kernel_rfl), m - 1, by omega, k + 1, by omega, rfl, ?_, x0.below hBs, hob.below hBs⟩⟩
        rw [htk]; exact stD.later hBs
    · have ea := eq_false qa
      rw [show bestF c.ballot z y = z from if_neg fun h => qa h.1] at htk
      simp -dsimp only [Fa.F47, e7, ea, rdI_of c0, c0, rdI_of c1, c1, rdI_of c2, c2, rdI_of c3, c3, rdI_of t0, t0, rdI_of z1, z1, htl, hxl, hb, Int.toNat_natCast, undef, tu, uf, ul, ur, VC.Now, VC.vc, VC.lib, VC.mapN_drewN, VC.mapB_drewN, VC.regQ, VC.loopK, VC.reg, VC.opP, VC.pv, VC.thenF, VC.blkF, VC.retF, VC.resV, VC.oneV, VC.evo, VC.bin, VC.binI, VC.cmpI, VC.arithI, VC.ldv, VC.slv, VC.pickP, VC.holds, VC.chainOf, VC.look, VC.junk, VC.put, VC.eff, VC.callee, VC.pureB, VC.rdK, VC.rdKs, VC.okKs, VC.eqKs, VC.fillL, VC.putL, VC.stW, VC.stOK, VC.mixF, VC.setAll, Nat.reduceAdd, Nat.reduceSub, Nat.reduceMul, if_true, if_false, ↓reduceIte, forall_const, implies_true, reduceCtorEq, ne_eq, Nat.reduceBNe, Nat.reduceBEq, IntKind.signed, Nat.reduceEqDiff, Nat.reduceLeDiff, Nat.reduceLT, eq_self, Int.reduceEq, Int.reduceLT, Int.reduceLE, Int.reduceAdd, Int.reduceSub, VC.regC_nil, VC.regC_cons, VC.regCK_eq, VC.callQ, VC.tailQ, VC.goCall, VC.chStep]
      refine ⟨by omega, fun u6 => ⟨fits_i64 (by omega) (by omega), SAME.intro (by kernel_rfl), m - 1, by omega, k + 1, by omega, rfl, ?_, x0.below hBs, hob.below hBs⟩⟩
      rw [htk]; exact stD.later hBs
  · obtain rfl : k = V'.length := by omega
    have e7 : ((V'.length : Int) < V'.length) = False := eq_false (by omega)
    rw [List.take_length] at *
    have hz : bestL V' c.ballot = told1 (s.bal i).best (s.vt x).tk := by rw [hbe, hbei hf]
    rw [hz] at stD bt t0 t1
    have o0 := hob.at (i := 0) rfl
    have o1 := hob.at (i := 1) rfl
    have hol := hob.1
    clear hbe hbei hz hC
    have hres : pask n i x s = (0, { s with vt := upd s.vt x ⟨s.num i, (s.vt x).tk⟩, bal := upd s.bal i { s.bal i with best := fixB (s.bal i).own (s.num i) (told1 (s.bal i).best (s.vt x).tk), prom := (s.bal i).prom + 1, fixed := true }, fixd := s.fixd ++ [fixB (s.bal i).own (s.num i) (told1 (s.bal i).best (s.vt x).tk)] }) := by unfold pask; rw [if_neg hqn, if_neg (by rw [hf]; decide), if_pos q5]
    have hfxd : (pask n i x s).2.fixd = s.fixd ++ [fixB (s.bal i).own (s.num i) (told1 (s.bal i).best (s.vt x).tk)] := by rw [hres]
    have hone : (pask n i x s).1 = 0 := by rw [hres]
    clear hres
    generalize told1 (s.bal i).best (s.vt x).tk = z at *
    by_cases qz : z.n = 0
    · have ez := eq_true qz
      have hfv : fixB (s.bal i).own (s.num i) z = ⟨c.ballot, (s.bal i).own⟩ := by unfold fixB; rw [if_pos qz, hnum]
      have g1 := bt.at (i := 1) rfl
      have f0 := bt.soft (i := 0) (by show 0 < 2; omega)
      have f1 := bt.soft (i := 1) (by show 1 < 2; omega)
      simp -dsimp only [Fa.F47, e7, ez, rdI_of t0, t0, rdI_of o0, o0, rdI_of o1, o1, htl, hol, g1, f0, f1, VC.Now, VC.vc, VC.lib, VC.mapN_drewN, VC.mapB_drewN, VC.regQ, VC.loopK, VC.reg, VC.opP, VC.pv, VC.thenF, VC.blkF, VC.retF, VC.resV, VC.oneV, VC.evo, VC.bin, VC.binI, VC.cmpI, VC.arithI, VC.ldv, VC.slv, VC.pickP, VC.holds, VC.chainOf, VC.look, VC.junk, VC.put, VC.eff, VC.callee, VC.pureB, VC.rdK, VC.rdKs, VC.okKs, VC.eqKs, VC.fillL, VC.putL, VC.stW, VC.stOK, VC.mixF, VC.setAll, Nat.reduceAdd, Nat.reduceSub, Nat.reduceMul, if_true, if_false, ↓reduceIte, forall_const, implies_true, reduceCtorEq, ne_eq, Nat.reduceBNe, Nat.reduceBEq, IntKind.signed, Nat.reduceEqDiff, Nat.reduceLeDiff, Nat.reduceLT, eq_self, Int.reduceEq, Int.reduceLT, Int.reduceLE, Int.reduceAdd, Int.reduceSub, VC.regC_nil, VC.regC_cons, VC.regCK_eq, VC.callQ, VC.tailQ, VC.goCall, VC.chStep]
      have stF := (stD.trans (stD.hp.setBox 0 rfl 0 (.int .i64 (s.num i))))
      have stG := stF.trans (stF.hp.setBox 0 rfl 1 (.int .i64 (s.bal i).own))
      replace x0 := (x0.far nbs (.int .i64 (s.num i)) (a := ⟨bb, 0, none⟩)).far nbs (.int .i64 (s.bal i).own) (a := ⟨bb, 1, none⟩)
      replace stG : St B _ w (oBox bb [.int .i64 (s.num i), .int .i64 (s.bal i).own] :: PDObs n { a with vv := .slice A8 V'.length c8 } (begL s) V' T s.fixd) _ := stG
      clear stF stD t0 t1 bt htl g1 f0 f1 hob o0 o1 hol hxl z1
      generalize (wx.setCell ⟨bb, 0, none⟩ (.int .i64 (s.num i))).setCell ⟨bb, 1, none⟩ (.int .i64 (s.bal i).own) = w12 at stG x0 ⊢
      rw [hfv] at hfxd
      clear hfv
      generalize (s.bal i).own = va at stG hfxd
      generalize s.num i = vn at stG
      have hG := stG.hp
      have z1 := x0.at (i := 1) rfl
      have hxl := x0.1
      have bt : Box w12 bb [.int .i64 vn, .int .i64 va] := hG.get 0 rfl
      have t1 := bt.at (i := 1) rfl
      have htl := bt.1
      have bm : Box w12 a.mb (paxC n { a with vv := .slice A8 V'.length c8 }) := hG.get 1 rfl
      have m4 := bm.at (i := 4) rfl
      have hml := bm.1
      have hown : OwnK w12 0 117 2 s.fixd.length a.vf (s.fixd.flatMap bL) := hG.get 5 rfl
      obtain ⟨Ag, cg, eg, _⟩ := id hown
      rw [eg] at m4
      have kmb : ¬ a.vf.ownBlock = some a.mb := fun hf => hG.ne 5 1 (by decide) rfl rfl a.mb hf rfl
      have kbb : ¬ a.vf.ownBlock = some bb := fun hf => hG.ne 5 0 (by decide) rfl rfl bb hf rfl
      have ksb : ¬ a.vf.ownBlock = some sb := fun hf => by
        have h9 := h.lt 4 rfl hf
        omega
      have hHd := hG.drewN 1
      have hfl := hok.fixd
      have ag0 : Agree (fun j => a.vf.ownBlock = some j) w12 (w12.drewN 1) := Agree.of_below (below_drewN (Below.refl _ w12) 1)
      refine WP_held 14 (fun j => a.vf.ownBlock = some j) (.take 0 (.take 1 (.take 2 (.take 3 (.take 4 (.take 5 (.take 6 (.take 7 (.take 8 (.take 9 (.one 10 (.one 11 (.one 12 (.take 13 (.one 14 .done))))))))))))))) Fa.mix (by kernel_rfl) rfl ?_
      simp -dsimp only [VC.heldF_done, VC.heldF_last, VC.planF_done, VC.planF_take, VC.planF_one, VC.planF_two, VC.planK_eq, VC.heldF_take, VC.heldF_one, VC.heldF_two, VC.heldF_twoL, VC.heldK_eq, VC.okRd, Fa.F47, rdI_of z1, z1, rdI_of t1, t1, rdSA_of m4, rdSN_of m4, rdSC_of m4, m4, hxl, hml, htl, VC.Now, VC.vc, VC.lib, VC.mapN_drewN, VC.mapB_drewN, VC.regQ, VC.loopK, VC.reg, VC.opP, VC.pv, VC.thenF, VC.blkF, VC.retF, VC.resV, VC.oneV, VC.evo, VC.bin, VC.binI, VC.cmpI, VC.arithI, VC.ldv, VC.slv, VC.pickP, VC.holds, VC.chainOf, VC.look, VC.junk, VC.put, VC.eff, VC.callee, VC.pureB, VC.rdK, VC.rdKs, VC.okKs, VC.eqKs, VC.fillL, VC.putL, VC.stW, VC.stOK, VC.mixF, VC.setAll, Nat.reduceAdd, Nat.reduceSub, Nat.reduceMul, if_true, if_false, ↓reduceIte, forall_const, implies_true, reduceCtorEq, ne_eq, Nat.reduceBNe, Nat.reduceBEq, IntKind.signed, Nat.reduceEqDiff, Nat.reduceLeDiff, Nat.reduceLT, eq_self, Int.reduceEq, Int.reduceLT, Int.reduceLE, Int.reduceAdd, Int.reduceSub, VC.regC_nil, VC.regC_cons, VC.regCK_eq, VC.callQ, VC.tailQ, VC.goCall, VC.chStep]
      (repeat refine ⟨by first | assumption | omega, ?_⟩)
      refine ⟨ag0.trans (Agree.of_below ((Below.refl _ _).alloc (Nat.le_refl _) _)), ?_⟩
      refine OPW_appK (v := a.vf) rfl Fa.apI35 (by rw [eg]; rfl) rfl rfl (by simp [Value.oneCell']) (hHd.get 5 rfl) (Nat.zero_le _) (by omega) (by decide) fun v13 w13 ho13 hg13 hst13 => ?_
      have hfe : (s.fixd ++ [(⟨c.ballot, va⟩ : Bal)]).flatMap bL = s.fixd.flatMap bL ++ [.int .i64 c.ballot, .int .i64 va] := by rw [List.flatMap_append]; rfl
      have hfn : (s.fixd ++ [(⟨c.ballot, va⟩ : Bal)]).length = s.fixd.length + 1 := by simp
      rw [← hfe, ← hfn] at ho13
      obtain ⟨⟨r1, r2⟩, st13⟩ := hHd.growField 1 5 rfl rfl (by decide) ho13 hg13 hst13 4 (by show 4 < 5; omega)
      obtain ⟨A13, c13, rfl, _⟩ := id ho13
      have ag13 := ag0.trans (Agree.grown hg13 fun l hl => hl)
      have hw13 : a.mb < w13.heap.size := by simpa using (st13.hp.get 1 rfl : Box _ a.mb _).1
      simp -dsimp only [VC.heldF_done, VC.heldF_last, VC.planF_done, VC.planF_take, VC.planF_one, VC.planF_two, VC.planK_eq, VC.heldF_take, VC.heldF_one, VC.heldF_two, VC.heldF_twoL, VC.heldK_eq, VC.okRd, Fa.F47, hw13, hml, VC.Now, VC.vc, VC.lib, VC.mapN_drewN, VC.mapB_drewN, VC.regQ, VC.loopK, VC.reg, VC.opP, VC.pv, VC.thenF, VC.blkF, VC.retF, VC.resV, VC.oneV, VC.evo, VC.bin, VC.binI, VC.cmpI, VC.arithI, VC.ldv, VC.slv, VC.pickP, VC.holds, VC.chainOf, VC.look, VC.junk, VC.put, VC.eff, VC.callee, VC.pureB, VC.rdK, VC.rdKs, VC.okKs, VC.eqKs, VC.fillL, VC.putL, VC.stW, VC.stOK, VC.mixF, VC.setAll, Nat.reduceAdd, Nat.reduceSub, Nat.reduceMul, if_true, if_false, ↓reduceIte, forall_const, implies_true, reduceCtorEq, ne_eq, Nat.reduceBNe, Nat.reduceBEq, IntKind.signed, Nat.reduceEqDiff, Nat.reduceLeDiff, Nat.reduceLT, eq_self, Int.reduceEq, Int.reduceLT, Int.reduceLE, Int.reduceAdd, Int.reduceSub, VC.regC_nil, VC.regC_cons, VC.regCK_eq, VC.callQ, VC.tailQ, VC.goCall, VC.chStep]
      refine ⟨ag13, ag13, ⟨r1, r2⟩, ?_⟩
      rw [hr]
      have hw := pask_own n i x s
      refine ⟨[], none, 0, { a with vv := .slice A8 V'.length c8, vf := .slice A13 (s.fixd ++ [(⟨c.ballot, va⟩ : Bal)]).length c13 }, V', T, by rw [hone]; rfl, by rw [hw.2.2.2, List.append_nil], fun h => absurd h (Nat.lt_irrefl 0), fun ad h => (by cases h), rfl, ?_, hd'⟩
      rw [begL_upd hw.1 hw.2.1 hw.2.2.1, hfxd]
      exact St.drop (R := [_]) ((stG.drewN 1).trans st13)
    · have ez := eq_false qz
      have hfv : fixB (s.bal i).own (s.num i) z = ⟨c.ballot, z.v⟩ := by unfold fixB; rw [if_neg qz, hnum]
      simp -dsimp only [Fa.F47, e7, ez, rdI_of t0, t0, rdI_of o0, o0, rdI_of o1, o1, htl, hol, VC.Now, VC.vc, VC.lib, VC.mapN_drewN, VC.mapB_drewN, VC.regQ, VC.loopK, VC.reg, VC.opP, VC.pv, VC.thenF, VC.blkF, VC.retF, VC.resV, VC.oneV, VC.evo, VC.bin, VC.binI, VC.cmpI, VC.arithI, VC.ldv, VC.slv, VC.pickP, VC.holds, VC.chainOf, VC.look, VC.junk, VC.put, VC.eff, VC.callee, VC.pureB, VC.rdK, VC.rdKs, VC.okKs, VC.eqKs, VC.fillL, VC.putL, VC.stW, VC.stOK, VC.mixF, VC.setAll, Nat.reduceAdd, Nat.reduceSub, Nat.reduceMul, if_true, if_false, ↓reduceIte, forall_const, implies_true, reduceCtorEq, ne_eq, Nat.reduceBNe, Nat.reduceBEq, IntKind.signed, Nat.reduceEqDiff, Nat.reduceLeDiff, Nat.reduceLT, eq_self, Int.reduceEq, Int.reduceLT, Int.reduceLE, Int.reduceAdd, Int.reduceSub, VC.regC_nil, VC.regC_cons, VC.regCK_eq, VC.callQ, VC.tailQ, VC.goCall, VC.chStep]
      have stG : St B _ w (oBox bb [.int .i64 z.n, .int .i64 z.v] :: PDObs n { a with vv := .slice A8 V'.length c8 } (begL s) V' T s.fixd) wx := stD
      clear stD t0 t1 bt htl hob o0 o1 hol hxl z1
      generalize wx = w12 at stG x0 ⊢
      rw [hfv] at hfxd
      clear hfv
      generalize z.v = va at stG hfxd
      generalize z.n = vn at stG
      have hG := stG.hp
      have z1 := x0.at (i := 1) rfl
      have hxl := x0.1
      have bt : Box w12 bb [.int .i64 vn, .int .i64 va] := hG.get 0 rfl
      have t1 := bt.at (i := 1) rfl
      have htl := bt.1
      have bm : Box w12 a.mb (paxC n { a with vv := .slice A8 V'.length c8 }) := hG.get 1 rfl
      have m4 := bm.at (i := 4) rfl
      have hml := bm.1
      have hown : OwnK w12 0 117 2 s.fixd.length a.vf (s.fixd.flatMap bL) := hG.get 5 rfl
      obtain ⟨Ag, cg, eg, _⟩ := id hown
      rw [eg] at m4
      have kmb : ¬ a.vf.ownBlock = some a.mb := fun hf => hG.ne 5 1 (by decide) rfl rfl a.mb hf rfl
      have kbb : ¬ a.vf.ownBlock = some bb := fun hf => hG.ne 5 0 (by decide) rfl rfl bb hf rfl
      have ksb : ¬ a.vf.ownBlock = some sb := fun hf => by
        have h9 := h.lt 4 rfl hf
        omega
      have hHd := hG.drewN 1
      have hfl := hok.fixd
      have ag0 : Agree (fun j => a.vf.ownBlock = some j) w12 (w12.drewN 1) := Agree.of_below (below_drewN (Below.refl _ w12) 1)
      refine WP_held 14 (fun j => a.vf.ownBlock = some j) (.take 0 (.take 1 (.take 2 (.take 3 (.take 4 (.take 5 (.take 6 (.take 7 (.take 8 (.take 9 (.one 10 (.one 11 (.one 12 (.take 13 (.one 14 .done))))))))))))))) Fa.mix (by kernel_rfl) rfl ?_
      simp -dsimp only [VC.heldF_done, VC.heldF_last, VC.planF_done, VC.planF_take, VC.planF_one, VC.planF_two, VC.planK_eq, VC.heldF_take, VC.heldF_one, VC.heldF_two, VC.heldF_twoL, VC.heldK_eq, VC.okRd, Fa.F47, rdI_of z1, z1, rdI_of t1, t1, rdSA_of m4, rdSN_of m4, rdSC_of m4, m4, hxl, hml, htl, VC.Now, VC.vc, VC.lib, VC.mapN_drewN, VC.mapB_drewN, VC.regQ, VC.loopK, VC.reg, VC.opP, VC.pv, VC.thenF, VC.blkF, VC.retF, VC.resV, VC.oneV, VC.evo, VC.bin, VC.binI, VC.cmpI, VC.arithI, VC.ldv, VC.slv, VC.pickP, VC.holds, VC.chainOf, VC.look, VC.junk, VC.put, VC.eff, VC.callee, VC.pureB, VC.rdK, VC.rdKs, VC.okKs, VC.eqKs, VC.fillL, VC.putL, VC.stW, VC.stOK, VC.mixF, VC.setAll, Nat.reduceAdd, Nat.reduceSub, Nat.reduceMul, if_true, if_false, ↓reduceIte, forall_const, implies_true, reduceCtorEq, ne_eq, Nat.reduceBNe, Nat.reduceBEq, IntKind.signed, Nat.reduceEqDiff, Nat.reduceLeDiff, Nat.reduceLT, eq_self, Int.reduceEq, Int.reduceLT, Int.reduceLE, Int.reduceAdd, Int.reduceSub, VC.regC_nil, VC.regC_cons, VC.regCK_eq, VC.callQ, VC.tailQ, VC.goCall, VC.chStep]
      (repeat refine ⟨by first | assumption | omega, ?_⟩)
      refine ⟨ag0.trans (Agree.of_below ((Below.refl _ _).alloc (Nat.le_refl _) _)), ?_⟩
      refine OPW_appK (v := a.vf) rfl Fa.apI35 (by rw [eg]; rfl) rfl rfl (by simp [Value.oneCell']) (hHd.get 5 rfl) (Nat.zero_le _) (by omega) (by decide) fun v13 w13 ho13 hg13 hst13 => ?_
      have hfe : (s.fixd ++ [(⟨c.ballot, va⟩ : Bal)]).flatMap bL = s.fixd.flatMap bL ++ [.int .i64 c.ballot, .int .i64 va] := by rw [List.flatMap_append]; rfl
      have hfn : (s.fixd ++ [(⟨c.ballot, va⟩ : Bal)]).length = s.fixd.length + 1 := by simp
      rw [← hfe, ← hfn] at ho13
      obtain ⟨⟨r1, r2⟩, st13⟩ := hHd.growField 1 5 rfl rfl (by decide) ho13 hg13 hst13 4 (by show 4 < 5; omega)
      obtain ⟨A13, c13, rfl, _⟩ := id ho13
      have ag13 := ag0.trans (Agree.grown hg13 fun l hl => hl)
      have hw13 : a.mb < w13.heap.size := by simpa using (st13.hp.get 1 rfl : Box _ a.mb _).1
      simp -dsimp only [VC.heldF_done, VC.heldF_last, VC.planF_done, VC.planF_take, VC.planF_one, VC.planF_two, VC.planK_eq, VC.heldF_take, VC.heldF_one, VC.heldF_two, VC.heldF_twoL, VC.heldK_eq, VC.okRd, Fa.F47, hw13, hml, VC.Now, VC.vc, VC.lib, VC.mapN_drewN, VC.mapB_drewN, VC.regQ, VC.loopK, VC.reg, VC.opP, VC.pv, VC.thenF, VC.blkF, VC.retF, VC.resV, VC.oneV, VC.evo, VC.bin, VC.binI, VC.cmpI, VC.arithI, VC.ldv, VC.slv, VC.pickP, VC.holds, VC.chainOf, VC.look, VC.junk, VC.put, VC.eff, VC.callee, VC.pureB, VC.rdK, VC.rdKs, VC.okKs, VC.eqKs, VC.fillL, VC.putL, VC.stW, VC.stOK, VC.mixF, VC.setAll, Nat.reduceAdd, Nat.reduceSub, Nat.reduceMul, if_true, if_false, ↓reduceIte, forall_const, implies_true, reduceCtorEq, ne_eq, Nat.reduceBNe, Nat.reduceBEq, IntKind.signed, Nat.reduceEqDiff, Nat.reduceLeDiff, Nat.reduceLT, eq_self, Int.reduceEq, Int.reduceLT, Int.reduceLE, Int.reduceAdd, Int.reduceSub, VC.regC_nil, VC.regC_cons, VC.regCK_eq, VC.callQ, VC.tailQ, VC.goCall, VC.chStep]
      refine ⟨ag13, ag13, ⟨r1, r2⟩, ?_⟩
      rw [hr]
      have hw := pask_own n i x s
      refine ⟨[], none, 0, { a with vv := .slice A8 V'.length c8, vf := .slice A13 (s.fixd ++ [(⟨c.ballot, va⟩ : Bal)]).length c13 }, V', T, by rw [hone]; rfl, by rw [hw.2.2.2, List.append_nil], fun h => absurd h (Nat.lt_irrefl 0), fun ad h => (by cases h), rfl, ?_, hd'⟩
      rw [begL_upd hw.1 hw.2.1 hw.2.2.1, hfxd]
      exact St.drop (R := [_]) ((stG.drewN 1).trans st13)
end Go.Proofs.Ytelfmhiaafkimaa
