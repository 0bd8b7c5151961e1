/- When all rests, the document's: what is told at the end. -/
import Derived.Test.YtelfmhiaafkimaaQuietD
import Derived.Test.YtelfmhiaafkimaaApps
namespace Go.Proofs.Ytelfmhiaafkimaa
open Go Go.RowKit Go.VC
set_option linter.unusedSimpArgs false
set_option linter.unusedVariables false
theorem acc_all {n : Nat} {s : QS} : sumN (fun t => (s.ca (t / n) (t % n) : Int) + s.an (t / n) (t % n)) (n * n) = away n s := by
  rw [sum_flat]
  unfold away sum2
  rw [← sumN_plus2]
  refine sumN_congr fun i hi => ?_
  rw [← sumN_plus2]
  refine sumN_congr fun j hj => ?_
  rw [(idx_div hj).1, (idx_div hj).2]
set_option maxRecDepth 8000 in
set_option maxHeartbeats 8000000 in
theorem calm_end : calmBut.1.2.2 := by
  unfold calmBut
  intro A n len cap g w h1 hn hlen rb hrb ob hz0 gl hnn hn36 gc ga m u2 wx k vc hkm hBx hH hok hqb hk
  obtain rfl : k = len := by omega
  have e7 : ((k : Int) < k) = False := eq_false (by omega)
  unfold QuietQ
  have hcl : ((List.range k).map (qcode n g)).length = k := by simp
  have hce : qcodes n g k = ((List.range k).map (qcode n g)).map (Value.int .i64) := by unfold qcodes; rw [List.map_map]; rfl
  rw [hce] at hH
  generalize (List.range k).map (qcode n g) = codes at *
  generalize qst n g k = s at *
  rw [mixF_walk]
  rotate_left
  · kernel_rfl
  simp -dsimp (maxSteps := 2000000) only [Fa.F22, e7, walkJ, VC.Now, VC.vc, VC.lib, VC.mapN_drewN, VC.mapB_drewN, VC.regQ, VC.loopK, VC.reg, VC.opP, VC.opS, VC.opZ, VC.nomulB, VC.pv, VC.thenF, VC.blkF, VC.retF, VC.resV, VC.oneV, VC.evo, VC.bin, VC.binI, VC.cmpI, VC.arithI, VC.ldv, VC.slv, VC.pickP, VC.holds, VC.chainOf, VC.look, VC.junk, VC.put, VC.eff, VC.callee, VC.pureB, VC.rdK, VC.rdKs, VC.okKs, VC.eqKs, VC.fillL, VC.putL, VC.mixF, VC.setAll, Nat.reduceAdd, Nat.reduceSub, Nat.reduceMul, if_true, if_false, ↓reduceIte, forall_const, implies_true, reduceCtorEq, ne_eq, Nat.reduceBNe, Nat.reduceBEq, IntKind.signed, Nat.reduceEqDiff, Nat.reduceLeDiff, Nat.reduceLT, eq_self, Int.reduceEq, Int.reduceLT, Int.reduceLE, Int.reduceAdd, Int.reduceSub, VC.regC_nil, VC.regC_cons, VC.regCK_eq, VC.callQ, VC.tailQ, VC.goCall, VC.chStep]
  have hHl := ((hH.st_add (o := oOwn 4 1 0 nilS []) (Below.refl _ _) (OwnK.nil _ _ _ _) (fun g hg => by cases hg)).hp.st_add (o := oOwn 4 1 0 nilS []) (Below.refl _ _) (OwnK.nil _ _ _ _) (fun g hg => by cases hg)).hp
  refine loop_slots Fa.mix [268] [16, 269, 270, 271, 272, 273, 274, 275, 276, 277, 278, 279, 280, 281, 282, 283, 284, 285, 286] (fun m vs wx => ∃ (j : Nat) (vw vb : Value), j + m = n ∧ vs = [.int .i64 j] ∧ Below rb w wx ∧
      Hp rb ([oOwn 4 1 j vw (worksL s j), oOwn 4 1 j vb (boundL s j)] ++ ([oBox ob [vc, vw, vb, .int .i64 0, .bool s.done], oOwn 24 1 k vc (codes.map (Value.int .i64)), oBox rb [nilS, nilS, nilS, .int .i64 0, .bool false]] ++ DQObs n gl gc ga s)) wx) n (by kernel_rfl) rfl
    ⟨0, nilS, nilS, by omega, rfl, hBx, hHl⟩ ?_
  clear hHl hH hBx
  rintro m2 vs u3 wx2 ⟨j, vw, vb, hjm, rfl, hBx, hH⟩
  rw [mixF_walk]
  rotate_left
  · kernel_rfl
  by_cases hj : j < n
  · have e8 : ((j : Int) < n) = True := eq_true (by omega)
    obtain ⟨t0, t1, t2, t3, _, _, _, _, _, _, _, _, hgl⟩ := recF (p := s.pr j) (hH.get 5 rfl : Recs wx2 gl n 4 (fun i => prL (s.pr i))) hj rfl
    (repeat rw [vc_seq]); refine vc_plain _ fun Q hQ => ?_; simp -dsimp (maxSteps := 2000000) only [Fa.F22, e8, walkJ, VC.Now, VC.vc_skip, VC.vc_ret, VC.vc_exit, VC.vc_block, VC.vc_cond, VC.vc_region, VC.lib, VC.mapN_drewN, VC.mapB_drewN, VC.regQ, VC.loopK, VC.reg, VC.opP, VC.opS, VC.opZ, VC.nomulB, VC.pv, VC.thenF, VC.blkF, VC.retF, VC.resV, VC.oneV, VC.evo, VC.bin, VC.binI, VC.cmpI, VC.arithI, VC.ldv, VC.slv, VC.pickP, VC.holds, VC.chainOf, VC.look, VC.junk, VC.put, VC.eff, VC.callee, VC.pureB, VC.rdK, VC.rdKs, VC.okKs, VC.eqKs, VC.fillL, VC.putL, VC.stW, VC.stOK, VC.mixF, VC.setAll, Nat.reduceAdd, Nat.reduceSub, Nat.reduceMul, if_true, if_false, ↓reduceIte, forall_const, implies_true, reduceCtorEq, ne_eq, Nat.reduceBNe, Nat.reduceBEq, IntKind.signed, Nat.reduceEqDiff, Nat.reduceLeDiff, Nat.reduceLT, eq_self, Int.reduceEq, Int.reduceLT, Int.reduceLE, Int.reduceAdd, Int.reduceSub, VC.regC_nil, VC.regC_cons, VC.regCK_eq, VC.callQ, VC.tailQ, VC.goCall, VC.chStep]
    subst hQ; simp -dsimp (maxSteps := 2000000) only [VC.Now, VC.vc_skip, VC.vc_ret, VC.vc_exit, VC.vc_block, VC.vc_cond, VC.vc_region, VC.lib, VC.mapN_drewN, VC.mapB_drewN, VC.regQ, VC.loopK, VC.reg, VC.opP, VC.opS, VC.opZ, VC.nomulB, VC.pv, VC.thenF, VC.blkF, VC.retF, VC.resV, VC.oneV, VC.evo, VC.bin, VC.binI, VC.cmpI, VC.arithI, VC.ldv, VC.slv, VC.pickP, VC.holds, VC.chainOf, VC.look, VC.junk, VC.put, VC.eff, VC.callee, VC.pureB, VC.rdK, VC.rdKs, VC.okKs, VC.eqKs, VC.fillL, VC.putL, VC.stW, VC.stOK, VC.mixF, VC.setAll, Nat.reduceAdd, Nat.reduceSub, Nat.reduceMul, if_true, if_false, ↓reduceIte, forall_const, implies_true, reduceCtorEq, ne_eq, Nat.reduceBNe, Nat.reduceBEq, IntKind.signed, Nat.reduceEqDiff, Nat.reduceLeDiff, Nat.reduceLT, eq_self, Int.reduceEq, Int.reduceLT, Int.reduceLE, Int.reduceAdd, Int.reduceSub, VC.regC_nil, VC.regC_cons, VC.regCK_eq, VC.callQ, VC.tailQ, VC.goCall, VC.chStep]; (repeat rw [vc_seq]); refine vc_plain _ fun Q hQ => ?_; simp -dsimp (maxSteps := 2000000) only [Fa.F22, e8, VC.Now, VC.vc_skip, VC.vc_ret, VC.vc_exit, VC.vc_block, VC.vc_cond, VC.vc_region, VC.lib, VC.mapN_drewN, VC.mapB_drewN, VC.regQ, VC.loopK, VC.reg, VC.opP, VC.opS, VC.opZ, VC.nomulB, VC.pv, VC.thenF, VC.blkF, VC.retF, VC.resV, VC.oneV, VC.evo, VC.bin, VC.binI, VC.cmpI, VC.arithI, VC.ldv, VC.slv, VC.pickP, VC.holds, VC.chainOf, VC.look, VC.junk, VC.put, VC.eff, VC.callee, VC.pureB, VC.rdK, VC.rdKs, VC.okKs, VC.eqKs, VC.fillL, VC.putL, VC.stW, VC.stOK, VC.mixF, VC.setAll, Nat.reduceAdd, Nat.reduceSub, Nat.reduceMul, if_true, if_false, ↓reduceIte, forall_const, implies_true, reduceCtorEq, ne_eq, Nat.reduceBNe, Nat.reduceBEq, IntKind.signed, Nat.reduceEqDiff, Nat.reduceLeDiff, Nat.reduceLT, eq_self, Int.reduceEq, Int.reduceLT, Int.reduceLE, Int.reduceAdd, Int.reduceSub, VC.regC_nil, VC.regC_cons, VC.regCK_eq, VC.callQ, VC.tailQ, VC.goCall, VC.chStep]
    subst hQ
    simp -dsimp (maxSteps := 2000000) only [Fa.F22, VC.Now, VC.vc_skip, VC.vc_ret, VC.vc_exit, VC.vc_block, VC.vc_cond, VC.vc_region, VC.lib, VC.mapN_drewN, VC.mapB_drewN, VC.regQ, VC.loopK, VC.reg, VC.opP, VC.opS, VC.opZ, VC.nomulB, VC.pv, VC.thenF, VC.blkF, VC.retF, VC.resV, VC.oneV, VC.evo, VC.bin, VC.binI, VC.cmpI, VC.arithI, VC.ldv, VC.slv, VC.pickP, VC.holds, VC.chainOf, VC.look, VC.junk, VC.put, VC.eff, VC.callee, VC.pureB, VC.rdK, VC.rdKs, VC.okKs, VC.eqKs, VC.fillL, VC.putL, VC.stW, VC.stOK, VC.mixF, VC.setAll, Nat.reduceAdd, Nat.reduceSub, Nat.reduceMul, if_true, if_false, ↓reduceIte, forall_const, implies_true, reduceCtorEq, ne_eq, Nat.reduceBNe, Nat.reduceBEq, IntKind.signed, Nat.reduceEqDiff, Nat.reduceLeDiff, Nat.reduceLT, eq_self, Int.reduceEq, Int.reduceLT, Int.reduceLE, Int.reduceAdd, Int.reduceSub, VC.regC_nil, VC.regC_cons, VC.regCK_eq, VC.callQ, VC.tailQ, VC.goCall, VC.chStep]
    (repeat rw [vc_seq]); refine vc_plain _ fun Q hQ => ?_; simp -dsimp (maxSteps := 2000000) only [Fa.F22, VC.Now, VC.vc_skip, VC.vc_ret, VC.vc_exit, VC.vc_block, VC.vc_cond, VC.vc_region, VC.lib, VC.mapN_drewN, VC.mapB_drewN, VC.regQ, VC.loopK, VC.reg, VC.opP, VC.opS, VC.opZ, VC.nomulB, VC.pv, VC.thenF, VC.blkF, VC.retF, VC.resV, VC.oneV, VC.evo, VC.bin, VC.binI, VC.cmpI, VC.arithI, VC.ldv, VC.slv, VC.pickP, VC.holds, VC.chainOf, VC.look, VC.junk, VC.put, VC.eff, VC.callee, VC.pureB, VC.rdK, VC.rdKs, VC.okKs, VC.eqKs, VC.fillL, VC.putL, VC.stW, VC.stOK, VC.mixF, VC.setAll, Nat.reduceAdd, Nat.reduceSub, Nat.reduceMul, if_true, if_false, ↓reduceIte, forall_const, implies_true, reduceCtorEq, ne_eq, Nat.reduceBNe, Nat.reduceBEq, IntKind.signed, Nat.reduceEqDiff, Nat.reduceLeDiff, Nat.reduceLT, eq_self, Int.reduceEq, Int.reduceLT, Int.reduceLE, Int.reduceAdd, Int.reduceSub, VC.regC_nil, VC.regC_cons, VC.regCK_eq, VC.callQ, VC.tailQ, VC.goCall, VC.chStep]
    (repeat rw [vc_seq]); refine vc_plain _ fun Q2 hQ2 => ?_; simp -dsimp (maxSteps := 2000000) only [Fa.F22, rdB_of t0, t0, rdB_of t1, t1, rdI_of t2, t2, rdI_of t3, t3, hgl, Int.toNat_natCast, Nat.zero_add, VC.Now, VC.vc_skip, VC.vc_ret, VC.vc_exit, VC.vc_block, VC.vc_cond, VC.vc_region, VC.lib, VC.mapN_drewN, VC.mapB_drewN, VC.regQ, VC.loopK, VC.reg, VC.opP, VC.opS, VC.opZ, VC.nomulB, VC.pv, VC.thenF, VC.blkF, VC.retF, VC.resV, VC.oneV, VC.evo, VC.bin, VC.binI, VC.cmpI, VC.arithI, VC.ldv, VC.slv, VC.pickP, VC.holds, VC.chainOf, VC.look, VC.junk, VC.put, VC.eff, VC.callee, VC.pureB, VC.rdK, VC.rdKs, VC.okKs, VC.eqKs, VC.fillL, VC.putL, VC.mixF, VC.setAll, Nat.reduceAdd, Nat.reduceSub, Nat.reduceMul, if_true, if_false, ↓reduceIte, forall_const, implies_true, reduceCtorEq, ne_eq, Nat.reduceBNe, Nat.reduceBEq, IntKind.signed, Nat.reduceEqDiff, Nat.reduceLeDiff, Nat.reduceLT, eq_self, Int.reduceEq, Int.reduceLT, Int.reduceLE, Int.reduceAdd, Int.reduceSub, VC.regC_nil, VC.regC_cons, VC.regCK_eq, VC.callQ, VC.tailQ, VC.goCall, VC.chStep]
    refine ⟨⟨by omega, by omega⟩, ?_⟩
    obtain ⟨f1, f2, f3⟩ := boxSt wx2 [.bool false, .bool false, .int .i64 0, .int .i64 0] [.bool (s.pr j).works, .bool (s.pr j).bound, .int .i64 (s.pr j).to, .int .i64 (s.pr j).owes] 138 rfl (by intro v hv; simp at hv; rcases hv with rfl | rfl | rfl | rfl <;> rfl)
    refine ⟨f1, ?_⟩
    clear f1
    have hBy := hBx.trans (f3.mono hH.base)
    have hH2 := hH.below f3
    have nsb : ¬ foot ([oOwn 4 1 j vw (worksL s j), oOwn 4 1 j vb (boundL s j)] ++ ([oBox ob [vc, vw, vb, .int .i64 0, .bool s.done], oOwn 24 1 k vc (codes.map (Value.int .i64)), oBox rb [nilS, nilS, nilS, .int .i64 0, .bool false]] ++ DQObs n gl gc ga s)) wx2.heap.size := fun hf => absurd (hH.foot_lt hf).2 (Nat.lt_irrefl _)
    generalize stW (wx2.alloc (.cells #[.bool false, .bool false, .int .i64 0, .int .i64 0] 138)) ⟨wx2.heap.size, 0, none⟩ 0 [.bool (s.pr j).works, .bool (s.pr j).bound, .int .i64 (s.pr j).to, .int .i64 (s.pr j).owes] = wy at f2 hBy hH2 ⊢
    clear f3 hBx hH
    generalize wx2.heap.size = sb at f2 nsb ⊢
    obtain ⟨Aw, cw, ew, _⟩ := id (hH2.get 0 rfl : OwnK wy 0 4 1 j vw _)
    obtain ⟨Ab, cb, eb, _⟩ := id (hH2.get 1 rfl : OwnK wy 0 4 1 j vb _)
    have bo : Box wy ob _ := hH2.get 2 rfl
    have y1 := bo.at (i := 1) rfl
    have hol := bo.1
    rw [ew] at y1
    have z0 := f2.at (i := 0) rfl
    have hsl := f2.1
    subst hQ2
    simp -dsimp (maxSteps := 2000000) only [Fa.F22, VC.Now, VC.vc_skip, VC.vc_ret, VC.vc_exit, VC.vc_block, VC.vc_cond, VC.vc_region, VC.lib, VC.mapN_drewN, VC.mapB_drewN, VC.regQ, VC.loopK, VC.reg, VC.opP, VC.opS, VC.opZ, VC.nomulB, VC.pv, VC.thenF, VC.blkF, VC.retF, VC.resV, VC.oneV, VC.evo, VC.bin, VC.binI, VC.cmpI, VC.arithI, VC.ldv, VC.slv, VC.pickP, VC.holds, VC.chainOf, VC.look, VC.junk, VC.put, VC.eff, VC.callee, VC.pureB, VC.rdK, VC.rdKs, VC.okKs, VC.eqKs, VC.fillL, VC.putL, VC.stW, VC.stOK, VC.mixF, VC.setAll, Nat.reduceAdd, Nat.reduceSub, Nat.reduceMul, if_true, if_false, ↓reduceIte, forall_const, implies_true, reduceCtorEq, ne_eq, Nat.reduceBNe, Nat.reduceBEq, IntKind.signed, Nat.reduceEqDiff, Nat.reduceLeDiff, Nat.reduceLT, eq_self, Int.reduceEq, Int.reduceLT, Int.reduceLE, Int.reduceAdd, Int.reduceSub, VC.regC_nil, VC.regC_cons, VC.regCK_eq, VC.callQ, VC.tailQ, VC.goCall, VC.chStep]
    (repeat rw [vc_seq]); refine vc_plain _ fun Q2 hQ2 => ?_; simp -dsimp (maxSteps := 2000000) only [Fa.F22, rdSA_of y1, rdSN_of y1, rdSC_of y1, y1, hol, rdB_of z0, z0, hsl, VC.Now, VC.vc_skip, VC.vc_ret, VC.vc_exit, VC.vc_block, VC.vc_cond, VC.vc_region, VC.lib, VC.mapN_drewN, VC.mapB_drewN, VC.regQ, VC.loopK, VC.reg, VC.opP, VC.opS, VC.opZ, VC.nomulB, VC.pv, VC.thenF, VC.blkF, VC.retF, VC.resV, VC.oneV, VC.evo, VC.bin, VC.binI, VC.cmpI, VC.arithI, VC.ldv, VC.slv, VC.pickP, VC.holds, VC.chainOf, VC.look, VC.junk, VC.put, VC.eff, VC.callee, VC.pureB, VC.rdK, VC.rdKs, VC.okKs, VC.eqKs, VC.fillL, VC.putL, VC.stW, VC.stOK, VC.mixF, VC.setAll, Nat.reduceAdd, Nat.reduceSub, Nat.reduceMul, if_true, if_false, ↓reduceIte, forall_const, implies_true, reduceCtorEq, ne_eq, Nat.reduceBNe, Nat.reduceBEq, IntKind.signed, Nat.reduceEqDiff, Nat.reduceLeDiff, Nat.reduceLT, eq_self, Int.reduceEq, Int.reduceLT, Int.reduceLE, Int.reduceAdd, Int.reduceSub, VC.regC_nil, VC.regC_cons, VC.regCK_eq, VC.callQ, VC.tailQ, VC.goCall, VC.chStep]
    refine OPW_appK (v := vw) rfl Fa.apI45 (by rw [ew]; rfl) rfl rfl (by simp [Value.oneCell']) (hH2.get 0 rfl) (Nat.zero_le _) (by omega) (by decide) fun v5 w5 ho5 hg5 hst5 => ?_
    rw [← worksL_succ] at ho5
    obtain ⟨⟨r1, r2⟩, st6⟩ := hH2.growField 2 0 rfl rfl (by decide) ho5 hg5 hst5 1 (by show 1 < 5; omega)
    obtain ⟨A5, c5, rfl, _⟩ := id ho5
    have hw6 : ob < w5.heap.size := by simpa using (st6.hp.get 2 rfl : Box _ ob _).1
    rw [VC.Now, VC.seqK_eq]
    simp -dsimp (maxSteps := 2000000) only [Fa.F22, hw6, VC.Now, VC.vc_skip, VC.vc_ret, VC.vc_exit, VC.vc_block, VC.vc_cond, VC.vc_region, VC.lib, VC.mapN_drewN, VC.mapB_drewN, VC.regQ, VC.loopK, VC.reg, VC.opP, VC.opS, VC.opZ, VC.nomulB, VC.pv, VC.thenF, VC.blkF, VC.retF, VC.resV, VC.oneV, VC.evo, VC.bin, VC.binI, VC.cmpI, VC.arithI, VC.ldv, VC.slv, VC.pickP, VC.holds, VC.chainOf, VC.look, VC.junk, VC.put, VC.eff, VC.callee, VC.pureB, VC.rdK, VC.rdKs, VC.okKs, VC.eqKs, VC.fillL, VC.putL, VC.stW, VC.stOK, VC.mixF, VC.setAll, Nat.reduceAdd, Nat.reduceSub, Nat.reduceMul, if_true, if_false, ↓reduceIte, forall_const, implies_true, reduceCtorEq, ne_eq, Nat.reduceBNe, Nat.reduceBEq, IntKind.signed, Nat.reduceEqDiff, Nat.reduceLeDiff, Nat.reduceLT, eq_self, Int.reduceEq, Int.reduceLT, Int.reduceLE, Int.reduceAdd, Int.reduceSub, VC.regC_nil, VC.regC_cons, VC.regCK_eq, VC.callQ, VC.tailQ, VC.goCall, VC.chStep]
    refine ⟨⟨r1, r2⟩, ?_⟩
    have f6 := f2.agree st6.agree nsb
    have hB6 := hBy.trans (st6.below hH2)
    have hH6 : Hp rb ([oOwn 4 1 (j + 1) (.slice A5 (j + 1) c5) (worksL s (j + 1)), oOwn 4 1 j vb (boundL s j)] ++ ([oBox ob [vc, .slice A5 (j + 1) c5, vb, .int .i64 0, .bool s.done], oOwn 24 1 k vc (codes.map (Value.int .i64)), oBox rb [nilS, nilS, nilS, .int .i64 0, .bool false]] ++ DQObs n gl gc ga s)) _ := st6.hp
    generalize w5.setCell ⟨ob, 1, none⟩ (.slice A5 (j + 1) c5) = w6 at hH6 hB6 f6 ⊢
    clear st6 r1 r2 ho5 hg5 hst5 hw6 hH2 hBy f2 y1 bo hol z0 hsl
    have bo : Box w6 ob _ := hH6.get 2 rfl
    have y2 := bo.at (i := 2) rfl
    have hol := bo.1
    rw [eb] at y2
    have z1 := f6.at (i := 1) rfl
    have hsl := f6.1
    subst hQ2
    simp -dsimp (maxSteps := 2000000) only [Fa.F22, rdSA_of y2, rdSN_of y2, rdSC_of y2, y2, hol, rdB_of z1, z1, hsl, VC.Now, VC.vc, VC.lib, VC.mapN_drewN, VC.mapB_drewN, VC.regQ, VC.loopK, VC.reg, VC.opP, VC.opS, VC.opZ, VC.nomulB, VC.pv, VC.thenF, VC.blkF, VC.retF, VC.resV, VC.oneV, VC.evo, VC.bin, VC.binI, VC.cmpI, VC.arithI, VC.ldv, VC.slv, VC.pickP, VC.holds, VC.chainOf, VC.look, VC.junk, VC.put, VC.eff, VC.callee, VC.pureB, VC.rdK, VC.rdKs, VC.okKs, VC.eqKs, VC.fillL, VC.putL, VC.stW, VC.stOK, VC.mixF, VC.setAll, Nat.reduceAdd, Nat.reduceSub, Nat.reduceMul, if_true, if_false, ↓reduceIte, forall_const, implies_true, reduceCtorEq, ne_eq, Nat.reduceBNe, Nat.reduceBEq, IntKind.signed, Nat.reduceEqDiff, Nat.reduceLeDiff, Nat.reduceLT, eq_self, Int.reduceEq, Int.reduceLT, Int.reduceLE, Int.reduceAdd, Int.reduceSub, VC.regC_nil, VC.regC_cons, VC.regCK_eq, VC.callQ, VC.tailQ, VC.goCall, VC.chStep]
    refine OPW_appK (v := vb) rfl Fa.apI45 (by rw [eb]; rfl) rfl rfl (by simp [Value.oneCell']) (hH6.get 1 rfl) (Nat.zero_le _) (by omega) (by decide) fun v7 w7 ho7 hg7 hst7 => ?_
    rw [← boundL_succ] at ho7
    obtain ⟨⟨r1, r2⟩, st8⟩ := hH6.growField 2 1 rfl rfl (by decide) ho7 hg7 hst7 2 (by show 2 < 5; omega)
    obtain ⟨A7, c7, rfl, _⟩ := id ho7
    have hw8 : ob < w7.heap.size := by simpa using (st8.hp.get 2 rfl : Box _ ob _).1
    rw [VC.Now, VC.seqK_eq]
    simp -dsimp (maxSteps := 2000000) only [Fa.F22, hw8, VC.Now, VC.vc, VC.lib, VC.mapN_drewN, VC.mapB_drewN, VC.regQ, VC.loopK, VC.reg, VC.opP, VC.opS, VC.opZ, VC.nomulB, VC.pv, VC.thenF, VC.blkF, VC.retF, VC.resV, VC.oneV, VC.evo, VC.bin, VC.binI, VC.cmpI, VC.arithI, VC.ldv, VC.slv, VC.pickP, VC.holds, VC.chainOf, VC.look, VC.junk, VC.put, VC.eff, VC.callee, VC.pureB, VC.rdK, VC.rdKs, VC.okKs, VC.eqKs, VC.fillL, VC.putL, VC.stW, VC.stOK, VC.mixF, VC.setAll, Nat.reduceAdd, Nat.reduceSub, Nat.reduceMul, if_true, if_false, ↓reduceIte, forall_const, implies_true, reduceCtorEq, ne_eq, Nat.reduceBNe, Nat.reduceBEq, IntKind.signed, Nat.reduceEqDiff, Nat.reduceLeDiff, Nat.reduceLT, eq_self, Int.reduceEq, Int.reduceLT, Int.reduceLE, Int.reduceAdd, Int.reduceSub, VC.regC_nil, VC.regC_cons, VC.regCK_eq, VC.callQ, VC.tailQ, VC.goCall, VC.chStep]
    refine ⟨⟨r1, r2⟩, ?_⟩
    subst hQ
    simp -dsimp (maxSteps := 2000000) only [Fa.F22, VC.Now, VC.vc, VC.lib, VC.mapN_drewN, VC.mapB_drewN, VC.regQ, VC.loopK, VC.reg, VC.opP, VC.opS, VC.opZ, VC.nomulB, VC.pv, VC.thenF, VC.blkF, VC.retF, VC.resV, VC.oneV, VC.evo, VC.bin, VC.binI, VC.cmpI, VC.arithI, VC.ldv, VC.slv, VC.pickP, VC.holds, VC.chainOf, VC.look, VC.junk, VC.put, VC.eff, VC.callee, VC.pureB, VC.rdK, VC.rdKs, VC.okKs, VC.eqKs, VC.fillL, VC.putL, VC.stW, VC.stOK, VC.mixF, VC.setAll, Nat.reduceAdd, Nat.reduceSub, Nat.reduceMul, if_true, if_false, ↓reduceIte, forall_const, implies_true, reduceCtorEq, ne_eq, Nat.reduceBNe, Nat.reduceBEq, IntKind.signed, Nat.reduceEqDiff, Nat.reduceLeDiff, Nat.reduceLT, eq_self, Int.reduceEq, Int.reduceLT, Int.reduceLE, Int.reduceAdd, Int.reduceSub, VC.regC_nil, VC.regC_cons, VC.regCK_eq, VC.callQ, VC.tailQ, VC.goCall, VC.chStep]
    exact ⟨fits_i64_nat (by omega), SAME.intro (by kernel_rfl), m2 - 1, by omega, j + 1, .slice A5 (j + 1) c5, .slice A7 (j + 1) c7, by omega, rfl, hB6.trans (st8.below hH6), st8.hp⟩
  · obtain rfl : j = n := by omega
    have e8 : ((j : Int) < j) = False := eq_false (by omega)
    simp -dsimp (maxSteps := 2000000) only [Fa.F22, e8, walkJ, VC.Now, VC.vc, VC.lib, VC.mapN_drewN, VC.mapB_drewN, VC.regQ, VC.loopK, VC.reg, VC.opP, VC.opS, VC.opZ, VC.nomulB, VC.pv, VC.thenF, VC.blkF, VC.retF, VC.resV, VC.oneV, VC.evo, VC.bin, VC.binI, VC.cmpI, VC.arithI, VC.ldv, VC.slv, VC.pickP, VC.holds, VC.chainOf, VC.look, VC.junk, VC.put, VC.eff, VC.callee, VC.pureB, VC.rdK, VC.rdKs, VC.okKs, VC.eqKs, VC.fillL, VC.putL, VC.mixF, VC.setAll, Nat.reduceAdd, Nat.reduceSub, Nat.reduceMul, if_true, if_false, ↓reduceIte, forall_const, implies_true, reduceCtorEq, ne_eq, Nat.reduceBNe, Nat.reduceBEq, IntKind.signed, Nat.reduceEqDiff, Nat.reduceLeDiff, Nat.reduceLT, eq_self, Int.reduceEq, Int.reduceLT, Int.reduceLE, Int.reduceAdd, Int.reduceSub, VC.regC_nil, VC.regC_cons, VC.regCK_eq, VC.callQ, VC.tailQ, VC.goCall, VC.chStep]
    refine loop_slots Fa.mix [17] [287, 288, 289, 290, 291, 292, 293, 294, 295, 296, 297, 298, 299, 300, 301, 302, 303, 304, 305, 306] (fun m vs wx => ∃ i : Nat, i + m = j * j ∧ vs = [.int .i64 i] ∧ Below rb w wx ∧
        Hp rb ([oOwn 4 1 j vw (worksL s j), oOwn 4 1 j vb (boundL s j)] ++ ([oBox ob [vc, vw, vb, .int .i64 (sumN (fun t => (s.ca (t / j) (t % j) : Int) + s.an (t / j) (t % j)) i), .bool s.done], oOwn 24 1 k vc (codes.map (Value.int .i64)), oBox rb [nilS, nilS, nilS, .int .i64 0, .bool false]] ++ DQObs j gl gc ga s)) wx) (j * j) (by kernel_rfl) rfl
      ⟨0, by omega, rfl, hBx, hH⟩ ?_
    clear hH hBx
    rintro m3 vs u4 wx3 ⟨i, him, rfl, hBx, hH⟩
    have wnn : IntKind.i64.wrap ((j : Int) * j) = ((j * j : Nat) : Int) := wrap64 hnn (by omega)
    have hca := hqb.ca
    have han := hqb.an
    have hac : ∀ i, 0 ≤ sumN (fun t => (s.ca (t / j) (t % j) : Int) + s.an (t / j) (t % j)) i ∧ sumN (fun t => (s.ca (t / j) (t % j) : Int) + s.an (t / j) (t % j)) i ≤ i * 1000 := fun i => ⟨sumN_nonneg (fun t => by omega) i, sumN_le (fun t => by have := hca (t / j) (t % j); have := han (t / j) (t % j); omega) i⟩
    have hai := hac i
    have bo : Box wx3 ob _ := hH.get 2 rfl
    have hol := bo.1
    by_cases hi : i < j * j
    · have e9 : ((i : Int) < ((j * j : Nat) : Int)) = True := eq_true (by omega)
      have hdm : i / j * j + i % j = i := by rw [Nat.mul_comm]; exact Nat.div_add_mod i j
      have hjp : 0 < j := by omega
      have hlt : i / j < j := Nat.div_lt_of_lt_mul hi
      have hlm : i % j < j := Nat.mod_lt _ hjp
      obtain ⟨c1, _, _, hgc⟩ := tabF (hH.get 6 rfl : Recs wx3 gc j j (fun i => rowL j (s.ca i))) hlt hlm
      obtain ⟨c2, _, _, hga⟩ := tabF (hH.get 7 rfl : Recs wx3 ga j j (fun i => rowL j (s.an i))) hlt hlm
      rw [hdm] at c1 c2
      have b1 := hca (i / j) (i % j)
      have b2 := han (i / j) (i % j)
      have hsc : sumN (fun t => (s.ca (t / j) (t % j) : Int) + s.an (t / j) (t % j)) (i + 1) = sumN (fun t => (s.ca (t / j) (t % j) : Int) + s.an (t / j) (t % j)) i + s.ca (i / j) (i % j) + s.an (i / j) (i % j) := by
        show sumN (fun t => (s.ca (t / j) (t % j) : Int) + s.an (t / j) (t % j)) i + ((s.ca (i / j) (i % j) : Int) + s.an (i / j) (i % j)) = _
        omega
      generalize sumN (fun t => (s.ca (t / j) (t % j) : Int) + s.an (t / j) (t % j)) i = acc at *
      generalize s.ca (i / j) (i % j) = ci at *
      generalize s.an (i / j) (i % j) = di at *
      have y3 := bo.at (i := 3) rfl
      have f3 := bo.soft (i := 3) (by show 3 < 5; omega)
      have k3 : (wx3.cell? ⟨ob, 3, none⟩).isSome = true := by rw [y3]; rfl
      simp -dsimp (maxSteps := 2000000) only [Fa.F22, wnn, e9, walkJ, VC.Now, VC.vc, VC.lib, VC.mapN_drewN, VC.mapB_drewN, VC.regQ, VC.loopK, VC.reg, VC.opP, VC.opS, VC.opZ, VC.nomulB, VC.pv, VC.thenF, VC.blkF, VC.retF, VC.resV, VC.oneV, VC.evo, VC.bin, VC.binI, VC.cmpI, VC.arithI, VC.ldv, VC.slv, VC.pickP, VC.holds, VC.chainOf, VC.look, VC.junk, VC.put, VC.eff, VC.callee, VC.pureB, VC.rdK, VC.rdKs, VC.okKs, VC.eqKs, VC.fillL, VC.putL, VC.stW, VC.stOK, VC.mixF, VC.setAll, Nat.reduceAdd, Nat.reduceSub, Nat.reduceMul, if_true, if_false, ↓reduceIte, forall_const, implies_true, reduceCtorEq, ne_eq, Nat.reduceBNe, Nat.reduceBEq, IntKind.signed, Nat.reduceEqDiff, Nat.reduceLeDiff, Nat.reduceLT, eq_self, Int.reduceEq, Int.reduceLT, Int.reduceLE, Int.reduceAdd, Int.reduceSub, VC.regC_nil, VC.regC_cons, VC.regCK_eq, VC.callQ, VC.tailQ, VC.goCall, VC.chStep]
      refine WP_held 13 (fun _ => False) (.take 0 (.take 1 (.take 2 (.take 3 (.take 4 (.take 5 (.take 6 (.take 7 (.take 8 (.take 9 (.take 10 (.take 11 (.take 12 (.one 13 .done)))))))))))))) Fa.mix (by kernel_rfl) rfl ?_
      have hHd := hH.drewN 1
      have st := hHd.setBox 2 rfl 3 (.int .i64 (acc + ci + di))
      simp -dsimp (maxSteps := 2000000) only [VC.heldF_done, VC.heldF_last, VC.planF_done, VC.planF_take, VC.planF_one, VC.planF_two, VC.planK_eq, VC.heldF_take, VC.heldF_one, VC.heldF_two, VC.heldF_twoL, VC.heldK_eq, VC.okRd, Fa.F22, rdI_of y3, y3, hol, rdI_of c1, c1, hgc, rdI_of c2, c2, hga, f3, k3, Int.toNat_natCast, Nat.zero_add, VC.Now, VC.vc, VC.lib, VC.mapN_drewN, VC.mapB_drewN, VC.regQ, VC.loopK, VC.reg, VC.opP, VC.opS, VC.opZ, VC.nomulB, VC.pv, VC.thenF, VC.blkF, VC.retF, VC.resV, VC.oneV, VC.evo, VC.bin, VC.binI, VC.cmpI, VC.arithI, VC.ldv, VC.slv, VC.pickP, VC.holds, VC.chainOf, VC.look, VC.junk, VC.put, VC.eff, VC.callee, VC.pureB, VC.rdK, VC.rdKs, VC.okKs, VC.eqKs, VC.fillL, VC.putL, VC.stW, VC.stOK, VC.mixF, VC.setAll, Nat.reduceAdd, Nat.reduceSub, Nat.reduceMul, if_true, if_false, ↓reduceIte, forall_const, implies_true, reduceCtorEq, ne_eq, Nat.reduceBNe, Nat.reduceBEq, IntKind.signed, Nat.reduceEqDiff, Nat.reduceLeDiff, Nat.reduceLT, eq_self, Int.reduceEq, Int.reduceLT, Int.reduceLE, Int.reduceAdd, Int.reduceSub, VC.regC_nil, VC.regC_cons, VC.regCK_eq, VC.callQ, VC.tailQ, VC.goCall, VC.chStep]
      have hBw := (below_drewN hBx 1).trans (st.below hHd)
      refine ⟨⟨by omega, by omega⟩, fits_i64 (by omega) (by omega), ⟨by omega, by omega⟩, fits_i64 (by omega) (by omega), fits_i64_nat (by omega), SAME.intro (by kernel_rfl), m3 - 1, by omega, i + 1, by omega, rfl, hBw, ?_⟩
      rw [hsc]
      exact st.hp
    · obtain rfl : i = j * j := by omega
      have e9 : (((j * j : Nat) : Int) < ((j * j : Nat) : Int)) = False := eq_false (by omega)
      rw [acc_all] at hH bo
      obtain ⟨Ac, cc, ec, hRc⟩ := apSv (hH.get 3 rfl : OwnK _ 0 24 1 k vc _)
      obtain ⟨Aw, cw, ew, hRw⟩ := apSv (hH.get 0 rfl : OwnK _ 0 4 1 j vw _)
      obtain ⟨Ab, cb, eb, hRb⟩ := apSv (hH.get 1 rfl : OwnK _ 0 4 1 j vb _)
      have lc : (codes.map (Value.int .i64)).length = k := by rw [List.length_map]; exact hcl
      have lw : (worksL s j).length = j := by simp
      have lb : (boundL s j).length = j := by simp
      rw [lc] at ec
      rw [lw] at ew
      rw [lb] at eb
      have bo1 : Box wx3 ob [.slice Ac k cc, .slice Aw j cw, .slice Ab j cb, .int .i64 (away j s), .bool s.done] := by rw [← ec, ← ew, ← eb]; exact bo
      have b0 := bo1.at (i := 0) rfl
      have b1 := bo1.at (i := 1) rfl
      have b2 := bo1.at (i := 2) rfl
      have b3 := bo1.at (i := 3) rfl
      have b4 := bo1.at (i := 4) rfl
      obtain ⟨ok, st2⟩ := hH.allBox 4 rfl (vs := [.slice Ac k cc, .slice Aw j cw, .slice Ab j cb, .int .i64 (away j s), .bool s.done]) rfl (by intro v hv; simp at hv; rcases hv with rfl | rfl | rfl | rfl | rfl <;> rfl)
      have rb5 : Box _ rb [.slice Ac k cc, .slice Aw j cw, .slice Ab j cb, .int .i64 (away j s), .bool s.done] := st2.hp.get 4 rfl
      have t0 := rb5.at (i := 0) rfl
      have t1 := rb5.at (i := 1) rfl
      have t2 := rb5.at (i := 2) rfl
      have t3 := rb5.at (i := 3) rfl
      have t4 := rb5.at (i := 4) rfl
      simp -dsimp (maxSteps := 2000000) only [Fa.F22, wnn, e9, walkJ, hol, rdSA_of b0, rdSN_of b0, rdSC_of b0, b0, rdSA_of b1, rdSN_of b1, rdSC_of b1, b1, rdSA_of b2, rdSN_of b2, rdSC_of b2, b2, rdI_of b3, b3, rdB_of b4, b4, rdSA_of t0, rdSN_of t0, rdSC_of t0, t0, rdSA_of t1, rdSN_of t1, rdSC_of t1, t1, rdSA_of t2, rdSN_of t2, rdSC_of t2, t2, rdI_of t3, t3, rdB_of t4, t4, VC.Now, VC.vc, VC.lib, VC.mapN_drewN, VC.mapB_drewN, VC.regQ, VC.loopK, VC.reg, VC.opP, VC.opS, VC.opZ, VC.nomulB, VC.pv, VC.thenF, VC.blkF, VC.retF, VC.resV, VC.oneV, VC.evo, VC.bin, VC.binI, VC.cmpI, VC.arithI, VC.ldv, VC.slv, VC.pickP, VC.holds, VC.chainOf, VC.look, VC.junk, VC.put, VC.eff, VC.callee, VC.pureB, VC.rdK, VC.rdKs, VC.okKs, VC.eqKs, VC.fillL, VC.putL, VC.mixF, VC.setAll, Nat.reduceAdd, Nat.reduceSub, Nat.reduceMul, if_true, if_false, ↓reduceIte, forall_const, implies_true, reduceCtorEq, ne_eq, Nat.reduceBNe, Nat.reduceBEq, IntKind.signed, Nat.reduceEqDiff, Nat.reduceLeDiff, Nat.reduceLT, eq_self, Int.reduceEq, Int.reduceLT, Int.reduceLE, Int.reduceAdd, Int.reduceSub, VC.regC_nil, VC.regC_cons, VC.regCK_eq, VC.callQ, VC.tailQ, VC.goCall, VC.chStep]
      have q0 := (st2.hp.get 3 rfl : OwnK _ 0 24 1 k vc _)
      have q1 := (st2.hp.get 0 rfl : OwnK _ 0 4 1 j vw _)
      have q2 := (st2.hp.get 1 rfl : OwnK _ 0 4 1 j vb _)
      have n0 : ∀ x, vc.ownBlock = some x → rb ≤ x := fun x hx => (hH.lt 3 rfl hx).1
      have n1 : ∀ x, vw.ownBlock = some x → rb ≤ x := fun x hx => (hH.lt 0 rfl hx).1
      have n2 : ∀ x, vb.ownBlock = some x → rb ≤ x := fun x hx => (hH.lt 1 rfl hx).1
      rw [ec] at q0 n0
      rw [ew] at q1 n1
      rw [eb] at q2 n2
      refine ⟨ok, _, rfl, ⟨Ac, cc, Aw, cw, Ab, cb, rfl, hcl, q0.rd.2, q1.rd.2, q2.rd.2⟩, ?_, by rw [hrb]; exact hBx.trans (st2.below hH)⟩
      rw [hrb]
      intro cs hcs A0 n0' c0 hm ad had
      injection hcs with hcs
      subst hcs
      subst had
      simp at hm
      rcases hm with ⟨hm, _, _⟩ | ⟨hm, _, _⟩ | ⟨hm, _, _⟩
      · subst hm; exact n0 _ rfl
      · subst hm; exact n1 _ rfl
      · subst hm; exact n2 _ rfl
end Go.Proofs.Ytelfmhiaafkimaa
