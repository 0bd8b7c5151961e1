/- When all rests, the document's: a step of rest. -/
import Derived.Test.YtelfmhiaafkimaaQuietD
namespace Go.Proofs.Ytelfmhiaafkimaa
open Go Go.RowKit Go.VC
set_option linter.unusedSimpArgs false
set_option linter.unusedVariables false
set_option maxRecDepth 8000 in
set_option maxHeartbeats 8000000 in
theorem calm_rest : calmBut.1.1 := by
  unfold calmBut
  intro n len cap w h1 hn hlen rb ob gl hnn hn36 gc ga u2 k vc hk b o s hok hqb c wy hBy sb f2 z0 z1 z2 hsl Q3 k1 e1 k2 e2 q1 a1 q2 a2 k3 e3 cl hH2 nsb hcut
  obtain ⟨x, hx0⟩ : ∃ x : Nat, c.who = x := ⟨c.who.toNat, by omega⟩
  have hxn : x < n := by omega
  have hxt : c.who.toNat = x := by omega
  have hqq := qsame hok (c := c) (by omega) (by omega)
  rw [hxt] at hqq
  obtain ⟨hq2, hq1⟩ := hqq
  have hqbd := qb_does (a := x) (b := c.other.toNat) (kind := c.kind) hqb (fun hk => by omega)
  have hmid := qmid_does (a := x) (b := c.other.toNat) (kind := c.kind) hok hxn (fun hk => ⟨by omega, by omega⟩)
  rw [hx0] at z1 a1 a2
  (repeat rw [vc_seq]); refine vc_plain _ fun Q4 hQ4 => ?_; simp -dsimp (maxSteps := 2000000) only [Fa.F22, e1, e2, rdI_of z0, z0, hsl, undef, tu, uf, ul, ur, VC.Now, VC.vc_skip, VC.vc_ret, VC.vc_exit, VC.vc_block, VC.vc_cond, VC.vc_region, VC.lib, VC.mapN_drewN, VC.mapB_drewN, VC.regQ, VC.loopK, VC.reg, VC.opP, VC.opS, VC.opZ, VC.nomulB, VC.pv, VC.thenF, VC.blkF, VC.retF, VC.resV, VC.oneV, VC.evo, VC.bin, VC.binI, VC.cmpI, VC.arithI, VC.ldv, VC.slv, VC.pickP, VC.holds, VC.chainOf, VC.look, VC.junk, VC.put, VC.eff, VC.callee, VC.pureB, VC.rdK, VC.rdKs, VC.okKs, VC.eqKs, VC.fillL, VC.putL, VC.stW, VC.stOK, VC.mixF, VC.setAll, Nat.reduceAdd, Nat.reduceSub, Nat.reduceMul, if_true, if_false, ↓reduceIte, forall_const, implies_true, reduceCtorEq, ne_eq, Nat.reduceBNe, Nat.reduceBEq, IntKind.signed, Nat.reduceEqDiff, Nat.reduceLeDiff, Nat.reduceLT, eq_self, Int.reduceEq, Int.reduceLT, Int.reduceLE, Int.reduceAdd, Int.reduceSub, VC.regC_nil, VC.regC_cons, VC.regCK_eq, VC.callQ, VC.tailQ, VC.goCall, VC.chStep]
  intro u6
  subst hQ4
  simp -dsimp (maxSteps := 2000000) only [Fa.F22, VC.Now, VC.vc_skip, VC.vc_ret, VC.vc_exit, VC.vc_block, VC.vc_cond, VC.vc_region, VC.lib, VC.mapN_drewN, VC.mapB_drewN, VC.regQ, VC.loopK, VC.reg, VC.opP, VC.opS, VC.opZ, VC.nomulB, VC.pv, VC.thenF, VC.blkF, VC.retF, VC.resV, VC.oneV, VC.evo, VC.bin, VC.binI, VC.cmpI, VC.arithI, VC.ldv, VC.slv, VC.pickP, VC.holds, VC.chainOf, VC.look, VC.junk, VC.put, VC.eff, VC.callee, VC.pureB, VC.rdK, VC.rdKs, VC.okKs, VC.eqKs, VC.fillL, VC.putL, VC.stW, VC.stOK, VC.mixF, VC.setAll, Nat.reduceAdd, Nat.reduceSub, Nat.reduceMul, if_true, if_false, ↓reduceIte, forall_const, implies_true, reduceCtorEq, ne_eq, Nat.reduceBNe, Nat.reduceBEq, IntKind.signed, Nat.reduceEqDiff, Nat.reduceLeDiff, Nat.reduceLT, eq_self, Int.reduceEq, Int.reduceLT, Int.reduceLE, Int.reduceAdd, Int.reduceSub, VC.regC_nil, VC.regC_cons, VC.regCK_eq, VC.callQ, VC.tailQ, VC.goCall, VC.chStep]
  (repeat rw [vc_seq]); refine vc_plain _ fun Q4 hQ4 => ?_; simp -dsimp (maxSteps := 2000000) only [Fa.F22, e1, e2, rdI_of z0, z0, rdI_of z1, z1, rdI_of z2, z2, hsl, a1, a2, e3, undef, tu, uf, ul, ur, VC.Now, VC.vc_skip, VC.vc_ret, VC.vc_exit, VC.vc_block, VC.vc_cond, VC.vc_region, VC.lib, VC.mapN_drewN, VC.mapB_drewN, VC.regQ, VC.loopK, VC.reg, VC.opP, VC.opS, VC.opZ, VC.nomulB, VC.pv, VC.thenF, VC.blkF, VC.retF, VC.resV, VC.oneV, VC.evo, VC.bin, VC.binI, VC.cmpI, VC.arithI, VC.ldv, VC.slv, VC.pickP, VC.holds, VC.chainOf, VC.look, VC.junk, VC.put, VC.eff, VC.callee, VC.pureB, VC.rdK, VC.rdKs, VC.okKs, VC.eqKs, VC.fillL, VC.putL, VC.stW, VC.stOK, VC.mixF, VC.setAll, Nat.reduceAdd, Nat.reduceSub, Nat.reduceMul, if_true, if_false, ↓reduceIte, forall_const, implies_true, reduceCtorEq, ne_eq, Nat.reduceBNe, Nat.reduceBEq, IntKind.signed, Nat.reduceEqDiff, Nat.reduceLeDiff, Nat.reduceLT, eq_self, Int.reduceEq, Int.reduceLT, Int.reduceLE, Int.reduceAdd, Int.reduceSub, VC.regC_nil, VC.regC_cons, VC.regCK_eq, VC.callQ, VC.tailQ, VC.goCall, VC.chStep]
  intro u7
  subst hQ4
  simp -dsimp (maxSteps := 2000000) only [Fa.F22, VC.Now, VC.vc_skip, VC.vc_ret, VC.vc_exit, VC.vc_block, VC.vc_cond, VC.vc_region, VC.lib, VC.mapN_drewN, VC.mapB_drewN, VC.regQ, VC.loopK, VC.reg, VC.opP, VC.opS, VC.opZ, VC.nomulB, VC.pv, VC.thenF, VC.blkF, VC.retF, VC.resV, VC.oneV, VC.evo, VC.bin, VC.binI, VC.cmpI, VC.arithI, VC.ldv, VC.slv, VC.pickP, VC.holds, VC.chainOf, VC.look, VC.junk, VC.put, VC.eff, VC.callee, VC.pureB, VC.rdK, VC.rdKs, VC.okKs, VC.eqKs, VC.fillL, VC.putL, VC.stW, VC.stOK, VC.mixF, VC.setAll, Nat.reduceAdd, Nat.reduceSub, Nat.reduceMul, if_true, if_false, ↓reduceIte, forall_const, implies_true, reduceCtorEq, ne_eq, Nat.reduceBNe, Nat.reduceBEq, IntKind.signed, Nat.reduceEqDiff, Nat.reduceLeDiff, Nat.reduceLT, eq_self, Int.reduceEq, Int.reduceLT, Int.reduceLE, Int.reduceAdd, Int.reduceSub, VC.regC_nil, VC.regC_cons, VC.regCK_eq, VC.callQ, VC.tailQ, VC.goCall, VC.chStep]
  (repeat rw [vc_seq]); refine vc_plain _ fun Q4 hQ4 => ?_; simp -dsimp (maxSteps := 2000000) only [Fa.F22, rdI_of z1, z1, hsl, Int.toNat_natCast, Nat.zero_add, VC.Now, VC.vc_skip, VC.vc_ret, VC.vc_exit, VC.vc_block, VC.vc_cond, VC.vc_region, VC.lib, VC.mapN_drewN, VC.mapB_drewN, VC.regQ, VC.loopK, VC.reg, VC.opP, VC.opS, VC.opZ, VC.nomulB, VC.pv, VC.thenF, VC.blkF, VC.retF, VC.resV, VC.oneV, VC.evo, VC.bin, VC.binI, VC.cmpI, VC.arithI, VC.ldv, VC.slv, VC.pickP, VC.holds, VC.chainOf, VC.look, VC.junk, VC.put, VC.eff, VC.callee, VC.pureB, VC.rdK, VC.rdKs, VC.okKs, VC.eqKs, VC.fillL, VC.putL, VC.stW, VC.stOK, VC.mixF, VC.setAll, Nat.reduceAdd, Nat.reduceSub, Nat.reduceMul, if_true, if_false, ↓reduceIte, forall_const, implies_true, reduceCtorEq, ne_eq, Nat.reduceBNe, Nat.reduceBEq, IntKind.signed, Nat.reduceEqDiff, Nat.reduceLeDiff, Nat.reduceLT, eq_self, Int.reduceEq, Int.reduceLT, Int.reduceLE, Int.reduceAdd, Int.reduceSub, VC.regC_nil, VC.regC_cons, VC.regCK_eq, VC.callQ, VC.tailQ, VC.goCall, VC.chStep]
  refine ⟨⟨by omega, by omega⟩, ?_⟩
  subst hQ4; simp -dsimp (maxSteps := 2000000) only [VC.Now, VC.vc_skip, VC.vc_ret, VC.vc_exit, VC.vc_block, VC.vc_cond, VC.vc_region, VC.lib, VC.mapN_drewN, VC.mapB_drewN, VC.regQ, VC.loopK, VC.reg, VC.opP, VC.opS, VC.opZ, VC.nomulB, VC.pv, VC.thenF, VC.blkF, VC.retF, VC.resV, VC.oneV, VC.evo, VC.bin, VC.binI, VC.cmpI, VC.arithI, VC.ldv, VC.slv, VC.pickP, VC.holds, VC.chainOf, VC.look, VC.junk, VC.put, VC.eff, VC.callee, VC.pureB, VC.rdK, VC.rdKs, VC.okKs, VC.eqKs, VC.fillL, VC.putL, VC.stW, VC.stOK, VC.mixF, VC.setAll, Nat.reduceAdd, Nat.reduceSub, Nat.reduceMul, if_true, if_false, ↓reduceIte, forall_const, implies_true, reduceCtorEq, ne_eq, Nat.reduceBNe, Nat.reduceBEq, IntKind.signed, Nat.reduceEqDiff, Nat.reduceLeDiff, Nat.reduceLT, eq_self, Int.reduceEq, Int.reduceLT, Int.reduceLE, Int.reduceAdd, Int.reduceSub, VC.regC_nil, VC.regC_cons, VC.regCK_eq, VC.callQ, VC.tailQ, VC.goCall, VC.chStep]; (repeat rw [vc_seq]); refine vc_plain _ fun Q4 hQ4 => ?_; simp -dsimp (maxSteps := 2000000) only [Fa.F22, rdI_of z1, z1, rdI_of z2, z2, hsl, hsl, VC.Now, VC.vc_skip, VC.vc_ret, VC.vc_exit, VC.vc_block, VC.vc_cond, VC.vc_region, VC.lib, VC.mapN_drewN, VC.mapB_drewN, VC.regQ, VC.loopK, VC.reg, VC.opP, VC.opS, VC.opZ, VC.nomulB, VC.pv, VC.thenF, VC.blkF, VC.retF, VC.resV, VC.oneV, VC.evo, VC.bin, VC.binI, VC.cmpI, VC.arithI, VC.ldv, VC.slv, VC.pickP, VC.holds, VC.chainOf, VC.look, VC.junk, VC.put, VC.eff, VC.callee, VC.pureB, VC.rdK, VC.rdKs, VC.okKs, VC.eqKs, VC.fillL, VC.putL, VC.stW, VC.stOK, VC.mixF, VC.setAll, Nat.reduceAdd, Nat.reduceSub, Nat.reduceMul, if_true, if_false, ↓reduceIte, forall_const, implies_true, reduceCtorEq, ne_eq, Nat.reduceBNe, Nat.reduceBEq, IntKind.signed, Nat.reduceEqDiff, Nat.reduceLeDiff, Nat.reduceLT, eq_self, Int.reduceEq, Int.reduceLT, Int.reduceLE, Int.reduceAdd, Int.reduceSub, VC.regC_nil, VC.regC_cons, VC.regCK_eq, VC.callQ, VC.tailQ, VC.goCall, VC.chStep]
  subst hQ4; simp -dsimp (maxSteps := 2000000) only [VC.Now, VC.vc_skip, VC.vc_ret, VC.vc_exit, VC.vc_block, VC.vc_cond, VC.vc_region, VC.lib, VC.mapN_drewN, VC.mapB_drewN, VC.regQ, VC.loopK, VC.reg, VC.opP, VC.opS, VC.opZ, VC.nomulB, VC.pv, VC.thenF, VC.blkF, VC.retF, VC.resV, VC.oneV, VC.evo, VC.bin, VC.binI, VC.cmpI, VC.arithI, VC.ldv, VC.slv, VC.pickP, VC.holds, VC.chainOf, VC.look, VC.junk, VC.put, VC.eff, VC.callee, VC.pureB, VC.rdK, VC.rdKs, VC.okKs, VC.eqKs, VC.fillL, VC.putL, VC.stW, VC.stOK, VC.mixF, VC.setAll, Nat.reduceAdd, Nat.reduceSub, Nat.reduceMul, if_true, if_false, ↓reduceIte, forall_const, implies_true, reduceCtorEq, ne_eq, Nat.reduceBNe, Nat.reduceBEq, IntKind.signed, Nat.reduceEqDiff, Nat.reduceLeDiff, Nat.reduceLT, eq_self, Int.reduceEq, Int.reduceLT, Int.reduceLE, Int.reduceAdd, Int.reduceSub, VC.regC_nil, VC.regC_cons, VC.regCK_eq, VC.callQ, VC.tailQ, VC.goCall, VC.chStep]; (repeat rw [vc_seq]); refine vc_plain _ fun Q4 hQ4 => ?_; simp -dsimp (maxSteps := 2000000) only [Fa.F22, rdI_of z1, z1, rdI_of z2, z2, hsl, hsl, VC.Now, VC.vc_skip, VC.vc_ret, VC.vc_exit, VC.vc_block, VC.vc_cond, VC.vc_region, VC.lib, VC.mapN_drewN, VC.mapB_drewN, VC.regQ, VC.loopK, VC.reg, VC.opP, VC.opS, VC.opZ, VC.nomulB, VC.pv, VC.thenF, VC.blkF, VC.retF, VC.resV, VC.oneV, VC.evo, VC.bin, VC.binI, VC.cmpI, VC.arithI, VC.ldv, VC.slv, VC.pickP, VC.holds, VC.chainOf, VC.look, VC.junk, VC.put, VC.eff, VC.callee, VC.pureB, VC.rdK, VC.rdKs, VC.okKs, VC.eqKs, VC.fillL, VC.putL, VC.stW, VC.stOK, VC.mixF, VC.setAll, Nat.reduceAdd, Nat.reduceSub, Nat.reduceMul, if_true, if_false, ↓reduceIte, forall_const, implies_true, reduceCtorEq, ne_eq, Nat.reduceBNe, Nat.reduceBEq, IntKind.signed, Nat.reduceEqDiff, Nat.reduceLeDiff, Nat.reduceLT, eq_self, Int.reduceEq, Int.reduceLT, Int.reduceLE, Int.reduceAdd, Int.reduceSub, VC.regC_nil, VC.regC_cons, VC.regCK_eq, VC.callQ, VC.tailQ, VC.goCall, VC.chStep]
  subst hQ4
  simp -dsimp (maxSteps := 2000000) only [Fa.F22, VC.Now, VC.vc_skip, VC.vc_ret, VC.vc_exit, VC.vc_block, VC.vc_cond, VC.vc_region, VC.lib, VC.mapN_drewN, VC.mapB_drewN, VC.regQ, VC.loopK, VC.reg, VC.opP, VC.opS, VC.opZ, VC.nomulB, VC.pv, VC.thenF, VC.blkF, VC.retF, VC.resV, VC.oneV, VC.evo, VC.bin, VC.binI, VC.cmpI, VC.arithI, VC.ldv, VC.slv, VC.pickP, VC.holds, VC.chainOf, VC.look, VC.junk, VC.put, VC.eff, VC.callee, VC.pureB, VC.rdK, VC.rdKs, VC.okKs, VC.eqKs, VC.fillL, VC.putL, VC.stW, VC.stOK, VC.mixF, VC.setAll, Nat.reduceAdd, Nat.reduceSub, Nat.reduceMul, if_true, if_false, ↓reduceIte, forall_const, implies_true, reduceCtorEq, ne_eq, Nat.reduceBNe, Nat.reduceBEq, IntKind.signed, Nat.reduceEqDiff, Nat.reduceLeDiff, Nat.reduceLT, eq_self, Int.reduceEq, Int.reduceLT, Int.reduceLE, Int.reduceAdd, Int.reduceSub, VC.regC_nil, VC.regC_cons, VC.regCK_eq, VC.callQ, VC.tailQ, VC.goCall, VC.chStep]
  rw [vc_seq]
  refine vc_plain _ fun Q5 hQ5 => ?_
  have hJb : okJ ([11, 12, 13, 14] ++ List.range' 38 221) [11] ([12, 13, 14, 38, 39, 40, 41, 42, 43, 44, 45, 46, 47, 48, 49, 50, 51, 52, 53, 54, 55, 56, 57, 58, 59, 60, 61, 62, 63, 64, 65, 66, 67, 68, 69, 70, 71, 72, 73, 74, 75, 76, 77, 78, 79, 80, 81, 82, 83, 84, 85, 86, 87, 88, 89, 90, 91, 92, 93, 94, 95, 96, 97, 98, 99, 100, 101, 102, 103, 104, 105, 106, 107, 108, 109, 110, 111, 112, 113, 114, 115, 116, 117, 118, 119, 120, 121, 122, 123, 124, 125, 126, 127, 128, 129, 130, 131, 132, 133, 134, 135, 136, 137, 138, 139, 140, 141, 142, 143, 144, 145, 146, 147, 148, 149, 150, 151, 152, 153, 154, 155, 156, 157, 158, 159, 160, 161, 162, 163, 164, 165, 166, 167, 168, 169, 170, 171, 172, 173, 174, 175, 176, 177, 178, 179, 180, 181, 182, 183, 184, 185, 186, 187, 188, 189, 190, 191, 192, 193, 194, 195, 196, 197, 198, 199, 200, 201, 202, 203, 204, 205, 206, 207, 208, 209, 210, 211, 212, 213, 214, 215, 216, 217, 218, 219, 220, 221, 222, 223, 224, 225, 226, 227, 228, 229, 230, 231, 232, 233, 234, 235, 236, 237, 238, 239, 240, 241, 242, 243, 244, 245, 246, 247, 248, 249, 250, 251, 252, 253, 254, 255, 256, 257, 258]) = true := by kernel_rfl
  have hJa : okJ ([11] ++ List.range' 96 112) [11] ([96, 97, 98, 99, 100, 101, 102, 103, 104, 105, 106, 107, 108, 109, 110, 111, 112, 113, 114, 115, 116, 117, 118, 119, 120, 121, 122, 123, 124, 125, 126, 127, 128, 129, 130, 131, 132, 133, 134, 135, 136, 137, 138, 139, 140, 141, 142, 143, 144, 145, 146, 147, 148, 149, 150, 151, 152, 153, 154, 155, 156, 157, 158, 159, 160, 161, 162, 163, 164, 165, 166, 167, 168, 169, 170, 171, 172, 173, 174, 175, 176, 177, 178, 179, 180, 181, 182, 183, 184, 185, 186, 187, 188, 189, 190, 191, 192, 193, 194, 195, 196, 197, 198, 199, 200, 201, 202, 203, 204, 205, 206, 207]) = true := by kernel_rfl
  have nsf : ¬ foot ([oBox ob [vc, nilS, nilS, .int .i64 0, .bool s.done], oOwn 24 1 k vc cl, oBox rb [nilS, nilS, nilS, .int .i64 0, .bool false]] ++ DQObs n gl gc ga s) sb := fun hf => absurd (nsb sb hf) (Nat.lt_irrefl _)
  have hdone : (qdoes x c.other.toNat c.kind s).2.done = s.done := qdoes_done
  refine vc_cut [11] [96, 97, 98, 99, 100, 101, 102, 103, 104, 105, 106, 107, 108, 109, 110, 111, 112, 113, 114, 115, 116, 117, 118, 119, 120, 121, 122, 123, 124, 125, 126, 127, 128, 129, 130, 131, 132, 133, 134, 135, 136, 137, 138, 139, 140, 141, 142, 143, 144, 145, 146, 147, 148, 149, 150, 151, 152, 153, 154, 155, 156, 157, 158, 159, 160, 161, 162, 163, 164, 165, 166, 167, 168, 169, 170, 171, 172, 173, 174, 175, 176, 177, 178, 179, 180, 181, 182, 183, 184, 185, 186, 187, 188, 189, 190, 191, 192, 193, 194, 195, 196, 197, 198, 199, 200, 201, 202, 203, 204, 205, 206, 207] (fun vs w' => vs = [.int .i64 (qdoes x c.other.toNat c.kind s).1] ∧ Below rb w w' ∧ Box w' sb (calmL c) ∧
    Hp rb ([oBox ob [vc, nilS, nilS, .int .i64 0, .bool s.done], oOwn 24 1 k vc cl, oBox rb [nilS, nilS, nilS, .int .i64 0, .bool false]] ++ DQObs n gl gc ga (qdoes x c.other.toNat c.kind s).2) w') (fun vs u8 w4 hJ => ?rest) (fun hcut2 => ?main)
  case rest =>
    obtain ⟨rfl, hB4, f4, hH4⟩ := hJ
    have hres : qstep n c s = ((qdoes x c.other.toNat c.kind s).1, dsettle x (qdoes x c.other.toNat c.kind s).2) := Prod.ext hq1 hq2
    rw [hres] at hcut
    clear hres hq1 hq2 hH2 f2 hBy z0 z1 z2 hsl hok hqb
    have hto := hmid.to x hxn
    clear hmid
    rw [← hdone] at hH4
    clear hdone
    generalize qdoes x c.other.toNat c.kind s = r at *
    obtain ⟨r1, r2⟩ := r
    have t1 := (hH4.get 3 rfl : Recs w4 gl n 4 _).at (i := x) (j := 1) hxn (by omega) rfl
    have t0 := (hH4.get 3 rfl : Recs w4 gl n 4 _).at (i := x) (j := 0) hxn (by omega) rfl
    have t3 := (hH4.get 3 rfl : Recs w4 gl n 4 _).at (i := x) (j := 3) hxn (by omega) rfl
    simp only [Nat.add_zero] at t0
    have hgl := (hH4.get 3 rfl : Recs w4 gl n 4 _).1
    subst hQ5
    rw [mixF_walk]
    rotate_left
    · kernel_rfl
    by_cases hb : (r2.pr x).bound = true
    case neg =>
      have hb' : (r2.pr x).bound = false := by simpa using hb
      have hds : dsettle x r2 = r2 := by unfold dsettle; rw [if_neg (fun hh => hb hh.1)]
      rw [hb'] at t1
      simp -dsimp (maxSteps := 2000000) only [Fa.F22, rdB_of t1, t1, hgl, undef, tu, uf, ul, ur, walkJ, VC.Now, VC.vc, VC.lib, VC.mapN_drewN, VC.mapB_drewN, VC.regQ, VC.loopK, VC.reg, VC.opP, VC.opS, VC.opZ, VC.nomulB, VC.pv, VC.thenF, VC.blkF, VC.retF, VC.resV, VC.oneV, VC.evo, VC.bin, VC.binI, VC.cmpI, VC.arithI, VC.ldv, VC.slv, VC.pickP, VC.holds, VC.chainOf, VC.look, VC.junk, VC.put, VC.eff, VC.callee, VC.pureB, VC.rdK, VC.rdKs, VC.okKs, VC.eqKs, VC.fillL, VC.putL, VC.stW, VC.stOK, VC.mixF, VC.setAll, Nat.reduceAdd, Nat.reduceSub, Nat.reduceMul, if_true, if_false, ↓reduceIte, forall_const, implies_true, reduceCtorEq, ne_eq, Nat.reduceBNe, Nat.reduceBEq, IntKind.signed, Nat.reduceEqDiff, Nat.reduceLeDiff, Nat.reduceLT, eq_self, Int.reduceEq, Int.reduceLT, Int.reduceLE, Int.reduceAdd, Int.reduceSub, VC.regC_nil, VC.regC_cons, VC.regCK_eq, VC.callQ, VC.tailQ, VC.goCall, VC.chStep]
      intros
      exact hcut _ _ (SAME.walk hJb (by kernel_rfl)) ⟨rfl, hB4, by rw [hds]; exact hH4⟩
    rw [hb] at t1
    by_cases hw : (r2.pr x).works = true
    · have hds : dsettle x r2 = r2 := by unfold dsettle; rw [if_neg (fun hh => by rw [hh.2.1] at hw; cases hw)]
      rw [hw] at t0
      simp -dsimp (maxSteps := 2000000) only [Fa.F22, rdB_of t1, t1, rdB_of t0, t0, hgl, undef, tu, uf, ul, ur, walkJ, VC.Now, VC.vc, VC.lib, VC.mapN_drewN, VC.mapB_drewN, VC.regQ, VC.loopK, VC.reg, VC.opP, VC.opS, VC.opZ, VC.nomulB, VC.pv, VC.thenF, VC.blkF, VC.retF, VC.resV, VC.oneV, VC.evo, VC.bin, VC.binI, VC.cmpI, VC.arithI, VC.ldv, VC.slv, VC.pickP, VC.holds, VC.chainOf, VC.look, VC.junk, VC.put, VC.eff, VC.callee, VC.pureB, VC.rdK, VC.rdKs, VC.okKs, VC.eqKs, VC.fillL, VC.putL, VC.stW, VC.stOK, VC.mixF, VC.setAll, Nat.reduceAdd, Nat.reduceSub, Nat.reduceMul, if_true, if_false, ↓reduceIte, forall_const, implies_true, reduceCtorEq, ne_eq, Nat.reduceBNe, Nat.reduceBEq, IntKind.signed, Nat.reduceEqDiff, Nat.reduceLeDiff, Nat.reduceLT, eq_self, Int.reduceEq, Int.reduceLT, Int.reduceLE, Int.reduceAdd, Int.reduceSub, VC.regC_nil, VC.regC_cons, VC.regCK_eq, VC.callQ, VC.tailQ, VC.goCall, VC.chStep]
      intros
      exact hcut _ _ (SAME.walk hJb (by kernel_rfl)) ⟨rfl, hB4, by rw [hds]; exact hH4⟩
    have hw' : (r2.pr x).works = false := by simpa using hw
    rw [hw'] at t0
    by_cases ho : (r2.pr x).owes = 0
    case neg =>
      have eo := eq_false ho
      have hds : dsettle x r2 = r2 := by unfold dsettle; rw [if_neg (fun hh => ho hh.2.2)]
      simp -dsimp (maxSteps := 2000000) only [Fa.F22, rdB_of t1, t1, rdB_of t0, t0, rdI_of t3, t3, eo, hgl, undef, tu, uf, ul, ur, walkJ, VC.Now, VC.vc, VC.lib, VC.mapN_drewN, VC.mapB_drewN, VC.regQ, VC.loopK, VC.reg, VC.opP, VC.opS, VC.opZ, VC.nomulB, VC.pv, VC.thenF, VC.blkF, VC.retF, VC.resV, VC.oneV, VC.evo, VC.bin, VC.binI, VC.cmpI, VC.arithI, VC.ldv, VC.slv, VC.pickP, VC.holds, VC.chainOf, VC.look, VC.junk, VC.put, VC.eff, VC.callee, VC.pureB, VC.rdK, VC.rdKs, VC.okKs, VC.eqKs, VC.fillL, VC.putL, VC.stW, VC.stOK, VC.mixF, VC.setAll, Nat.reduceAdd, Nat.reduceSub, Nat.reduceMul, if_true, if_false, ↓reduceIte, forall_const, implies_true, reduceCtorEq, ne_eq, Nat.reduceBNe, Nat.reduceBEq, IntKind.signed, Nat.reduceEqDiff, Nat.reduceLeDiff, Nat.reduceLT, eq_self, Int.reduceEq, Int.reduceLT, Int.reduceLE, Int.reduceAdd, Int.reduceSub, VC.regC_nil, VC.regC_cons, VC.regCK_eq, VC.callQ, VC.tailQ, VC.goCall, VC.chStep]
      intros
      exact hcut _ _ (SAME.walk hJb (by kernel_rfl)) ⟨rfl, hB4, by rw [hds]; exact hH4⟩
    have eo := eq_true ho
    have hds : dsettle x r2 = if (r2.pr x).to < 0 then { r2 with pr := upd r2.pr x { r2.pr x with bound := false }, done := true } else { r2 with pr := upd r2.pr x { r2.pr x with bound := false }, an := set2 r2.an x (r2.pr x).to.toNat (r2.an x (r2.pr x).to.toNat + 1) } := by unfold dsettle; rw [if_pos ⟨hb, hw', ho⟩]
    have st1 := hH4.setRec (en := prL) (P := r2.pr) 3 rfl (a := x) (j := 1) hxn (by omega) rfl (v := .bool false) (p := { r2.pr x with bound := false }) rfl
    have kb : (w4.cell? ⟨gl, x * 4 + 1, none⟩).isSome = true := by rw [t1]; rfl
    have fb := (hH4.get 3 rfl : Recs w4 gl n 4 _).soft (i := x) (j := 1) hxn (by omega)
    have hH5 := st1.hp
    have hB5 := hB4.trans (st1.below hH4)
    have f5 := f4.agree st1.agree (fun hf => nsf (foot_congr (by rfl) hf))
    have kt : (w4.setCell ⟨gl, x * 4 + 1, none⟩ (.bool false)).heap.size = w4.heap.size := by simp
    obtain ⟨w5, hw5⟩ : ∃ w5, w5 = w4.setCell ⟨gl, x * 4 + 1, none⟩ (.bool false) := ⟨_, rfl⟩
    rw [← hw5] at hH5 hB5 f5 kt
    clear st1
    have hR5 : Recs w5 gl n 4 (fun i => prL (upd r2.pr x { r2.pr x with bound := false } i)) := hH5.get 3 rfl
    have t2 : w5.cell? ⟨gl, x * 4 + 2, none⟩ = some (.int .i64 (r2.pr x).to) := hR5.at (i := x) (j := 2) hxn (by omega) (by rw [upd_same]; rfl)
    have hgl5 := hR5.1
    by_cases hneg : (r2.pr x).to < 0
    · have en := eq_true hneg
      rw [if_pos hneg] at hds
      have bo : Box w5 ob [vc, nilS, nilS, .int .i64 0, .bool r2.done] := hH5.get 0 rfl
      have k4 : (w5.cell? ⟨ob, 4, none⟩).isSome = true := by rw [bo.at (i := 4) rfl]; rfl
      have f4 := bo.soft (i := 4) (by show 4 < 5; omega)
      have hol := bo.1
      have st2 := hH5.setBox 0 rfl 4 (.bool true)
      simp -dsimp (maxSteps := 2000000) only [Fa.F22, rdB_of t1, t1, rdB_of t0, t0, rdI_of t3, t3, eo, en, hgl, kb, fb, ← hw5, rdI_of t2, t2, hgl5, k4, f4, hol, undef, tu, uf, ul, ur, walkJ, VC.Now, VC.vc, VC.lib, VC.mapN_drewN, VC.mapB_drewN, VC.regQ, VC.loopK, VC.reg, VC.opP, VC.opS, VC.opZ, VC.nomulB, VC.pv, VC.thenF, VC.blkF, VC.retF, VC.resV, VC.oneV, VC.evo, VC.bin, VC.binI, VC.cmpI, VC.arithI, VC.ldv, VC.slv, VC.pickP, VC.holds, VC.chainOf, VC.look, VC.junk, VC.put, VC.eff, VC.callee, VC.pureB, VC.rdK, VC.rdKs, VC.okKs, VC.eqKs, VC.fillL, VC.putL, VC.stW, VC.stOK, VC.mixF, VC.setAll, Nat.reduceAdd, Nat.reduceSub, Nat.reduceMul, if_true, if_false, ↓reduceIte, forall_const, implies_true, reduceCtorEq, ne_eq, Nat.reduceBNe, Nat.reduceBEq, IntKind.signed, Nat.reduceEqDiff, Nat.reduceLeDiff, Nat.reduceLT, eq_self, Int.reduceEq, Int.reduceLT, Int.reduceLE, Int.reduceAdd, Int.reduceSub, VC.regC_nil, VC.regC_cons, VC.regCK_eq, VC.callQ, VC.tailQ, VC.goCall, VC.chStep]
      intros
      exact hcut _ _ (SAME.walk hJb (by kernel_rfl)) ⟨rfl, hB5.trans (st2.below hH5), by rw [hds]; exact st2.hp⟩
    · have en := eq_false hneg
      rw [if_neg hneg] at hds
      obtain ⟨tt, htt⟩ : ∃ tt : Nat, (r2.pr x).to = tt := ⟨(r2.pr x).to.toNat, by omega⟩
      have htn : tt < n := by have : (r2.pr x).to < n := hto; omega
      have htn' : (r2.pr x).to.toNat = tt := by omega
      rw [htn'] at hds
      have en : ((tt : Int) < 0) = False := eq_false (by omega)
      rw [htt] at t2
      have hA5 : Recs w5 ga n n (fun i => rowL n (r2.an i)) := hH5.get 5 rfl
      have ta := hA5.at (i := x) (j := tt) hxn htn (rowL_at htn)
      have ka : (w5.cell? ⟨ga, x * n + tt, none⟩).isSome = true := by rw [ta]; rfl
      have fa := hA5.soft (i := x) (j := tt) hxn htn
      have hga5 := hA5.1
      have zz1 := f5.at (i := 1) rfl
      rw [hx0] at zz1
      have hsl5 := f5.1
      have hx1 : (x : Int) * n = ((x * n : Nat) : Int) := by simp
      have hx2 : ((x * n : Nat) : Int) + (tt : Int) = ((x * n + tt : Nat) : Int) := by simp
      have hix := idx_lt hxn htn
      have han : r2.an x tt ≤ 2 * k + 1 := hqbd.an x tt
      have st2 := Hp.setTab (m := r2.an) (hH5.drewN 1) 5 rfl hxn htn (r2.an x tt + 1)
      simp -dsimp (maxSteps := 2000000) only [Fa.F22, rdB_of t1, t1, rdB_of t0, t0, rdI_of t3, t3, eo, en, hgl, kb, fb, ← hw5, rdI_of t2, t2, hgl5, undef, tu, uf, ul, ur, walkJ, VC.Now, VC.vc, VC.lib, VC.mapN_drewN, VC.mapB_drewN, VC.regQ, VC.loopK, VC.reg, VC.opP, VC.opS, VC.opZ, VC.nomulB, VC.pv, VC.thenF, VC.blkF, VC.retF, VC.resV, VC.oneV, VC.evo, VC.bin, VC.binI, VC.cmpI, VC.arithI, VC.ldv, VC.slv, VC.pickP, VC.holds, VC.chainOf, VC.look, VC.junk, VC.put, VC.eff, VC.callee, VC.pureB, VC.rdK, VC.rdKs, VC.okKs, VC.eqKs, VC.fillL, VC.putL, VC.stW, VC.stOK, VC.mixF, VC.setAll, Nat.reduceAdd, Nat.reduceSub, Nat.reduceMul, if_true, if_false, ↓reduceIte, forall_const, implies_true, reduceCtorEq, ne_eq, Nat.reduceBNe, Nat.reduceBEq, IntKind.signed, Nat.reduceEqDiff, Nat.reduceLeDiff, Nat.reduceLT, eq_self, Int.reduceEq, Int.reduceLT, Int.reduceLE, Int.reduceAdd, Int.reduceSub, VC.regC_nil, VC.regC_cons, VC.regCK_eq, VC.callQ, VC.tailQ, VC.goCall, VC.chStep]
      intro u9
      refine WP_held 24 (fun _ => False) (.take 0 (.take 1 (.take 2 (.take 3 (.take 4 (.take 5 (.take 6 (.take 7 (.take 8 (.take 9 (.take 10 (.take 11 (.take 12 (.take 13 (.take 14 (.take 15 (.take 16 (.take 17 (.take 18 (.take 19 (.take 20 (.take 21 (.take 22 (.take 23 (.one 24 .done))))))))))))))))))))))))) Fa.mix (by kernel_rfl) rfl ?_
      simp -dsimp (maxSteps := 2000000) only [VC.heldF_done, VC.heldF_last, VC.planF_done, VC.planF_take, VC.planF_one, VC.planF_two, VC.planK_eq, VC.heldF_take, VC.heldF_one, VC.heldF_two, VC.heldF_twoL, VC.heldK_eq, VC.okRd, Fa.F22, rdI_of zz1, zz1, rdI_of t2, t2, rdI_of ta, ta, hsl5, hgl5, hga5, hx1, hx2, Int.toNat_natCast, Nat.zero_add, VC.Now, VC.vc, VC.lib, VC.mapN_drewN, VC.mapB_drewN, VC.regQ, VC.loopK, VC.reg, VC.opP, VC.opS, VC.opZ, VC.nomulB, VC.pv, VC.thenF, VC.blkF, VC.retF, VC.resV, VC.oneV, VC.evo, VC.bin, VC.binI, VC.cmpI, VC.arithI, VC.ldv, VC.slv, VC.pickP, VC.holds, VC.chainOf, VC.look, VC.junk, VC.put, VC.eff, VC.callee, VC.pureB, VC.rdK, VC.rdKs, VC.okKs, VC.eqKs, VC.fillL, VC.putL, VC.stW, VC.stOK, VC.mixF, VC.setAll, Nat.reduceAdd, Nat.reduceSub, Nat.reduceMul, if_true, if_false, ↓reduceIte, forall_const, implies_true, reduceCtorEq, ne_eq, Nat.reduceBNe, Nat.reduceBEq, IntKind.signed, Nat.reduceEqDiff, Nat.reduceLeDiff, Nat.reduceLT, eq_self, Int.reduceEq, Int.reduceLT, Int.reduceLE, Int.reduceAdd, Int.reduceSub, VC.regC_nil, VC.regC_cons, VC.regCK_eq, VC.callQ, VC.tailQ, VC.goCall, VC.chStep]
      refine ⟨fits_i64 (by omega) (by omega), fits_i64 (by omega) (by omega), fits_i64 (by omega) (by omega), fits_i64 (by omega) (by omega), ⟨by omega, by omega⟩, fits_i64 (by omega) (by omega), ⟨by omega, by omega⟩, fa, ?_⟩
      exact hcut _ _ (SAME.walk hJb (by kernel_rfl)) ⟨rfl, (below_drewN hB5 1).trans (st2.below (hH5.drewN 1)), by rw [hds]; exact st2.hp⟩
  obtain ⟨t0, t1, t2, t3, l0, l1, l2, l3, g0, g1, g2, g3, hgl⟩ := recF (p := s.pr x) (hH2.get 3 rfl : Recs wy gl n 4 (fun i => prL (s.pr i))) hxn rfl
  rw [VC.Now]
  have e5 : (c.kind = 1) = False := eq_false (by omega)
  by_cases hw : (s.pr x).works = true
  case neg =>
    have hw' : (s.pr x).works = false := by simpa using hw
    have hds : qdoes x c.other.toNat c.kind s = (6, s) := by unfold qdoes; rw [if_neg (by omega), if_pos k3, if_pos hw']
    rw [hw'] at t0
    simp -dsimp (maxSteps := 2000000) only [Fa.F22, rdI_of z0, z0, e3, e5, rdB_of t0, t0, hsl, hgl, undef, tu, uf, ul, ur, VC.Now, VC.vc, VC.lib, VC.mapN_drewN, VC.mapB_drewN, VC.regQ, VC.loopK, VC.reg, VC.opP, VC.opS, VC.opZ, VC.nomulB, VC.pv, VC.thenF, VC.blkF, VC.retF, VC.resV, VC.oneV, VC.evo, VC.bin, VC.binI, VC.cmpI, VC.arithI, VC.ldv, VC.slv, VC.pickP, VC.holds, VC.chainOf, VC.look, VC.junk, VC.put, VC.eff, VC.callee, VC.pureB, VC.rdK, VC.rdKs, VC.okKs, VC.eqKs, VC.fillL, VC.putL, VC.stW, VC.stOK, VC.mixF, VC.setAll, Nat.reduceAdd, Nat.reduceSub, Nat.reduceMul, if_true, if_false, ↓reduceIte, forall_const, implies_true, reduceCtorEq, ne_eq, Nat.reduceBNe, Nat.reduceBEq, IntKind.signed, Nat.reduceEqDiff, Nat.reduceLeDiff, Nat.reduceLT, eq_self, Int.reduceEq, Int.reduceLT, Int.reduceLE, Int.reduceAdd, Int.reduceSub, VC.regC_nil, VC.regC_cons, VC.regCK_eq, VC.callQ, VC.tailQ, VC.goCall, VC.chStep]
    intros
    exact hcut2 _ _ (SAME.walk hJa (by kernel_rfl)) ⟨by rw [hds]; rfl, hBy, f2, by rw [hds]; exact hH2⟩
  have hds : qdoes x c.other.toNat c.kind s = (0, { s with pr := upd s.pr x { s.pr x with works := false } }) := by unfold qdoes; rw [if_neg (by omega), if_pos k3, if_neg (by rw [hw]; simp)]
  rw [hw] at t0
  have st := hH2.setRec (en := prL) (P := s.pr) 3 rfl (a := x) (j := 0) hxn (by omega) rfl (v := .bool false) (p := { s.pr x with works := false }) rfl
  simp only [Nat.add_zero] at st
  simp -dsimp (maxSteps := 2000000) only [Fa.F22, rdI_of z0, z0, e3, e5, rdB_of t0, t0, hsl, hgl, g0, l0, undef, tu, uf, ul, ur, VC.Now, VC.vc, VC.lib, VC.mapN_drewN, VC.mapB_drewN, VC.regQ, VC.loopK, VC.reg, VC.opP, VC.opS, VC.opZ, VC.nomulB, VC.pv, VC.thenF, VC.blkF, VC.retF, VC.resV, VC.oneV, VC.evo, VC.bin, VC.binI, VC.cmpI, VC.arithI, VC.ldv, VC.slv, VC.pickP, VC.holds, VC.chainOf, VC.look, VC.junk, VC.put, VC.eff, VC.callee, VC.pureB, VC.rdK, VC.rdKs, VC.okKs, VC.eqKs, VC.fillL, VC.putL, VC.stW, VC.stOK, VC.mixF, VC.setAll, Nat.reduceAdd, Nat.reduceSub, Nat.reduceMul, if_true, if_false, ↓reduceIte, forall_const, implies_true, reduceCtorEq, ne_eq, Nat.reduceBNe, Nat.reduceBEq, IntKind.signed, Nat.reduceEqDiff, Nat.reduceLeDiff, Nat.reduceLT, eq_self, Int.reduceEq, Int.reduceLT, Int.reduceLE, Int.reduceAdd, Int.reduceSub, VC.regC_nil, VC.regC_cons, VC.regCK_eq, VC.callQ, VC.tailQ, VC.goCall, VC.chStep]
  intros
  exact hcut2 _ _ (SAME.walk hJa (by kernel_rfl)) ⟨by rw [hds]; rfl, hBy.trans (st.below hH2), f2.agree st.agree nsf, by rw [hds]; exact st.hp⟩
end Go.Proofs.Ytelfmhiaafkimaa
