/- One in at a time, the document's: what comes is taken. -/
import Derived.Test.YtelfmhiaafkimaaMxD4
import Derived.Test.YtelfmhiaafkimaaCmp
namespace Go.Proofs.Ytelfmhiaafkimaa
open Go Go.RowKit Go.VC
set_option linter.unusedSimpArgs false
set_option linter.unusedVariables false
theorem mineK (k x : Int) (i j : Nat) : mineB k i x j = kLess (k, (i : Int)) (x, (j : Int)) := by
  unfold mineB kLess
  show _ = if k < x then true else if k = x then decide ((i : Int) < j) else false
  by_cases h1 : k < x
  · rw [if_pos h1, decide_eq_true (Or.inl h1)]
  · rw [if_neg h1]
    by_cases h2 : k = x
    · rw [if_pos h2]
      by_cases h3 : i < j
      · rw [decide_eq_true (Or.inr ⟨h2, h3⟩), decide_eq_true (by omega)]
      · rw [decide_eq_false (by omega), decide_eq_false (by omega)]
    · rw [if_neg h2, decide_eq_false (by omega)]
set_option maxRecDepth 8000 in
set_option maxHeartbeats 8000000 in
noncomputable def takeBut : { P : Prop × Prop // P.1 ∧ P.2 → mutexBut.1.2.1 } := by
  refine ⟨(?P3, ?P4), fun HH => ?body⟩
  case body =>
    unfold mutexBut
    intro n len cap w h1 hn hlen rb ob gl u2 k vc v P hPl hk b o s hXR hqb hnd c wy hBy sb f2 z0 z1 z2 hsl Q3 k0 k1 e1 k2 e2 q1 a1 q2 a2 q3 a3 q4 a4 q5 a5 cl hH2 nsb hcut
    obtain ⟨vi0, pv0, wv0⟩ := v
    obtain ⟨Ap, cp, ep, _⟩ := id (hH2.get 5 rfl : OwnK wy 0 200 4 P.length pv0 _)
    subst ep
    have e3 : (c.kind = 3) = False := eq_false (by omega)
    obtain ⟨x, hx0⟩ : ∃ x : Nat, c.who = x := ⟨c.who.toNat, by omega⟩
    have hxn : x < n := by omega
    have hxt : c.who.toNat = x := by omega
    rw [hx0] at z1 a1 a2
    try rw [hx0] at a5
    have hrs : rb ≤ sb := by
      have g1 := (hH2.lt 0 rfl (g := ob) rfl).1
      have g2 := nsb ob (foot_at (i := 0) rfl rfl)
      omega
    have hF : Hp rb (DAll ⟨n, gl, ob, rb⟩ k cl vc s P (DV.mk vi0 (.slice Ap P.length cp) wv0) ++ [oBox sb (moveL c)]) wy := Hp.snoc hH2 f2 fun g hg => by
      cases hg
      exact ⟨hrs, fun hf => absurd (nsb sb hf) (Nat.lt_irrefl _)⟩
    have hR : Recs wy gl n 5 (fun i => apL (s.pr i) (((DV.mk vi0 (.slice Ap P.length cp) wv0)).wv i)) := hH2.get 4 rfl
    have t0 := hR.at (i := x) (j := 0) hxn (by omega) rfl
    have t1 := hR.at (i := x) (j := 1) hxn (by omega) rfl
    have t2 := hR.at (i := x) (j := 2) hxn (by omega) rfl
    have t3 := hR.at (i := x) (j := 3) hxn (by omega) rfl
    have t4 := hR.at (i := x) (j := 4) hxn (by omega) rfl
    simp only [Nat.add_zero] at t0
    have hgl := hR.1
    have hJ : okJ ([7, 10, 11, 12, 14, 15, 16, 17] ++ List.range' 30 275) [7, 10] [11, 12, 14, 15, 16, 17, 30, 31, 32, 33, 34, 35, 36, 37, 38, 39, 40, 41, 42, 43, 44, 45, 46, 47, 48, 49, 50, 51, 52, 53, 54, 55, 56, 57, 58, 59, 60, 61, 62, 63, 64, 65, 66, 67, 68, 69, 70, 71, 72, 73, 74, 75, 76, 77, 78, 79, 80, 81, 82, 83, 84, 85, 86, 87, 88, 89, 90, 91, 92, 93, 94, 95, 96, 97, 98, 99, 100, 101, 102, 103, 104, 105, 106, 107, 108, 109, 110, 111, 112, 113, 114, 115, 116, 117, 118, 119, 120, 121, 122, 123, 124, 125, 126, 127, 128, 129, 130, 131, 132, 133, 134, 135, 136, 137, 138, 139, 140, 141, 142, 143, 144, 145, 146, 147, 148, 149, 150, 151, 152, 153, 154, 155, 156, 157, 158, 159, 160, 161, 162, 163, 164, 165, 166, 167, 168, 169, 170, 171, 172, 173, 174, 175, 176, 177, 178, 179, 180, 181, 182, 183, 184, 185, 186, 187, 188, 189, 190, 191, 192, 193, 194, 195, 196, 197, 198, 199, 200, 201, 202, 203, 204, 205, 206, 207, 208, 209, 210, 211, 212, 213, 214, 215, 216, 217, 218, 219, 220, 221, 222, 223, 224, 225, 226, 227, 228, 229, 230, 231, 232, 233, 234, 235, 236, 237, 238, 239, 240, 241, 242, 243, 244, 245, 246, 247, 248, 249, 250, 251, 252, 253, 254, 255, 256, 257, 258, 259, 260, 261, 262, 263, 264, 265, 266, 267, 268, 269, 270, 271, 272, 273, 274, 275, 276, 277, 278, 279, 280, 281, 282, 283, 284, 285, 286, 287, 288, 289, 290, 291, 292, 293, 294, 295, 296, 297, 298, 299, 300, 301, 302, 303, 304] = true := by kernel_rfl
    (repeat rw [vc_seq]); refine vc_plain _ fun Q4 hQ4 => ?_; simp -dsimp (maxSteps := 2000000) only [Fa.F31, e1, e2, e3, a3, a4, a5, rdI_of z0, z0, hsl, undef, tu, uf, ul, ur, VC.Now, VC.vc_skip, VC.vc_ret, VC.vc_exit, VC.vc_block, VC.vc_cond, VC.vc_region, VC.lib, VC.mapN_drewN, VC.mapB_drewN, VC.regQ, VC.loopK, VC.reg, VC.opP, VC.opS, VC.opZ, VC.nomulB, VC.pv, VC.thenF, VC.blkF, VC.retF, VC.resV, VC.oneV, VC.evo, VC.bin, VC.binI, VC.cmpI, VC.arithI, VC.ldv, VC.slv, VC.pickP, VC.holds, VC.chainOf, VC.look, VC.junk, VC.put, VC.eff, VC.callee, VC.pureB, VC.rdK, VC.rdKs, VC.okKs, VC.eqKs, VC.fillL, VC.putL, VC.stW, VC.stOK, VC.mixF, VC.setAll, Nat.reduceAdd, Nat.reduceSub, Nat.reduceMul, if_true, if_false, ↓reduceIte, forall_const, implies_true, reduceCtorEq, ne_eq, Nat.reduceBNe, Nat.reduceBEq, IntKind.signed, Nat.reduceEqDiff, Nat.reduceLeDiff, Nat.reduceLT, eq_self, Int.reduceEq, Int.reduceLT, Int.reduceLE, Int.reduceAdd, Int.reduceSub, VC.regC_nil, VC.regC_cons, VC.regCK_eq, VC.callQ, VC.tailQ, VC.goCall, VC.chStep]
    intro u6
    subst hQ4
    simp -dsimp (maxSteps := 2000000) only [Fa.F31, VC.Now, VC.vc_skip, VC.vc_ret, VC.vc_exit, VC.vc_block, VC.vc_cond, VC.vc_region, VC.lib, VC.mapN_drewN, VC.mapB_drewN, VC.regQ, VC.loopK, VC.reg, VC.opP, VC.opS, VC.opZ, VC.nomulB, VC.pv, VC.thenF, VC.blkF, VC.retF, VC.resV, VC.oneV, VC.evo, VC.bin, VC.binI, VC.cmpI, VC.arithI, VC.ldv, VC.slv, VC.pickP, VC.holds, VC.chainOf, VC.look, VC.junk, VC.put, VC.eff, VC.callee, VC.pureB, VC.rdK, VC.rdKs, VC.okKs, VC.eqKs, VC.fillL, VC.putL, VC.stW, VC.stOK, VC.mixF, VC.setAll, Nat.reduceAdd, Nat.reduceSub, Nat.reduceMul, if_true, if_false, ↓reduceIte, forall_const, implies_true, reduceCtorEq, ne_eq, Nat.reduceBNe, Nat.reduceBEq, IntKind.signed, Nat.reduceEqDiff, Nat.reduceLeDiff, Nat.reduceLT, eq_self, Int.reduceEq, Int.reduceLT, Int.reduceLE, Int.reduceAdd, Int.reduceSub, VC.regC_nil, VC.regC_cons, VC.regCK_eq, VC.callQ, VC.tailQ, VC.goCall, VC.chStep]
    (repeat rw [vc_seq]); refine vc_plain _ fun Q4 hQ4 => ?_; simp -dsimp (maxSteps := 2000000) only [Fa.F31, rdI_of z0, z0, rdI_of z1, z1, rdI_of z2, z2, hsl, a1, a2, e1, e2, e3, a3, a4, a5, undef, tu, uf, ul, ur, VC.Now, VC.vc_skip, VC.vc_ret, VC.vc_exit, VC.vc_block, VC.vc_cond, VC.vc_region, VC.lib, VC.mapN_drewN, VC.mapB_drewN, VC.regQ, VC.loopK, VC.reg, VC.opP, VC.opS, VC.opZ, VC.nomulB, VC.pv, VC.thenF, VC.blkF, VC.retF, VC.resV, VC.oneV, VC.evo, VC.bin, VC.binI, VC.cmpI, VC.arithI, VC.ldv, VC.slv, VC.pickP, VC.holds, VC.chainOf, VC.look, VC.junk, VC.put, VC.eff, VC.callee, VC.pureB, VC.rdK, VC.rdKs, VC.okKs, VC.eqKs, VC.fillL, VC.putL, VC.stW, VC.stOK, VC.mixF, VC.setAll, Nat.reduceAdd, Nat.reduceSub, Nat.reduceMul, if_true, if_false, ↓reduceIte, forall_const, implies_true, reduceCtorEq, ne_eq, Nat.reduceBNe, Nat.reduceBEq, IntKind.signed, Nat.reduceEqDiff, Nat.reduceLeDiff, Nat.reduceLT, eq_self, Int.reduceEq, Int.reduceLT, Int.reduceLE, Int.reduceAdd, Int.reduceSub, VC.regC_nil, VC.regC_cons, VC.regCK_eq, VC.callQ, VC.tailQ, VC.goCall, VC.chStep]
    intro u7
    subst hQ4
    simp -dsimp (maxSteps := 2000000) only [Fa.F31, VC.Now, VC.vc_skip, VC.vc_ret, VC.vc_exit, VC.vc_block, VC.vc_cond, VC.vc_region, VC.lib, VC.mapN_drewN, VC.mapB_drewN, VC.regQ, VC.loopK, VC.reg, VC.opP, VC.opS, VC.opZ, VC.nomulB, VC.pv, VC.thenF, VC.blkF, VC.retF, VC.resV, VC.oneV, VC.evo, VC.bin, VC.binI, VC.cmpI, VC.arithI, VC.ldv, VC.slv, VC.pickP, VC.holds, VC.chainOf, VC.look, VC.junk, VC.put, VC.eff, VC.callee, VC.pureB, VC.rdK, VC.rdKs, VC.okKs, VC.eqKs, VC.fillL, VC.putL, VC.stW, VC.stOK, VC.mixF, VC.setAll, Nat.reduceAdd, Nat.reduceSub, Nat.reduceMul, if_true, if_false, ↓reduceIte, forall_const, implies_true, reduceCtorEq, ne_eq, Nat.reduceBNe, Nat.reduceBEq, IntKind.signed, Nat.reduceEqDiff, Nat.reduceLeDiff, Nat.reduceLT, eq_self, Int.reduceEq, Int.reduceLT, Int.reduceLE, Int.reduceAdd, Int.reduceSub, VC.regC_nil, VC.regC_cons, VC.regCK_eq, VC.callQ, VC.tailQ, VC.goCall, VC.chStep]
    (repeat rw [vc_seq]); refine vc_plain _ fun Q4 hQ4 => ?_; simp -dsimp (maxSteps := 2000000) only [Fa.F31, rdI_of z1, z1, hsl, Int.toNat_natCast, Nat.zero_add, VC.Now, VC.vc_skip, VC.vc_ret, VC.vc_exit, VC.vc_block, VC.vc_cond, VC.vc_region, VC.lib, VC.mapN_drewN, VC.mapB_drewN, VC.regQ, VC.loopK, VC.reg, VC.opP, VC.opS, VC.opZ, VC.nomulB, VC.pv, VC.thenF, VC.blkF, VC.retF, VC.resV, VC.oneV, VC.evo, VC.bin, VC.binI, VC.cmpI, VC.arithI, VC.ldv, VC.slv, VC.pickP, VC.holds, VC.chainOf, VC.look, VC.junk, VC.put, VC.eff, VC.callee, VC.pureB, VC.rdK, VC.rdKs, VC.okKs, VC.eqKs, VC.fillL, VC.putL, VC.stW, VC.stOK, VC.mixF, VC.setAll, Nat.reduceAdd, Nat.reduceSub, Nat.reduceMul, if_true, if_false, ↓reduceIte, forall_const, implies_true, reduceCtorEq, ne_eq, Nat.reduceBNe, Nat.reduceBEq, IntKind.signed, Nat.reduceEqDiff, Nat.reduceLeDiff, Nat.reduceLT, eq_self, Int.reduceEq, Int.reduceLT, Int.reduceLE, Int.reduceAdd, Int.reduceSub, VC.regC_nil, VC.regC_cons, VC.regCK_eq, VC.callQ, VC.tailQ, VC.goCall, VC.chStep]
    refine ⟨⟨by omega, by omega⟩, ?_⟩
    subst hQ4
    simp -dsimp (maxSteps := 2000000) only [Fa.F31, VC.Now, VC.vc_skip, VC.vc_ret, VC.vc_exit, VC.vc_block, VC.vc_cond, VC.vc_region, VC.lib, VC.mapN_drewN, VC.mapB_drewN, VC.regQ, VC.loopK, VC.reg, VC.opP, VC.opS, VC.opZ, VC.nomulB, VC.pv, VC.thenF, VC.blkF, VC.retF, VC.resV, VC.oneV, VC.evo, VC.bin, VC.binI, VC.cmpI, VC.arithI, VC.ldv, VC.slv, VC.pickP, VC.holds, VC.chainOf, VC.look, VC.junk, VC.put, VC.eff, VC.callee, VC.pureB, VC.rdK, VC.rdKs, VC.okKs, VC.eqKs, VC.fillL, VC.putL, VC.stW, VC.stOK, VC.mixF, VC.setAll, Nat.reduceAdd, Nat.reduceSub, Nat.reduceMul, if_true, if_false, ↓reduceIte, forall_const, implies_true, reduceCtorEq, ne_eq, Nat.reduceBNe, Nat.reduceBEq, IntKind.signed, Nat.reduceEqDiff, Nat.reduceLeDiff, Nat.reduceLT, eq_self, Int.reduceEq, Int.reduceLT, Int.reduceLE, Int.reduceAdd, Int.reduceSub, VC.regC_nil, VC.regC_cons, VC.regCK_eq, VC.callQ, VC.tailQ, VC.goCall, VC.chStep]
    rw [vc_seq]
    refine vc_plain _ fun Q5 hQ5 => ?_
    have hJb : okJ ([7, 10] ++ List.range' 281 23) [7, 10] [281, 282, 283, 284, 285, 286, 287, 288, 289, 290, 291, 292, 293, 294, 295, 296, 297, 298, 299, 300, 301, 302, 303] = true := by kernel_rfl
    have hJa : okJ ([7, 10, 12, 14, 15, 16, 17] ++ List.range' 79 202) [7, 10] [12, 14, 15, 16, 17, 79, 80, 81, 82, 83, 84, 85, 86, 87, 88, 89, 90, 91, 92, 93, 94, 95, 96, 97, 98, 99, 100, 101, 102, 103, 104, 105, 106, 107, 108, 109, 110, 111, 112, 113, 114, 115, 116, 117, 118, 119, 120, 121, 122, 123, 124, 125, 126, 127, 128, 129, 130, 131, 132, 133, 134, 135, 136, 137, 138, 139, 140, 141, 142, 143, 144, 145, 146, 147, 148, 149, 150, 151, 152, 153, 154, 155, 156, 157, 158, 159, 160, 161, 162, 163, 164, 165, 166, 167, 168, 169, 170, 171, 172, 173, 174, 175, 176, 177, 178, 179, 180, 181, 182, 183, 184, 185, 186, 187, 188, 189, 190, 191, 192, 193, 194, 195, 196, 197, 198, 199, 200, 201, 202, 203, 204, 205, 206, 207, 208, 209, 210, 211, 212, 213, 214, 215, 216, 217, 218, 219, 220, 221, 222, 223, 224, 225, 226, 227, 228, 229, 230, 231, 232, 233, 234, 235, 236, 237, 238, 239, 240, 241, 242, 243, 244, 245, 246, 247, 248, 249, 250, 251, 252, 253, 254, 255, 256, 257, 258, 259, 260, 261, 262, 263, 264, 265, 266, 267, 268, 269, 270, 271, 272, 273, 274, 275, 276, 277, 278, 279, 280] = true := by kernel_rfl
    clear hH2 f2 nsb
    refine vc_cut [7, 10] [12, 14, 15, 16, 17, 79, 80, 81, 82, 83, 84, 85, 86, 87, 88, 89, 90, 91, 92, 93, 94, 95, 96, 97, 98, 99, 100, 101, 102, 103, 104, 105, 106, 107, 108, 109, 110, 111, 112, 113, 114, 115, 116, 117, 118, 119, 120, 121, 122, 123, 124, 125, 126, 127, 128, 129, 130, 131, 132, 133, 134, 135, 136, 137, 138, 139, 140, 141, 142, 143, 144, 145, 146, 147, 148, 149, 150, 151, 152, 153, 154, 155, 156, 157, 158, 159, 160, 161, 162, 163, 164, 165, 166, 167, 168, 169, 170, 171, 172, 173, 174, 175, 176, 177, 178, 179, 180, 181, 182, 183, 184, 185, 186, 187, 188, 189, 190, 191, 192, 193, 194, 195, 196, 197, 198, 199, 200, 201, 202, 203, 204, 205, 206, 207, 208, 209, 210, 211, 212, 213, 214, 215, 216, 217, 218, 219, 220, 221, 222, 223, 224, 225, 226, 227, 228, 229, 230, 231, 232, 233, 234, 235, 236, 237, 238, 239, 240, 241, 242, 243, 244, 245, 246, 247, 248, 249, 250, 251, 252, 253, 254, 255, 256, 257, 258, 259, 260, 261, 262, 263, 264, 265, 266, 267, 268, 269, 270, 271, 272, 273, 274, 275, 276, 277, 278, 279, 280] (fun vs w' => ∃ (s1 : MxS) (P1 : List Letter) (v1 : DV) (cd : Int), vs = [v1.pv, .int .i64 cd] ∧ mxstep n c s = (cd, menter n x s1) ∧ s1.inn = s.inn ∧ P1.length ≤ P.length + 130 ∧ XR n s1.way P1 ∧ Below rb w w' ∧
      Hp rb (DAll ⟨n, gl, ob, rb⟩ k cl vc s1 P1 v1 ++ [oBox sb (moveL c)]) w') (fun vs u8 w4 hJ => ?rest) (fun hcut2 => ?main)
    case rest =>
      obtain ⟨s1, P1, v1, cd, rfl, hres, hin1, hP1, hX1, hB4, hH4⟩ := hJ
      rw [hres] at hcut
      have R4 : Recs w4 gl n 5 (fun i => apL (s1.pr i) (v1.wv i)) := hH4.get 4 rfl
      clear hres hF hBy z0 z1 z2 hsl hR t0 t1 t2 t3 t4 hgl hXR
      have t1 := R4.at (i := x) (j := 1) hxn (by omega) rfl
      have t3 := R4.at (i := x) (j := 3) hxn (by omega) rfl
      have hgl := R4.1
      have hql : s1.inn.length ≤ k := by rw [hin1]; exact hqb.inn
      subst hQ5
      rw [mixF_walk]
      rotate_left
      · kernel_rfl
      have x1 := R4.soft (i := x) (j := 1) hxn (by omega)
      have k1 : (w4.cell? ⟨gl, x * 5 + 1, none⟩).isSome = true := by rw [t1]; rfl
      by_cases d1 : (s1.pr x).how = 1
      case neg =>
        have ed := eq_false d1
        have hm : menter n x s1 = s1 := if_neg (fun hh => d1 hh.1)
        rw [hm] at hcut
        simp -dsimp (maxSteps := 2000000) only [Fa.F31, rdI_of t1, t1, ed, hgl, undef, tu, uf, ul, ur, walkJ, VC.Now, VC.vc, VC.lib, VC.mapN_drewN, VC.mapB_drewN, VC.regQ, VC.loopK, VC.reg, VC.opP, VC.opS, VC.opZ, VC.nomulB, VC.pv, VC.thenF, VC.blkF, VC.retF, VC.resV, VC.oneV, VC.evo, VC.bin, VC.binI, VC.cmpI, VC.arithI, VC.ldv, VC.slv, VC.pickP, VC.holds, VC.chainOf, VC.look, VC.junk, VC.put, VC.eff, VC.callee, VC.pureB, VC.rdK, VC.rdKs, VC.okKs, VC.eqKs, VC.fillL, VC.putL, VC.stW, VC.stOK, VC.mixF, VC.setAll, Nat.reduceAdd, Nat.reduceSub, Nat.reduceMul, if_true, if_false, ↓reduceIte, forall_const, implies_true, reduceCtorEq, ne_eq, Nat.reduceBNe, Nat.reduceBEq, IntKind.signed, Nat.reduceEqDiff, Nat.reduceLeDiff, Nat.reduceLT, eq_self, Int.reduceEq, Int.reduceLT, Int.reduceLE, Int.reduceAdd, Int.reduceSub, VC.regC_nil, VC.regC_cons, VC.regCK_eq, VC.callQ, VC.tailQ, VC.goCall, VC.chStep]
        intros
        exact hcut _ _ (SAME.walk hJ (by kernel_rfl)) ⟨v1, P1, by rfl, hB4, hP1, hX1, hH4.left⟩
      have ed := eq_true d1
      by_cases d2 : (s1.pr x).yes = (n : Int) - 1
      case neg =>
        have ee := eq_false d2
        have hm : menter n x s1 = s1 := if_neg (fun hh => d2 hh.2)
        rw [hm] at hcut
        simp -dsimp (maxSteps := 2000000) only [Fa.F31, rdI_of t1, t1, rdI_of t3, t3, ed, ee, hgl, undef, tu, uf, ul, ur, walkJ, VC.Now, VC.vc, VC.lib, VC.mapN_drewN, VC.mapB_drewN, VC.regQ, VC.loopK, VC.reg, VC.opP, VC.opS, VC.opZ, VC.nomulB, VC.pv, VC.thenF, VC.blkF, VC.retF, VC.resV, VC.oneV, VC.evo, VC.bin, VC.binI, VC.cmpI, VC.arithI, VC.ldv, VC.slv, VC.pickP, VC.holds, VC.chainOf, VC.look, VC.junk, VC.put, VC.eff, VC.callee, VC.pureB, VC.rdK, VC.rdKs, VC.okKs, VC.eqKs, VC.fillL, VC.putL, VC.stW, VC.stOK, VC.mixF, VC.setAll, Nat.reduceAdd, Nat.reduceSub, Nat.reduceMul, if_true, if_false, ↓reduceIte, forall_const, implies_true, reduceCtorEq, ne_eq, Nat.reduceBNe, Nat.reduceBEq, IntKind.signed, Nat.reduceEqDiff, Nat.reduceLeDiff, Nat.reduceLT, eq_self, Int.reduceEq, Int.reduceLT, Int.reduceLE, Int.reduceAdd, Int.reduceSub, VC.regC_nil, VC.regC_cons, VC.regCK_eq, VC.callQ, VC.tailQ, VC.goCall, VC.chStep]
        intros
        refine ⟨fits_i64 (by omega) (by omega), fun u7 => ?_⟩
        exact hcut _ _ (SAME.walk hJ (by kernel_rfl)) ⟨v1, P1, by rfl, hB4, hP1, hX1, hH4.left⟩
      have ee := eq_true d2
      have hm : menter n x s1 = { s1 with pr := upd s1.pr x { s1.pr x with how := 2 }, inn := s1.inn ++ [x] } := if_pos ⟨d1, d2⟩
      rw [hm] at hcut
      have st5 := (DAll.field hH4.left hxn (j := 1) (by omega) (iV 2) { s1.pr x with how := 2 } rfl rfl).part hH4
      obtain ⟨w5, hw5⟩ : ∃ w5, w5 = w4.setCell ⟨gl, x * 5 + 1, none⟩ (.int .i64 2) := ⟨_, rfl⟩
      rw [show w4.setCell ⟨gl, x * 5 + 1, none⟩ (iV 2) = w5 from hw5.symm] at st5
      have hB5 := hB4.trans (st5.below hH4)
      have hH5 := st5.hp
      have f5 : Box w5 sb (moveL c) := hH5.get (6 + n) (DAll_at _)
      have z1 := f5.at (i := 1) rfl
      rw [hx0] at z1
      have hsl := f5.1
      have bo : Box w5 ob [vc, v1.vi, nilS, iV 0] := hH5.get 0 rfl
      have y1 := bo.at (i := 1) rfl
      have hol := bo.1
      have own2 : OwnK w5 0 3 1 s1.inn.length v1.vi (natL s1.inn) := hH5.get 2 rfl
      obtain ⟨Ai, ci, ei, _⟩ := id own2
      rw [ei] at y1
      simp -dsimp (maxSteps := 2000000) only [Fa.F31, rdI_of t1, t1, rdI_of t3, t3, ed, ee, hgl, k1, x1, ← hw5, rdSA_of y1, rdSN_of y1, rdSC_of y1, y1, hol, rdI_of z1, z1, hsl, undef, tu, uf, ul, ur, walkJ, VC.Now, VC.vc, VC.lib, VC.mapN_drewN, VC.mapB_drewN, VC.regQ, VC.loopK, VC.reg, VC.opP, VC.opS, VC.opZ, VC.nomulB, VC.pv, VC.thenF, VC.blkF, VC.retF, VC.resV, VC.oneV, VC.evo, VC.bin, VC.binI, VC.cmpI, VC.arithI, VC.ldv, VC.slv, VC.pickP, VC.holds, VC.chainOf, VC.look, VC.junk, VC.put, VC.eff, VC.callee, VC.pureB, VC.rdK, VC.rdKs, VC.okKs, VC.eqKs, VC.fillL, VC.putL, VC.stW, VC.stOK, VC.mixF, VC.setAll, Nat.reduceAdd, Nat.reduceSub, Nat.reduceMul, if_true, if_false, ↓reduceIte, forall_const, implies_true, reduceCtorEq, ne_eq, Nat.reduceBNe, Nat.reduceBEq, IntKind.signed, Nat.reduceEqDiff, Nat.reduceLeDiff, Nat.reduceLT, eq_self, Int.reduceEq, Int.reduceLT, Int.reduceLE, Int.reduceAdd, Int.reduceSub, VC.regC_nil, VC.regC_cons, VC.regCK_eq, VC.callQ, VC.tailQ, VC.goCall, VC.chStep]
      intros
      refine ⟨fits_i64 (by omega) (by omega), fun u7 => ?_⟩
      refine OPW_appK (v := v1.vi) rfl Fa.apI23 (by rw [ei]; rfl) rfl rfl (by simp [Value.oneCell']) own2 (Nat.zero_le _) (by omega) (by decide) fun v6 w6 ho6 hg6 hst6 => ?_
      obtain ⟨⟨r1, r2⟩, st6⟩ := DAll.enters hH5.left ho6 hg6 hst6
      obtain ⟨A6, c6, rfl, _⟩ := id ho6
      have hw6 : ob < w6.heap.size := by simpa using (st6.hp.get 0 rfl : Box _ ob _).1
      rw [VC.Now, VC.seqK_eq]
      simp -dsimp (maxSteps := 2000000) only [Fa.F31, hw6, VC.Now, VC.vc, VC.lib, VC.mapN_drewN, VC.mapB_drewN, VC.regQ, VC.loopK, VC.reg, VC.opP, VC.opS, VC.opZ, VC.nomulB, VC.pv, VC.thenF, VC.blkF, VC.retF, VC.resV, VC.oneV, VC.evo, VC.bin, VC.binI, VC.cmpI, VC.arithI, VC.ldv, VC.slv, VC.pickP, VC.holds, VC.chainOf, VC.look, VC.junk, VC.put, VC.eff, VC.callee, VC.pureB, VC.rdK, VC.rdKs, VC.okKs, VC.eqKs, VC.fillL, VC.putL, VC.stW, VC.stOK, VC.mixF, VC.setAll, Nat.reduceAdd, Nat.reduceSub, Nat.reduceMul, if_true, if_false, ↓reduceIte, forall_const, implies_true, reduceCtorEq, ne_eq, Nat.reduceBNe, Nat.reduceBEq, IntKind.signed, Nat.reduceEqDiff, Nat.reduceLeDiff, Nat.reduceLT, eq_self, Int.reduceEq, Int.reduceLT, Int.reduceLE, Int.reduceAdd, Int.reduceSub, VC.regC_nil, VC.regC_cons, VC.regCK_eq, VC.callQ, VC.tailQ, VC.goCall, VC.chStep]
      refine ⟨⟨r1, r2⟩, ?_⟩
      exact hcut _ _ (SAME.walk hJ (by kernel_rfl)) ⟨{ v1 with vi := .slice A6 (s1.inn.length + 1) c6 }, P1, by rfl, hB5.trans (st6.below hH5.left), hP1, hX1, st6.hp⟩
    rw [VC.Now]
    have hqn := hqb.n x
    have hqy := hqb.yes x
    have hqw := hqb.waits x
    obtain ⟨y, hy0⟩ : ∃ y : Nat, c.frm = y := ⟨c.frm.toNat, by omega⟩
    have hyn : y < n := by omega
    have hyt : c.frm.toNat = y := by omega
    rw [hy0] at z2
    have hstep : mxstep n c s = mtake n x y s := by unfold mxstep; rw [if_neg k0, if_neg (by omega), if_neg k1, if_pos k2, hxt, hyt]
    simp -dsimp (maxSteps := 2000000) only [Fa.F31, e1, e3, rdI_of z0, z0, hsl, undef, tu, uf, ul, ur, VC.Now, VC.vc, VC.lib, VC.mapN_drewN, VC.mapB_drewN, VC.regQ, VC.loopK, VC.reg, VC.opP, VC.opS, VC.opZ, VC.nomulB, VC.pv, VC.thenF, VC.blkF, VC.retF, VC.resV, VC.oneV, VC.evo, VC.bin, VC.binI, VC.cmpI, VC.arithI, VC.ldv, VC.slv, VC.pickP, VC.holds, VC.chainOf, VC.look, VC.junk, VC.put, VC.eff, VC.callee, VC.pureB, VC.rdK, VC.rdKs, VC.okKs, VC.eqKs, VC.fillL, VC.putL, VC.stW, VC.stOK, VC.mixF, VC.setAll, Nat.reduceAdd, Nat.reduceSub, Nat.reduceMul, if_true, if_false, ↓reduceIte, forall_const, implies_true, reduceCtorEq, ne_eq, Nat.reduceBNe, Nat.reduceBEq, IntKind.signed, Nat.reduceEqDiff, Nat.reduceLeDiff, Nat.reduceLT, eq_self, Int.reduceEq, Int.reduceLT, Int.reduceLE, Int.reduceAdd, Int.reduceSub, VC.regC_nil, VC.regC_cons, VC.regCK_eq, VC.callQ, VC.tailQ, VC.goCall, VC.chStep]
    intro u9
    refine ⟨fits_i64 (by omega) (by omega), ?_⟩
    refine loop_slots Fa.mix [15, 16] [174, 175, 176, 177, 178, 179, 180, 181, 182, 183, 184, 185, 186, 187, 188, 189, 190, 191, 192, 193, 194, 195, 196, 197, 198, 199, 200, 201, 202, 203, 204] (fun m vs wx => m ≤ P.length ∧ vs = [.int .i64 (atF y x P m), .int .i64 ((m : Int) - 1)] ∧ Below rb w wx ∧
        Hp rb (DAll ⟨n, gl, ob, rb⟩ k cl vc s P ⟨vi0, .slice Ap P.length cp, wv0⟩ ++ [oBox sb (moveL c)]) wx) P.length (by kernel_rfl) rfl
      ⟨Nat.le_refl _, by rw [atF_end]; rfl, hBy, hF⟩ ?_
    clear hBy hF hR t0 t1 t2 t3 t4 hgl z0 z1 z2 hsl
    rintro m vs u8 wx ⟨hm, rfl, hBx, hH⟩
    rw [mixF_walk]
    rotate_left
    · kernel_rfl
    have h6 : (DAll ⟨n, gl, ob, rb⟩ k cl vc s P ⟨vi0, .slice Ap P.length cp, wv0⟩ ++ [oBox sb (moveL c)])[6 + n]? = some (oBox sb (moveL c)) := DAll_at _
    have fs : Box wx sb (moveL c) := hH.get (6 + n) h6
    have z1 := fs.at (i := 1) rfl
    have z2 := fs.at (i := 2) rfl
    rw [hx0] at z1
    rw [hy0] at z2
    have hsl := fs.1
    rcases m with _ | t
    · have e7 : (0 ≤ ((0 : Nat) : Int) - 1) = False := eq_false (by omega)
      have hat := atF_zero y x P
      cases hf : firstL y x P with
      | none =>
        rw [hf] at hat
        have hat : atF y x P 0 = -1 := hat
        have e8 : (atF y x P 0 < 0) = True := eq_true (by omega)
        have hds : mxstep n c s = (5, menter n x s) := by rw [menter_same hnd, hstep]; unfold mtake; rw [hXR.none hyn hxn hf]
        simp -dsimp (maxSteps := 2000000) only [Fa.F31, e7, e8, walkJ, VC.Now, VC.vc, VC.lib, VC.mapN_drewN, VC.mapB_drewN, VC.regQ, VC.loopK, VC.reg, VC.opP, VC.opS, VC.opZ, VC.nomulB, VC.pv, VC.thenF, VC.blkF, VC.retF, VC.resV, VC.oneV, VC.evo, VC.bin, VC.binI, VC.cmpI, VC.arithI, VC.ldv, VC.slv, VC.pickP, VC.holds, VC.chainOf, VC.look, VC.junk, VC.put, VC.eff, VC.callee, VC.pureB, VC.rdK, VC.rdKs, VC.okKs, VC.eqKs, VC.fillL, VC.putL, VC.stW, VC.stOK, VC.mixF, VC.setAll, Nat.reduceAdd, Nat.reduceSub, Nat.reduceMul, if_true, if_false, ↓reduceIte, forall_const, implies_true, reduceCtorEq, ne_eq, Nat.reduceBNe, Nat.reduceBEq, IntKind.signed, Nat.reduceEqDiff, Nat.reduceLeDiff, Nat.reduceLT, eq_self, Int.reduceEq, Int.reduceLT, Int.reduceLE, Int.reduceAdd, Int.reduceSub, VC.regC_nil, VC.regC_cons, VC.regCK_eq, VC.callQ, VC.tailQ, VC.goCall, VC.chStep]
        exact hcut2 _ _ (SAME.walk hJa (by kernel_rfl)) ⟨s, P, ⟨vi0, .slice Ap P.length cp, wv0⟩, 5, by rfl, hds, rfl, by omega, hXR, hBx, hH⟩
      | some t =>
        rw [hf] at hat
        have hat : atF y x P 0 = t := hat
        rw [hat]
        have e8 : ((t : Int) < 0) = False := eq_false (by omega)
        obtain ⟨ht, q, hway, hX1⟩ := hXR.take hyn hxn hf
        have hO : OwnK wx 0 200 4 P.length (.slice Ap P.length cp) (P.flatMap ltL) := hH.get 5 rfl
        obtain ⟨pg, c', hv, _, hpg⟩ := hO.form (by omega)
        simp only [Value.slice.injEq] at hv
        obtain ⟨rfl, _, rfl⟩ := hv
        have l3 := hO.cellL (K := 4) (fun _ => rfl) (i := t) (j := 3) ht (by omega)
        have k3 : (wx.cell? ⟨pg, t * 4 + 3, none⟩).isSome = true := by rw [l3.1]; rfl
        have f3 := l3.2
        have st5 := (DAll.come hH.left rfl ht).part hH
        obtain ⟨w5, hw5⟩ : ∃ w5, w5 = wx.setCell ⟨pg, t * 4 + 3, none⟩ (.bool true) := ⟨_, rfl⟩
        rw [← hw5] at st5
        have hH5 := st5.hp
        have hB5 := hBx.trans (st5.below hH)
        obtain ⟨P6, hP6⟩ : ∃ P6, P6 = P.set t (comeL P[t]) := ⟨_, rfl⟩
        have hp6 : P6.length = P.length := by rw [hP6]; simp
        have hO5 : OwnK w5 0 200 4 P6.length (.slice (some ⟨pg, 0, none⟩) P6.length cp) (P6.flatMap ltL) := by
          have h9 : OwnK w5 0 200 4 (P.set t (comeL P[t])).length (.slice (some ⟨pg, 0, none⟩) P.length cp) ((P.set t (comeL P[t])).flatMap ltL) := hH5.get 5 rfl
          rw [← hP6] at h9
          rw [← hp6] at h9
          rw [hp6] at h9 ⊢
          exact h9
        obtain ⟨z, hz⟩ : ∃ z, z = P[t].what := ⟨_, rfl⟩
        have l2 : w5.cell? ⟨pg, t * 4 + 2, none⟩ = some (.int .i64 z) := by
          have h9 := (hO5.cellL (K := 4) (fun _ => rfl) (i := t) (j := 2) (by omega) (by omega)).1
          have h8 : P6[t]'(by omega) = comeL P[t] := by subst hP6; simp
          rw [h8] at h9
          rw [hz]; exact h9
        rw [← hz] at hway
        rw [← hP6] at hH5 hX1
        have hpg5 : pg < w5.heap.size := hH5.lt 5 rfl (g := pg) rfl |>.2
        have hqz := hqb.what y x z (by rw [hway]; simp)
        obtain ⟨s2, hs2⟩ : ∃ s2 : MxS, s2 = { s with way := fun a b => if a = y ∧ b = x then q else s.way a b } := ⟨_, rfl⟩
        have hX1 : XR n s2.way P6 := by rw [hs2]; exact hX1
        have hpr2 : s2.pr = s.pr := by rw [hs2]
        have hin2 : s2.inn = s.inn := by rw [hs2]
        have R5 : Recs w5 gl n 5 (fun i => apL (s.pr i) (wv0 i)) := hH5.get 4 rfl
        have hgl5 := R5.1
        clear l3 hO hO5 hat st5
        by_cases hx : z = 0
        · have e10 := eq_true hx
          have hds : mxstep n c s = (0, menter n x { s2 with pr := upd s2.pr x { s2.pr x with yes := (s2.pr x).yes + 1 } }) := by rw [hstep]; unfold mtake; rw [hway, hs2]; simp only [if_pos hx]
          have t3 := R5.at (i := x) (j := 3) hxn (by omega) rfl
          have x3 := R5.soft (i := x) (j := 3) hxn (by omega)
          have o3 : (w5.cell? ⟨gl, x * 5 + 3, none⟩).isSome = true := by rw [t3]; rfl
          have st6 := (DAll.field hH5.left hxn (j := 3) (by omega) (iV ((s.pr x).yes + 1)) { s.pr x with yes := (s.pr x).yes + 1 } rfl rfl).part hH5
          simp -dsimp (maxSteps := 2000000) only [Fa.F31, e7, e8, hpg, k3, f3, ← hw5, rdI_of l2, l2, hpg5, e10, rdI_of t3, t3, hgl5, x3, o3, Int.toNat_natCast, Nat.zero_add, walkJ, VC.Now, VC.vc, VC.lib, VC.mapN_drewN, VC.mapB_drewN, VC.regQ, VC.loopK, VC.reg, VC.opP, VC.opS, VC.opZ, VC.nomulB, VC.pv, VC.thenF, VC.blkF, VC.retF, VC.resV, VC.oneV, VC.evo, VC.bin, VC.binI, VC.cmpI, VC.arithI, VC.ldv, VC.slv, VC.pickP, VC.holds, VC.chainOf, VC.look, VC.junk, VC.put, VC.eff, VC.callee, VC.pureB, VC.rdK, VC.rdKs, VC.okKs, VC.eqKs, VC.fillL, VC.putL, VC.stW, VC.stOK, VC.mixF, VC.setAll, Nat.reduceAdd, Nat.reduceSub, Nat.reduceMul, if_true, if_false, ↓reduceIte, forall_const, implies_true, reduceCtorEq, ne_eq, Nat.reduceBNe, Nat.reduceBEq, IntKind.signed, Nat.reduceEqDiff, Nat.reduceLeDiff, Nat.reduceLT, eq_self, Int.reduceEq, Int.reduceLT, Int.reduceLE, Int.reduceAdd, Int.reduceSub, VC.regC_nil, VC.regC_cons, VC.regCK_eq, VC.callQ, VC.tailQ, VC.goCall, VC.chStep]
          refine ⟨⟨by omega, by omega⟩, ⟨by omega, by omega⟩, fits_i64 (by omega) (by omega), ?_⟩
          refine hcut2 _ _ (SAME.walk hJa (by kernel_rfl)) ⟨{ s2 with pr := upd s2.pr x { s2.pr x with yes := (s2.pr x).yes + 1 } }, P6, (DV.mk vi0 (.slice (some ⟨pg, 0, none⟩) P.length cp) wv0), 0, by rfl, hds, hin2, by omega, hX1, hB5.trans (st6.below hH5), ?_⟩
          rw [hs2]; exact st6.hp
        have e10 := eq_false hx
        have t0 := R5.at (i := x) (j := 0) hxn (by omega) rfl
        simp only [Nat.add_zero] at t0
        obtain ⟨s6, hs6⟩ : ∃ s6 : MxS, s6 = { s with pr := upd s.pr x { s.pr x with n := max (s.pr x).n z } } := ⟨_, rfl⟩
        by_cases hmx : (s.pr x).n < z
        · have e11 := eq_true hmx
          have x0 := R5.soft (i := x) (j := 0) hxn (by omega)
          have o0 : (w5.cell? ⟨gl, x * 5, none⟩).isSome = true := by rw [t0]; rfl
          simp only [Nat.add_zero] at x0
          have st6 := (DAll.field hH5.left hxn (j := 0) (by omega) (iV z) { s.pr x with n := max (s.pr x).n z } (by show [iV (max (s.pr x).n z), _, _, _, _] = _; rw [show max (s.pr x).n z = z by omega]; rfl) rfl).part hH5
          simp only [Nat.add_zero] at st6
          obtain ⟨w6, hw6e⟩ : ∃ w6, w6 = w5.setCell ⟨gl, x * 5, none⟩ (.int .i64 z) := ⟨_, rfl⟩
          rw [show w5.setCell ⟨gl, x * 5, none⟩ (iV z) = w6 from hw6e.symm, ← hs6] at st6
          have hH6 := st6.hp
          have hB6 := hB5.trans (st6.below hH5)
          simp -dsimp (maxSteps := 2000000) only [Fa.F31, e7, e8, hpg, k3, f3, ← hw5, rdI_of l2, l2, hpg5, e10, e11, rdI_of t0, t0, hgl5, x0, o0, ← hw6e, Int.toNat_natCast, Nat.zero_add, walkJ, VC.Now, VC.vc, VC.lib, VC.mapN_drewN, VC.mapB_drewN, VC.regQ, VC.loopK, VC.reg, VC.opP, VC.opS, VC.opZ, VC.nomulB, VC.pv, VC.thenF, VC.blkF, VC.retF, VC.resV, VC.oneV, VC.evo, VC.bin, VC.binI, VC.cmpI, VC.arithI, VC.ldv, VC.slv, VC.pickP, VC.holds, VC.chainOf, VC.look, VC.junk, VC.put, VC.eff, VC.callee, VC.pureB, VC.rdK, VC.rdKs, VC.okKs, VC.eqKs, VC.fillL, VC.putL, VC.stW, VC.stOK, VC.mixF, VC.setAll, Nat.reduceAdd, Nat.reduceSub, Nat.reduceMul, if_true, if_false, ↓reduceIte, forall_const, implies_true, reduceCtorEq, ne_eq, Nat.reduceBNe, Nat.reduceBEq, IntKind.signed, Nat.reduceEqDiff, Nat.reduceLeDiff, Nat.reduceLT, eq_self, Int.reduceEq, Int.reduceLT, Int.reduceLE, Int.reduceAdd, Int.reduceSub, VC.regC_nil, VC.regC_cons, VC.regCK_eq, VC.callQ, VC.tailQ, VC.goCall, VC.chStep]
          refine ⟨⟨by omega, by omega⟩, ⟨by omega, by omega⟩, ?_⟩
          clear st6 hw6e hw5 hH5 hB5 R5 hgl5 x0 o0 t0 k3 f3 hH hBx z1 z2 hsl fs h6
          clear hQ5 hcut hJ hJb
          revert n len cap w rb ob gl u2 k vc P b o s c wy sb Q3 cl vi0 wv0 cp x u6 u7 Q5 y u9 u8 wx t q pg w5 P6 z s2 s6 w6
          exact HH.1
        · have e11 := eq_false hmx
          have hss : s6 = s := by rw [hs6, show ({ s.pr x with n := max (s.pr x).n z } : MP) = s.pr x by rw [show max (s.pr x).n z = (s.pr x).n by omega], upd_self]
          have hH6 := hH5
          have hB6 := hB5
          rw [← hss] at hH6
          simp -dsimp (maxSteps := 2000000) only [Fa.F31, e7, e8, hpg, k3, f3, ← hw5, rdI_of l2, l2, hpg5, e10, e11, rdI_of t0, t0, hgl5, Int.toNat_natCast, Nat.zero_add, walkJ, VC.Now, VC.vc, VC.lib, VC.mapN_drewN, VC.mapB_drewN, VC.regQ, VC.loopK, VC.reg, VC.opP, VC.opS, VC.opZ, VC.nomulB, VC.pv, VC.thenF, VC.blkF, VC.retF, VC.resV, VC.oneV, VC.evo, VC.bin, VC.binI, VC.cmpI, VC.arithI, VC.ldv, VC.slv, VC.pickP, VC.holds, VC.chainOf, VC.look, VC.junk, VC.put, VC.eff, VC.callee, VC.pureB, VC.rdK, VC.rdKs, VC.okKs, VC.eqKs, VC.fillL, VC.putL, VC.stW, VC.stOK, VC.mixF, VC.setAll, Nat.reduceAdd, Nat.reduceSub, Nat.reduceMul, if_true, if_false, ↓reduceIte, forall_const, implies_true, reduceCtorEq, ne_eq, Nat.reduceBNe, Nat.reduceBEq, IntKind.signed, Nat.reduceEqDiff, Nat.reduceLeDiff, Nat.reduceLT, eq_self, Int.reduceEq, Int.reduceLT, Int.reduceLE, Int.reduceAdd, Int.reduceSub, VC.regC_nil, VC.regC_cons, VC.regCK_eq, VC.callQ, VC.tailQ, VC.goCall, VC.chStep]
          refine ⟨⟨by omega, by omega⟩, ⟨by omega, by omega⟩, ?_⟩
          clear hss hw5 hH5 hB5 R5 hgl5 t0 k3 f3 hH hBx z1 z2 hsl fs h6
          clear hQ5 hcut hJ hJb
          revert n len cap w rb ob gl u2 k vc P b o s c wy sb Q3 cl vi0 wv0 cp x u6 u7 Q5 y u9 u8 wx t q pg w5 P6 z s2 s6
          exact HH.2
    · have e7 : (0 ≤ ((t + 1 : Nat) : Int) - 1) = True := eq_true (by omega)
      have ht : t < P.length := by omega
      have hO : OwnK wx 0 200 4 P.length (.slice Ap P.length cp) (P.flatMap ltL) := hH.get 5 rfl
      obtain ⟨pg, c', hv, _, hpg⟩ := hO.form (by omega)
      simp only [Value.slice.injEq] at hv
      obtain ⟨rfl, _, rfl⟩ := hv
      have l0 : wx.cell? ⟨pg, t * 4, none⟩ = some (.int .i64 P[t].fr) := (hO.cellL (K := 4) (fun _ => rfl) (i := t) (j := 0) ht (by omega)).1
      have l1 : wx.cell? ⟨pg, t * 4 + 1, none⟩ = some (.int .i64 P[t].to) := (hO.cellL (K := 4) (fun _ => rfl) (i := t) (j := 1) ht (by omega)).1
      have l3 : wx.cell? ⟨pg, t * 4 + 3, none⟩ = some (.bool P[t].come) := (hO.cellL (K := 4) (fun _ => rfl) (i := t) (j := 3) ht (by omega)).1
      have hat := atF_step (i := y) (j := x) ht
      have et : ((t + 1 : Nat) : Int) - 1 = (t : Int) := by omega
      rw [et]
      have e7 : (0 ≤ (t : Int)) = True := eq_true (by omega)
      generalize hLt : P[t] = L at l0 l1 l3 hat
      cases hcm : L.come with
      | true =>
        rw [hcm] at l3
        have hat : atF y x P t = atF y x P (t + 1) := by rw [hat, if_neg]; unfold isL; rw [hcm]; simp
        simp -dsimp (maxSteps := 2000000) only [Fa.F31, e7, rdB_of l3, l3, hpg, Int.toNat_natCast, Nat.zero_add, undef, tu, uf, ul, ur, walkJ, VC.Now, VC.vc, VC.lib, VC.mapN_drewN, VC.mapB_drewN, VC.regQ, VC.loopK, VC.reg, VC.opP, VC.opS, VC.opZ, VC.nomulB, VC.pv, VC.thenF, VC.blkF, VC.retF, VC.resV, VC.oneV, VC.evo, VC.bin, VC.binI, VC.cmpI, VC.arithI, VC.ldv, VC.slv, VC.pickP, VC.holds, VC.chainOf, VC.look, VC.junk, VC.put, VC.eff, VC.callee, VC.pureB, VC.rdK, VC.rdKs, VC.okKs, VC.eqKs, VC.fillL, VC.putL, VC.stW, VC.stOK, VC.mixF, VC.setAll, Nat.reduceAdd, Nat.reduceSub, Nat.reduceMul, if_true, if_false, ↓reduceIte, forall_const, implies_true, reduceCtorEq, ne_eq, Nat.reduceBNe, Nat.reduceBEq, IntKind.signed, Nat.reduceEqDiff, Nat.reduceLeDiff, Nat.reduceLT, eq_self, Int.reduceEq, Int.reduceLT, Int.reduceLE, Int.reduceAdd, Int.reduceSub, VC.regC_nil, VC.regC_cons, VC.regCK_eq, VC.callQ, VC.tailQ, VC.goCall, VC.chStep]
        exact ⟨by omega, fun u m3 => ⟨fits_i64 (by omega) (by omega), SAME.intro (by kernel_rfl), t, by omega, by omega, by rw [hat], below_drewN hBx m3, hH.drewN m3⟩⟩
      | false =>
        rw [hcm] at l3
        by_cases g1 : L.fr = y
        case neg =>
          have e1' := eq_false g1
          have hat : atF y x P t = atF y x P (t + 1) := by rw [hat, if_neg]; unfold isL; rw [decide_eq_false g1]; simp
          simp -dsimp (maxSteps := 2000000) only [Fa.F31, e7, e1', rdB_of l3, l3, rdI_of l0, l0, rdI_of z2, z2, hsl, hpg, Int.toNat_natCast, Nat.zero_add, undef, tu, uf, ul, ur, walkJ, VC.Now, VC.vc, VC.lib, VC.mapN_drewN, VC.mapB_drewN, VC.regQ, VC.loopK, VC.reg, VC.opP, VC.opS, VC.opZ, VC.nomulB, VC.pv, VC.thenF, VC.blkF, VC.retF, VC.resV, VC.oneV, VC.evo, VC.bin, VC.binI, VC.cmpI, VC.arithI, VC.ldv, VC.slv, VC.pickP, VC.holds, VC.chainOf, VC.look, VC.junk, VC.put, VC.eff, VC.callee, VC.pureB, VC.rdK, VC.rdKs, VC.okKs, VC.eqKs, VC.fillL, VC.putL, VC.stW, VC.stOK, VC.mixF, VC.setAll, Nat.reduceAdd, Nat.reduceSub, Nat.reduceMul, if_true, if_false, ↓reduceIte, forall_const, implies_true, reduceCtorEq, ne_eq, Nat.reduceBNe, Nat.reduceBEq, IntKind.signed, Nat.reduceEqDiff, Nat.reduceLeDiff, Nat.reduceLT, eq_self, Int.reduceEq, Int.reduceLT, Int.reduceLE, Int.reduceAdd, Int.reduceSub, VC.regC_nil, VC.regC_cons, VC.regCK_eq, VC.callQ, VC.tailQ, VC.goCall, VC.chStep]
          exact ⟨by omega, by omega, fun u m3 => ⟨fits_i64 (by omega) (by omega), SAME.intro (by kernel_rfl), t, by omega, by omega, by rw [hat], below_drewN hBx m3, hH.drewN m3⟩⟩
        have e1' := eq_true g1
        by_cases g2 : L.to = x
        case neg =>
          have e2' := eq_false g2
          have hat : atF y x P t = atF y x P (t + 1) := by rw [hat, if_neg]; unfold isL; rw [decide_eq_false g2]; simp
          simp -dsimp (maxSteps := 2000000) only [Fa.F31, e7, e1', e2', rdB_of l3, l3, rdI_of l0, l0, rdI_of l1, l1, rdI_of z1, z1, rdI_of z2, z2, hsl, hpg, Int.toNat_natCast, Nat.zero_add, undef, tu, uf, ul, ur, walkJ, VC.Now, VC.vc, VC.lib, VC.mapN_drewN, VC.mapB_drewN, VC.regQ, VC.loopK, VC.reg, VC.opP, VC.opS, VC.opZ, VC.nomulB, VC.pv, VC.thenF, VC.blkF, VC.retF, VC.resV, VC.oneV, VC.evo, VC.bin, VC.binI, VC.cmpI, VC.arithI, VC.ldv, VC.slv, VC.pickP, VC.holds, VC.chainOf, VC.look, VC.junk, VC.put, VC.eff, VC.callee, VC.pureB, VC.rdK, VC.rdKs, VC.okKs, VC.eqKs, VC.fillL, VC.putL, VC.stW, VC.stOK, VC.mixF, VC.setAll, Nat.reduceAdd, Nat.reduceSub, Nat.reduceMul, if_true, if_false, ↓reduceIte, forall_const, implies_true, reduceCtorEq, ne_eq, Nat.reduceBNe, Nat.reduceBEq, IntKind.signed, Nat.reduceEqDiff, Nat.reduceLeDiff, Nat.reduceLT, eq_self, Int.reduceEq, Int.reduceLT, Int.reduceLE, Int.reduceAdd, Int.reduceSub, VC.regC_nil, VC.regC_cons, VC.regCK_eq, VC.callQ, VC.tailQ, VC.goCall, VC.chStep]
          exact ⟨by omega, by omega, by omega, fun u m3 => ⟨fits_i64 (by omega) (by omega), SAME.intro (by kernel_rfl), t, by omega, by omega, by rw [hat], below_drewN hBx m3, hH.drewN m3⟩⟩
        have e2' := eq_true g2
        have hat : atF y x P t = t := by rw [hat, if_pos]; unfold isL; rw [hcm, decide_eq_true g1, decide_eq_true g2]; rfl
        simp -dsimp (maxSteps := 2000000) only [Fa.F31, e7, e1', e2', rdB_of l3, l3, rdI_of l0, l0, rdI_of l1, l1, rdI_of z1, z1, rdI_of z2, z2, hsl, hpg, Int.toNat_natCast, Nat.zero_add, undef, tu, uf, ul, ur, walkJ, VC.Now, VC.vc, VC.lib, VC.mapN_drewN, VC.mapB_drewN, VC.regQ, VC.loopK, VC.reg, VC.opP, VC.opS, VC.opZ, VC.nomulB, VC.pv, VC.thenF, VC.blkF, VC.retF, VC.resV, VC.oneV, VC.evo, VC.bin, VC.binI, VC.cmpI, VC.arithI, VC.ldv, VC.slv, VC.pickP, VC.holds, VC.chainOf, VC.look, VC.junk, VC.put, VC.eff, VC.callee, VC.pureB, VC.rdK, VC.rdKs, VC.okKs, VC.eqKs, VC.fillL, VC.putL, VC.stW, VC.stOK, VC.mixF, VC.setAll, Nat.reduceAdd, Nat.reduceSub, Nat.reduceMul, if_true, if_false, ↓reduceIte, forall_const, implies_true, reduceCtorEq, ne_eq, Nat.reduceBNe, Nat.reduceBEq, IntKind.signed, Nat.reduceEqDiff, Nat.reduceLeDiff, Nat.reduceLT, eq_self, Int.reduceEq, Int.reduceLT, Int.reduceLE, Int.reduceAdd, Int.reduceSub, VC.regC_nil, VC.regC_cons, VC.regCK_eq, VC.callQ, VC.tailQ, VC.goCall, VC.chStep]
        exact ⟨by omega, by omega, by omega, fun u m3 => ⟨fits_i64 (by omega) (by omega), SAME.intro (by kernel_rfl), t, by omega, by omega, by rw [hat], below_drewN hBx m3, hH.drewN m3⟩⟩
end Go.Proofs.Ytelfmhiaafkimaa
