/- One in at a time, the document's: one asks. -/
import Derived.Test.YtelfmhiaafkimaaMxD3
import Derived.Test.YtelfmhiaafkimaaMx3
namespace Go.Proofs.Ytelfmhiaafkimaa
open Go Go.RowKit Go.VC
set_option linter.unusedSimpArgs false
set_option linter.unusedVariables false
theorem DAll_congr {d : DX} {k : Nat} {codes : List Value} {vc : Value} {s s' : MxS} {P : List Letter} {v : DV} (hp : s'.pr = s.pr) (hi : s'.inn = s.inn) : DAll d k codes vc s' P v = DAll d k codes vc s P v := by
  unfold DAll; rw [hp, hi]
theorem DAll_len {d : DX} {k : Nat} {codes : List Value} {vc : Value} {s : MxS} {P : List Letter} {v : DV} : (DAll d k codes vc s P v).length = 6 + d.n := by simp; omega
theorem DAll_at {d : DX} {k : Nat} {codes : List Value} {vc : Value} {s : MxS} {P : List Letter} {v : DV} (o : Ob) : (DAll d k codes vc s P v ++ [o])[6 + d.n]? = some o := by
  rw [List.getElem?_append_right (by rw [DAll_len]; omega), DAll_len, Nat.sub_self]; rfl
set_option maxRecDepth 8000 in
set_option maxHeartbeats 8000000 in
theorem mxD_ask : mutexBut.1.1 := by
  unfold mutexBut
  intro n len cap w h1 hn hlen rb ob gl u2 k vc v P hPl hk b o s hXR hqb hnd c wy hBy sb f2 z0 z1 z2 hsl Q3 k0 k1 e1 e2 q1 a1 q2 a2 cl hH2 nsb hcut
  have e3 : (c.kind = 3) = False := eq_false (by omega)
  obtain ⟨x, hx0⟩ : ∃ x : Nat, c.who = x := ⟨c.who.toNat, by omega⟩
  have hxn : x < n := by omega
  have hxt : c.who.toNat = x := by omega
  rw [hx0] at z1 a1 a2
  try rw [hx0] at a5
  have hrs : rb ≤ sb := by
    have g1 := (hH2.lt 0 rfl (g := ob) rfl).1
    have g2 := nsb ob (foot_at (i := 0) rfl rfl)
    omega
  have hF : Hp rb (DAll ⟨n, gl, ob, rb⟩ k cl vc s P v ++ [oBox sb (moveL c)]) wy := Hp.snoc hH2 f2 fun g hg => by
    cases hg
    exact ⟨hrs, fun hf => absurd (nsb sb hf) (Nat.lt_irrefl _)⟩
  have hR : Recs wy gl n 5 (fun i => apL (s.pr i) ((v).wv i)) := hH2.get 4 rfl
  have t0 := hR.at (i := x) (j := 0) hxn (by omega) rfl
  have t1 := hR.at (i := x) (j := 1) hxn (by omega) rfl
  have t2 := hR.at (i := x) (j := 2) hxn (by omega) rfl
  have t3 := hR.at (i := x) (j := 3) hxn (by omega) rfl
  have t4 := hR.at (i := x) (j := 4) hxn (by omega) rfl
  simp only [Nat.add_zero] at t0
  have hgl := hR.1
  have hJ : okJ ([7, 10, 11, 12, 14, 15, 16, 17] ++ List.range' 30 275) [7, 10] [11, 12, 14, 15, 16, 17, 30, 31, 32, 33, 34, 35, 36, 37, 38, 39, 40, 41, 42, 43, 44, 45, 46, 47, 48, 49, 50, 51, 52, 53, 54, 55, 56, 57, 58, 59, 60, 61, 62, 63, 64, 65, 66, 67, 68, 69, 70, 71, 72, 73, 74, 75, 76, 77, 78, 79, 80, 81, 82, 83, 84, 85, 86, 87, 88, 89, 90, 91, 92, 93, 94, 95, 96, 97, 98, 99, 100, 101, 102, 103, 104, 105, 106, 107, 108, 109, 110, 111, 112, 113, 114, 115, 116, 117, 118, 119, 120, 121, 122, 123, 124, 125, 126, 127, 128, 129, 130, 131, 132, 133, 134, 135, 136, 137, 138, 139, 140, 141, 142, 143, 144, 145, 146, 147, 148, 149, 150, 151, 152, 153, 154, 155, 156, 157, 158, 159, 160, 161, 162, 163, 164, 165, 166, 167, 168, 169, 170, 171, 172, 173, 174, 175, 176, 177, 178, 179, 180, 181, 182, 183, 184, 185, 186, 187, 188, 189, 190, 191, 192, 193, 194, 195, 196, 197, 198, 199, 200, 201, 202, 203, 204, 205, 206, 207, 208, 209, 210, 211, 212, 213, 214, 215, 216, 217, 218, 219, 220, 221, 222, 223, 224, 225, 226, 227, 228, 229, 230, 231, 232, 233, 234, 235, 236, 237, 238, 239, 240, 241, 242, 243, 244, 245, 246, 247, 248, 249, 250, 251, 252, 253, 254, 255, 256, 257, 258, 259, 260, 261, 262, 263, 264, 265, 266, 267, 268, 269, 270, 271, 272, 273, 274, 275, 276, 277, 278, 279, 280, 281, 282, 283, 284, 285, 286, 287, 288, 289, 290, 291, 292, 293, 294, 295, 296, 297, 298, 299, 300, 301, 302, 303, 304] = true := by kernel_rfl
  (repeat rw [vc_seq]); refine vc_plain _ fun Q4 hQ4 => ?_; simp -dsimp (maxSteps := 2000000) only [Fa.F31, e1, e2, rdI_of z0, z0, hsl, undef, tu, uf, ul, ur, VC.Now, VC.vc_skip, VC.vc_ret, VC.vc_exit, VC.vc_block, VC.vc_cond, VC.vc_region, VC.lib, VC.mapN_drewN, VC.mapB_drewN, VC.regQ, VC.loopK, VC.reg, VC.opP, VC.opS, VC.opZ, VC.nomulB, VC.pv, VC.thenF, VC.blkF, VC.retF, VC.resV, VC.oneV, VC.evo, VC.bin, VC.binI, VC.cmpI, VC.arithI, VC.ldv, VC.slv, VC.pickP, VC.holds, VC.chainOf, VC.look, VC.junk, VC.put, VC.eff, VC.callee, VC.pureB, VC.rdK, VC.rdKs, VC.okKs, VC.eqKs, VC.fillL, VC.putL, VC.stW, VC.stOK, VC.mixF, VC.setAll, Nat.reduceAdd, Nat.reduceSub, Nat.reduceMul, if_true, if_false, ↓reduceIte, forall_const, implies_true, reduceCtorEq, ne_eq, Nat.reduceBNe, Nat.reduceBEq, IntKind.signed, Nat.reduceEqDiff, Nat.reduceLeDiff, Nat.reduceLT, eq_self, Int.reduceEq, Int.reduceLT, Int.reduceLE, Int.reduceAdd, Int.reduceSub, VC.regC_nil, VC.regC_cons, VC.regCK_eq, VC.callQ, VC.tailQ, VC.goCall, VC.chStep]
  intro u6
  subst hQ4
  simp -dsimp (maxSteps := 2000000) only [Fa.F31, VC.Now, VC.vc_skip, VC.vc_ret, VC.vc_exit, VC.vc_block, VC.vc_cond, VC.vc_region, VC.lib, VC.mapN_drewN, VC.mapB_drewN, VC.regQ, VC.loopK, VC.reg, VC.opP, VC.opS, VC.opZ, VC.nomulB, VC.pv, VC.thenF, VC.blkF, VC.retF, VC.resV, VC.oneV, VC.evo, VC.bin, VC.binI, VC.cmpI, VC.arithI, VC.ldv, VC.slv, VC.pickP, VC.holds, VC.chainOf, VC.look, VC.junk, VC.put, VC.eff, VC.callee, VC.pureB, VC.rdK, VC.rdKs, VC.okKs, VC.eqKs, VC.fillL, VC.putL, VC.stW, VC.stOK, VC.mixF, VC.setAll, Nat.reduceAdd, Nat.reduceSub, Nat.reduceMul, if_true, if_false, ↓reduceIte, forall_const, implies_true, reduceCtorEq, ne_eq, Nat.reduceBNe, Nat.reduceBEq, IntKind.signed, Nat.reduceEqDiff, Nat.reduceLeDiff, Nat.reduceLT, eq_self, Int.reduceEq, Int.reduceLT, Int.reduceLE, Int.reduceAdd, Int.reduceSub, VC.regC_nil, VC.regC_cons, VC.regCK_eq, VC.callQ, VC.tailQ, VC.goCall, VC.chStep]
  (repeat rw [vc_seq]); refine vc_plain _ fun Q4 hQ4 => ?_; simp -dsimp (maxSteps := 2000000) only [Fa.F31, rdI_of z0, z0, rdI_of z1, z1, rdI_of z2, z2, hsl, a1, a2, e1, e2, undef, tu, uf, ul, ur, VC.Now, VC.vc_skip, VC.vc_ret, VC.vc_exit, VC.vc_block, VC.vc_cond, VC.vc_region, VC.lib, VC.mapN_drewN, VC.mapB_drewN, VC.regQ, VC.loopK, VC.reg, VC.opP, VC.opS, VC.opZ, VC.nomulB, VC.pv, VC.thenF, VC.blkF, VC.retF, VC.resV, VC.oneV, VC.evo, VC.bin, VC.binI, VC.cmpI, VC.arithI, VC.ldv, VC.slv, VC.pickP, VC.holds, VC.chainOf, VC.look, VC.junk, VC.put, VC.eff, VC.callee, VC.pureB, VC.rdK, VC.rdKs, VC.okKs, VC.eqKs, VC.fillL, VC.putL, VC.stW, VC.stOK, VC.mixF, VC.setAll, Nat.reduceAdd, Nat.reduceSub, Nat.reduceMul, if_true, if_false, ↓reduceIte, forall_const, implies_true, reduceCtorEq, ne_eq, Nat.reduceBNe, Nat.reduceBEq, IntKind.signed, Nat.reduceEqDiff, Nat.reduceLeDiff, Nat.reduceLT, eq_self, Int.reduceEq, Int.reduceLT, Int.reduceLE, Int.reduceAdd, Int.reduceSub, VC.regC_nil, VC.regC_cons, VC.regCK_eq, VC.callQ, VC.tailQ, VC.goCall, VC.chStep]
  intro u7
  subst hQ4
  simp -dsimp (maxSteps := 2000000) only [Fa.F31, VC.Now, VC.vc_skip, VC.vc_ret, VC.vc_exit, VC.vc_block, VC.vc_cond, VC.vc_region, VC.lib, VC.mapN_drewN, VC.mapB_drewN, VC.regQ, VC.loopK, VC.reg, VC.opP, VC.opS, VC.opZ, VC.nomulB, VC.pv, VC.thenF, VC.blkF, VC.retF, VC.resV, VC.oneV, VC.evo, VC.bin, VC.binI, VC.cmpI, VC.arithI, VC.ldv, VC.slv, VC.pickP, VC.holds, VC.chainOf, VC.look, VC.junk, VC.put, VC.eff, VC.callee, VC.pureB, VC.rdK, VC.rdKs, VC.okKs, VC.eqKs, VC.fillL, VC.putL, VC.stW, VC.stOK, VC.mixF, VC.setAll, Nat.reduceAdd, Nat.reduceSub, Nat.reduceMul, if_true, if_false, ↓reduceIte, forall_const, implies_true, reduceCtorEq, ne_eq, Nat.reduceBNe, Nat.reduceBEq, IntKind.signed, Nat.reduceEqDiff, Nat.reduceLeDiff, Nat.reduceLT, eq_self, Int.reduceEq, Int.reduceLT, Int.reduceLE, Int.reduceAdd, Int.reduceSub, VC.regC_nil, VC.regC_cons, VC.regCK_eq, VC.callQ, VC.tailQ, VC.goCall, VC.chStep]
  (repeat rw [vc_seq]); refine vc_plain _ fun Q4 hQ4 => ?_; simp -dsimp (maxSteps := 2000000) only [Fa.F31, rdI_of z1, z1, hsl, Int.toNat_natCast, Nat.zero_add, VC.Now, VC.vc_skip, VC.vc_ret, VC.vc_exit, VC.vc_block, VC.vc_cond, VC.vc_region, VC.lib, VC.mapN_drewN, VC.mapB_drewN, VC.regQ, VC.loopK, VC.reg, VC.opP, VC.opS, VC.opZ, VC.nomulB, VC.pv, VC.thenF, VC.blkF, VC.retF, VC.resV, VC.oneV, VC.evo, VC.bin, VC.binI, VC.cmpI, VC.arithI, VC.ldv, VC.slv, VC.pickP, VC.holds, VC.chainOf, VC.look, VC.junk, VC.put, VC.eff, VC.callee, VC.pureB, VC.rdK, VC.rdKs, VC.okKs, VC.eqKs, VC.fillL, VC.putL, VC.stW, VC.stOK, VC.mixF, VC.setAll, Nat.reduceAdd, Nat.reduceSub, Nat.reduceMul, if_true, if_false, ↓reduceIte, forall_const, implies_true, reduceCtorEq, ne_eq, Nat.reduceBNe, Nat.reduceBEq, IntKind.signed, Nat.reduceEqDiff, Nat.reduceLeDiff, Nat.reduceLT, eq_self, Int.reduceEq, Int.reduceLT, Int.reduceLE, Int.reduceAdd, Int.reduceSub, VC.regC_nil, VC.regC_cons, VC.regCK_eq, VC.callQ, VC.tailQ, VC.goCall, VC.chStep]
  refine ⟨⟨by omega, by omega⟩, ?_⟩
  subst hQ4
  simp -dsimp (maxSteps := 2000000) only [Fa.F31, VC.Now, VC.vc_skip, VC.vc_ret, VC.vc_exit, VC.vc_block, VC.vc_cond, VC.vc_region, VC.lib, VC.mapN_drewN, VC.mapB_drewN, VC.regQ, VC.loopK, VC.reg, VC.opP, VC.opS, VC.opZ, VC.nomulB, VC.pv, VC.thenF, VC.blkF, VC.retF, VC.resV, VC.oneV, VC.evo, VC.bin, VC.binI, VC.cmpI, VC.arithI, VC.ldv, VC.slv, VC.pickP, VC.holds, VC.chainOf, VC.look, VC.junk, VC.put, VC.eff, VC.callee, VC.pureB, VC.rdK, VC.rdKs, VC.okKs, VC.eqKs, VC.fillL, VC.putL, VC.stW, VC.stOK, VC.mixF, VC.setAll, Nat.reduceAdd, Nat.reduceSub, Nat.reduceMul, if_true, if_false, ↓reduceIte, forall_const, implies_true, reduceCtorEq, ne_eq, Nat.reduceBNe, Nat.reduceBEq, IntKind.signed, Nat.reduceEqDiff, Nat.reduceLeDiff, Nat.reduceLT, eq_self, Int.reduceEq, Int.reduceLT, Int.reduceLE, Int.reduceAdd, Int.reduceSub, VC.regC_nil, VC.regC_cons, VC.regCK_eq, VC.callQ, VC.tailQ, VC.goCall, VC.chStep]
  rw [vc_seq]
  refine vc_plain _ fun Q5 hQ5 => ?_
  have hJb : okJ ([7, 10] ++ List.range' 281 23) [7, 10] [281, 282, 283, 284, 285, 286, 287, 288, 289, 290, 291, 292, 293, 294, 295, 296, 297, 298, 299, 300, 301, 302, 303] = true := by kernel_rfl
  have hJa : okJ ([7, 10, 12, 14, 15, 16, 17] ++ List.range' 79 202) [7, 10] [12, 14, 15, 16, 17, 79, 80, 81, 82, 83, 84, 85, 86, 87, 88, 89, 90, 91, 92, 93, 94, 95, 96, 97, 98, 99, 100, 101, 102, 103, 104, 105, 106, 107, 108, 109, 110, 111, 112, 113, 114, 115, 116, 117, 118, 119, 120, 121, 122, 123, 124, 125, 126, 127, 128, 129, 130, 131, 132, 133, 134, 135, 136, 137, 138, 139, 140, 141, 142, 143, 144, 145, 146, 147, 148, 149, 150, 151, 152, 153, 154, 155, 156, 157, 158, 159, 160, 161, 162, 163, 164, 165, 166, 167, 168, 169, 170, 171, 172, 173, 174, 175, 176, 177, 178, 179, 180, 181, 182, 183, 184, 185, 186, 187, 188, 189, 190, 191, 192, 193, 194, 195, 196, 197, 198, 199, 200, 201, 202, 203, 204, 205, 206, 207, 208, 209, 210, 211, 212, 213, 214, 215, 216, 217, 218, 219, 220, 221, 222, 223, 224, 225, 226, 227, 228, 229, 230, 231, 232, 233, 234, 235, 236, 237, 238, 239, 240, 241, 242, 243, 244, 245, 246, 247, 248, 249, 250, 251, 252, 253, 254, 255, 256, 257, 258, 259, 260, 261, 262, 263, 264, 265, 266, 267, 268, 269, 270, 271, 272, 273, 274, 275, 276, 277, 278, 279, 280] = true := by kernel_rfl
  clear hH2 f2 nsb
  refine vc_cut [7, 10] [12, 14, 15, 16, 17, 79, 80, 81, 82, 83, 84, 85, 86, 87, 88, 89, 90, 91, 92, 93, 94, 95, 96, 97, 98, 99, 100, 101, 102, 103, 104, 105, 106, 107, 108, 109, 110, 111, 112, 113, 114, 115, 116, 117, 118, 119, 120, 121, 122, 123, 124, 125, 126, 127, 128, 129, 130, 131, 132, 133, 134, 135, 136, 137, 138, 139, 140, 141, 142, 143, 144, 145, 146, 147, 148, 149, 150, 151, 152, 153, 154, 155, 156, 157, 158, 159, 160, 161, 162, 163, 164, 165, 166, 167, 168, 169, 170, 171, 172, 173, 174, 175, 176, 177, 178, 179, 180, 181, 182, 183, 184, 185, 186, 187, 188, 189, 190, 191, 192, 193, 194, 195, 196, 197, 198, 199, 200, 201, 202, 203, 204, 205, 206, 207, 208, 209, 210, 211, 212, 213, 214, 215, 216, 217, 218, 219, 220, 221, 222, 223, 224, 225, 226, 227, 228, 229, 230, 231, 232, 233, 234, 235, 236, 237, 238, 239, 240, 241, 242, 243, 244, 245, 246, 247, 248, 249, 250, 251, 252, 253, 254, 255, 256, 257, 258, 259, 260, 261, 262, 263, 264, 265, 266, 267, 268, 269, 270, 271, 272, 273, 274, 275, 276, 277, 278, 279, 280] (fun vs w' => ∃ (s1 : MxS) (P1 : List Letter) (v1 : DV) (cd : Int), vs = [v1.pv, .int .i64 cd] ∧ mxstep n c s = (cd, menter n x s1) ∧ s1.inn = s.inn ∧ P1.length ≤ P.length + 130 ∧ XR n s1.way P1 ∧ Below rb w w' ∧
    Hp rb (DAll ⟨n, gl, ob, rb⟩ k cl vc s1 P1 v1 ++ [oBox sb (moveL c)]) w') (fun vs u8 w4 hJ => ?rest) (fun hcut2 => ?main)
  case rest =>
    obtain ⟨s1, P1, v1, cd, rfl, hres, hin1, hP1, hX1, hB4, hH4⟩ := hJ
    rw [hres] at hcut
    have R4 : Recs w4 gl n 5 (fun i => apL (s1.pr i) (v1.wv i)) := hH4.get 4 rfl
    clear hres hF hBy z0 z1 z2 hsl hR t0 t1 t2 t3 t4 hgl hXR
    have t1 := R4.at (i := x) (j := 1) hxn (by omega) rfl
    have t3 := R4.at (i := x) (j := 3) hxn (by omega) rfl
    have hgl := R4.1
    have hql : s1.inn.length ≤ k := by rw [hin1]; exact hqb.inn
    subst hQ5
    rw [mixF_walk]
    rotate_left
    · kernel_rfl
    have x1 := R4.soft (i := x) (j := 1) hxn (by omega)
    have k1 : (w4.cell? ⟨gl, x * 5 + 1, none⟩).isSome = true := by rw [t1]; rfl
    by_cases d1 : (s1.pr x).how = 1
    case neg =>
      have ed := eq_false d1
      have hm : menter n x s1 = s1 := if_neg (fun hh => d1 hh.1)
      rw [hm] at hcut
      simp -dsimp (maxSteps := 2000000) only [Fa.F31, rdI_of t1, t1, ed, hgl, undef, tu, uf, ul, ur, walkJ, VC.Now, VC.vc, VC.lib, VC.mapN_drewN, VC.mapB_drewN, VC.regQ, VC.loopK, VC.reg, VC.opP, VC.opS, VC.opZ, VC.nomulB, VC.pv, VC.thenF, VC.blkF, VC.retF, VC.resV, VC.oneV, VC.evo, VC.bin, VC.binI, VC.cmpI, VC.arithI, VC.ldv, VC.slv, VC.pickP, VC.holds, VC.chainOf, VC.look, VC.junk, VC.put, VC.eff, VC.callee, VC.pureB, VC.rdK, VC.rdKs, VC.okKs, VC.eqKs, VC.fillL, VC.putL, VC.stW, VC.stOK, VC.mixF, VC.setAll, Nat.reduceAdd, Nat.reduceSub, Nat.reduceMul, if_true, if_false, ↓reduceIte, forall_const, implies_true, reduceCtorEq, ne_eq, Nat.reduceBNe, Nat.reduceBEq, IntKind.signed, Nat.reduceEqDiff, Nat.reduceLeDiff, Nat.reduceLT, eq_self, Int.reduceEq, Int.reduceLT, Int.reduceLE, Int.reduceAdd, Int.reduceSub, VC.regC_nil, VC.regC_cons, VC.regCK_eq, VC.callQ, VC.tailQ, VC.goCall, VC.chStep]
      intros
      exact hcut _ _ (SAME.walk hJ (by kernel_rfl)) ⟨v1, P1, by rfl, hB4, hP1, hX1, hH4.left⟩
    have ed := eq_true d1
    by_cases d2 : (s1.pr x).yes = (n : Int) - 1
    case neg =>
      have ee := eq_false d2
      have hm : menter n x s1 = s1 := if_neg (fun hh => d2 hh.2)
      rw [hm] at hcut
      simp -dsimp (maxSteps := 2000000) only [Fa.F31, rdI_of t1, t1, rdI_of t3, t3, ed, ee, hgl, undef, tu, uf, ul, ur, walkJ, VC.Now, VC.vc, VC.lib, VC.mapN_drewN, VC.mapB_drewN, VC.regQ, VC.loopK, VC.reg, VC.opP, VC.opS, VC.opZ, VC.nomulB, VC.pv, VC.thenF, VC.blkF, VC.retF, VC.resV, VC.oneV, VC.evo, VC.bin, VC.binI, VC.cmpI, VC.arithI, VC.ldv, VC.slv, VC.pickP, VC.holds, VC.chainOf, VC.look, VC.junk, VC.put, VC.eff, VC.callee, VC.pureB, VC.rdK, VC.rdKs, VC.okKs, VC.eqKs, VC.fillL, VC.putL, VC.stW, VC.stOK, VC.mixF, VC.setAll, Nat.reduceAdd, Nat.reduceSub, Nat.reduceMul, if_true, if_false, ↓reduceIte, forall_const, implies_true, reduceCtorEq, ne_eq, Nat.reduceBNe, Nat.reduceBEq, IntKind.signed, Nat.reduceEqDiff, Nat.reduceLeDiff, Nat.reduceLT, eq_self, Int.reduceEq, Int.reduceLT, Int.reduceLE, Int.reduceAdd, Int.reduceSub, VC.regC_nil, VC.regC_cons, VC.regCK_eq, VC.callQ, VC.tailQ, VC.goCall, VC.chStep]
      intros
      refine ⟨fits_i64 (by omega) (by omega), fun u7 => ?_⟩
      exact hcut _ _ (SAME.walk hJ (by kernel_rfl)) ⟨v1, P1, by rfl, hB4, hP1, hX1, hH4.left⟩
    have ee := eq_true d2
    have hm : menter n x s1 = { s1 with pr := upd s1.pr x { s1.pr x with how := 2 }, inn := s1.inn ++ [x] } := if_pos ⟨d1, d2⟩
    rw [hm] at hcut
    have st5 := (DAll.field hH4.left hxn (j := 1) (by omega) (iV 2) { s1.pr x with how := 2 } rfl rfl).part hH4
    obtain ⟨w5, hw5⟩ : ∃ w5, w5 = w4.setCell ⟨gl, x * 5 + 1, none⟩ (.int .i64 2) := ⟨_, rfl⟩
    rw [show w4.setCell ⟨gl, x * 5 + 1, none⟩ (iV 2) = w5 from hw5.symm] at st5
    have hB5 := hB4.trans (st5.below hH4)
    have hH5 := st5.hp
    have f5 : Box w5 sb (moveL c) := hH5.get (6 + n) (DAll_at _)
    have z1 := f5.at (i := 1) rfl
    rw [hx0] at z1
    have hsl := f5.1
    have bo : Box w5 ob [vc, v1.vi, nilS, iV 0] := hH5.get 0 rfl
    have y1 := bo.at (i := 1) rfl
    have hol := bo.1
    have own2 : OwnK w5 0 3 1 s1.inn.length v1.vi (natL s1.inn) := hH5.get 2 rfl
    obtain ⟨Ai, ci, ei, _⟩ := id own2
    rw [ei] at y1
    simp -dsimp (maxSteps := 2000000) only [Fa.F31, rdI_of t1, t1, rdI_of t3, t3, ed, ee, hgl, k1, x1, ← hw5, rdSA_of y1, rdSN_of y1, rdSC_of y1, y1, hol, rdI_of z1, z1, hsl, undef, tu, uf, ul, ur, walkJ, VC.Now, VC.vc, VC.lib, VC.mapN_drewN, VC.mapB_drewN, VC.regQ, VC.loopK, VC.reg, VC.opP, VC.opS, VC.opZ, VC.nomulB, VC.pv, VC.thenF, VC.blkF, VC.retF, VC.resV, VC.oneV, VC.evo, VC.bin, VC.binI, VC.cmpI, VC.arithI, VC.ldv, VC.slv, VC.pickP, VC.holds, VC.chainOf, VC.look, VC.junk, VC.put, VC.eff, VC.callee, VC.pureB, VC.rdK, VC.rdKs, VC.okKs, VC.eqKs, VC.fillL, VC.putL, VC.stW, VC.stOK, VC.mixF, VC.setAll, Nat.reduceAdd, Nat.reduceSub, Nat.reduceMul, if_true, if_false, ↓reduceIte, forall_const, implies_true, reduceCtorEq, ne_eq, Nat.reduceBNe, Nat.reduceBEq, IntKind.signed, Nat.reduceEqDiff, Nat.reduceLeDiff, Nat.reduceLT, eq_self, Int.reduceEq, Int.reduceLT, Int.reduceLE, Int.reduceAdd, Int.reduceSub, VC.regC_nil, VC.regC_cons, VC.regCK_eq, VC.callQ, VC.tailQ, VC.goCall, VC.chStep]
    intros
    refine ⟨fits_i64 (by omega) (by omega), fun u7 => ?_⟩
    refine OPW_appK (v := v1.vi) rfl Fa.apI23 (by rw [ei]; rfl) rfl rfl (by simp [Value.oneCell']) own2 (Nat.zero_le _) (by omega) (by decide) fun v6 w6 ho6 hg6 hst6 => ?_
    obtain ⟨⟨r1, r2⟩, st6⟩ := DAll.enters hH5.left ho6 hg6 hst6
    obtain ⟨A6, c6, rfl, _⟩ := id ho6
    have hw6 : ob < w6.heap.size := by simpa using (st6.hp.get 0 rfl : Box _ ob _).1
    rw [VC.Now, VC.seqK_eq]
    simp -dsimp (maxSteps := 2000000) only [Fa.F31, hw6, VC.Now, VC.vc, VC.lib, VC.mapN_drewN, VC.mapB_drewN, VC.regQ, VC.loopK, VC.reg, VC.opP, VC.opS, VC.opZ, VC.nomulB, VC.pv, VC.thenF, VC.blkF, VC.retF, VC.resV, VC.oneV, VC.evo, VC.bin, VC.binI, VC.cmpI, VC.arithI, VC.ldv, VC.slv, VC.pickP, VC.holds, VC.chainOf, VC.look, VC.junk, VC.put, VC.eff, VC.callee, VC.pureB, VC.rdK, VC.rdKs, VC.okKs, VC.eqKs, VC.fillL, VC.putL, VC.stW, VC.stOK, VC.mixF, VC.setAll, Nat.reduceAdd, Nat.reduceSub, Nat.reduceMul, if_true, if_false, ↓reduceIte, forall_const, implies_true, reduceCtorEq, ne_eq, Nat.reduceBNe, Nat.reduceBEq, IntKind.signed, Nat.reduceEqDiff, Nat.reduceLeDiff, Nat.reduceLT, eq_self, Int.reduceEq, Int.reduceLT, Int.reduceLE, Int.reduceAdd, Int.reduceSub, VC.regC_nil, VC.regC_cons, VC.regCK_eq, VC.callQ, VC.tailQ, VC.goCall, VC.chStep]
    refine ⟨⟨r1, r2⟩, ?_⟩
    exact hcut _ _ (SAME.walk hJ (by kernel_rfl)) ⟨{ v1 with vi := .slice A6 (s1.inn.length + 1) c6 }, P1, by rfl, hB5.trans (st6.below hH5.left), hP1, hX1, st6.hp⟩
  rw [VC.Now]
  have hqn := hqb.n x
  by_cases q3 : (s.pr x).how = 0
  case neg =>
    have e5 := eq_false q3
    have hds : mxstep n c s = (6, menter n x s) := by rw [menter_same hnd]; unfold mxstep; rw [if_neg k0, if_neg (by omega), if_pos k1, hxt]; unfold mask; rw [if_pos q3]
    simp -dsimp (maxSteps := 2000000) only [Fa.F31, rdI_of z0, z0, e1, e3, hsl, rdI_of t1, t1, hgl, e5, undef, tu, uf, ul, ur, VC.Now, VC.vc, VC.lib, VC.mapN_drewN, VC.mapB_drewN, VC.regQ, VC.loopK, VC.reg, VC.opP, VC.opS, VC.opZ, VC.nomulB, VC.pv, VC.thenF, VC.blkF, VC.retF, VC.resV, VC.oneV, VC.evo, VC.bin, VC.binI, VC.cmpI, VC.arithI, VC.ldv, VC.slv, VC.pickP, VC.holds, VC.chainOf, VC.look, VC.junk, VC.put, VC.eff, VC.callee, VC.pureB, VC.rdK, VC.rdKs, VC.okKs, VC.eqKs, VC.fillL, VC.putL, VC.stW, VC.stOK, VC.mixF, VC.setAll, Nat.reduceAdd, Nat.reduceSub, Nat.reduceMul, if_true, if_false, ↓reduceIte, forall_const, implies_true, reduceCtorEq, ne_eq, Nat.reduceBNe, Nat.reduceBEq, IntKind.signed, Nat.reduceEqDiff, Nat.reduceLeDiff, Nat.reduceLT, eq_self, Int.reduceEq, Int.reduceLT, Int.reduceLE, Int.reduceAdd, Int.reduceSub, VC.regC_nil, VC.regC_cons, VC.regCK_eq, VC.callQ, VC.tailQ, VC.goCall, VC.chStep]
    intros
    exact hcut2 _ _ (SAME.walk hJa (by kernel_rfl)) ⟨s, P, v, 6, by rfl, hds, rfl, by omega, hXR, hBy, hF⟩
  have e5 := eq_true q3
  obtain ⟨y, hy⟩ : ∃ y, y = (s.pr x).n + 1 := ⟨_, rfl⟩
  obtain ⟨s1, hs1⟩ : ∃ s1 : MxS, s1 = { s with pr := upd s.pr x { s.pr x with n := y, how := 1, key := y, yes := 0 } } := ⟨_, rfl⟩
  have hds : mxstep n c s = (0, menter n x (msendAll x y n s1)) := by unfold mxstep; rw [if_neg k0, if_neg (by omega), if_pos k1, hxt]; unfold mask; rw [if_neg (by rw [q3]; simp), hs1, hy]
  have sa := (DAll.field hF.left hxn (j := 0) (by omega) (iV y) { s.pr x with n := y } rfl rfl).part hF
  simp only [Nat.add_zero] at sa
  obtain ⟨wa, hwa⟩ : ∃ wa, wa = wy.setCell ⟨gl, x * 5, none⟩ (.int .i64 y) := ⟨_, rfl⟩
  rw [show wy.setCell ⟨gl, x * 5, none⟩ (iV y) = wa from hwa.symm] at sa
  have Ra : Recs wa gl n 5 _ := sa.hp.get 4 rfl
  have ta0 := Ra.at (i := x) (j := 0) hxn (by omega) (by show ((apL (upd s.pr x _ x) _))[0]? = _; rw [upd_same]; rfl)
  simp only [Nat.add_zero] at ta0
  have sb2 := (DAll.field sa.hp.left hxn (j := 2) (by omega) (iV y) { s.pr x with n := y, key := y } (by show _ = (apL (upd s.pr x _ x) _).set _ _; rw [upd_same]; rfl) (by show _ = (upd s.pr x _ x).waits; rw [upd_same])).part sa.hp
  obtain ⟨wb, hwb⟩ : ∃ wb, wb = wa.setCell ⟨gl, x * 5 + 2, none⟩ (.int .i64 y) := ⟨_, rfl⟩
  rw [show wa.setCell ⟨gl, x * 5 + 2, none⟩ (iV y) = wb from hwb.symm] at sb2
  have Rb : Recs wb gl n 5 _ := sb2.hp.get 4 rfl
  have sc := (DAll.field sb2.hp.left hxn (j := 1) (by omega) (iV 1) { s.pr x with n := y, how := 1, key := y } (by show _ = (apL (upd (upd s.pr x _) x _ x) _).set _ _; rw [upd_same]; rfl) (by show _ = (upd (upd s.pr x _) x _ x).waits; rw [upd_same])).part sb2.hp
  obtain ⟨wc, hwc⟩ : ∃ wc, wc = wb.setCell ⟨gl, x * 5 + 1, none⟩ (.int .i64 1) := ⟨_, rfl⟩
  rw [show wb.setCell ⟨gl, x * 5 + 1, none⟩ (iV 1) = wc from hwc.symm] at sc
  have Rc : Recs wc gl n 5 _ := sc.hp.get 4 rfl
  have sd := (DAll.field sc.hp.left hxn (j := 3) (by omega) (iV 0) { s.pr x with n := y, how := 1, key := y, yes := 0 } (by show _ = (apL (upd (upd (upd s.pr x _) x _) x _ x) _).set _ _; rw [upd_same]; rfl) (by show _ = (upd (upd (upd s.pr x _) x _) x _ x).waits; rw [upd_same])).part sc.hp
  obtain ⟨wd, hwd⟩ : ∃ wd, wd = wc.setCell ⟨gl, x * 5 + 3, none⟩ (.int .i64 0) := ⟨_, rfl⟩
  rw [show wc.setCell ⟨gl, x * 5 + 3, none⟩ (iV 0) = wd from hwd.symm] at sd
  have st := ((sa.trans sb2).trans sc).trans sd
  simp only [upd_upd] at st
  rw [← hs1] at st
  have hwy1 : s1.way = s.way := by rw [hs1]
  have hin1 : s1.inn = s.inn := by rw [hs1]
  have hk1 : (s1.pr x).key = y := by rw [hs1]; show (upd s.pr x _ x).key = y; rw [upd_same]
  have x0 := hR.soft (i := x) (j := 0) hxn (by omega)
  have o0 : (wy.cell? ⟨gl, x * 5, none⟩).isSome = true := by rw [t0]; rfl
  have x2 := Ra.soft (i := x) (j := 2) hxn (by omega)
  have o2 : (wa.cell? ⟨gl, x * 5 + 2, none⟩).isSome = true := by rw [Ra.at (i := x) (j := 2) hxn (by omega) rfl]; rfl
  have x1 := Rb.soft (i := x) (j := 1) hxn (by omega)
  have o1 : (wb.cell? ⟨gl, x * 5 + 1, none⟩).isSome = true := by rw [Rb.at (i := x) (j := 1) hxn (by omega) rfl]; rfl
  have x3 := Rc.soft (i := x) (j := 3) hxn (by omega)
  have o3 : (wc.cell? ⟨gl, x * 5 + 3, none⟩).isSome = true := by rw [Rc.at (i := x) (j := 3) hxn (by omega) rfl]; rfl
  simp only [Nat.add_zero] at x0
  have ga := Ra.1
  have gb := Rb.1
  have gc := Rc.1
  have hHd := st.hp
  have hBd := hBy.trans (st.below hF)
  clear sa sb2 sc sd st Ra Rb Rc
  simp -dsimp (maxSteps := 2000000) only [Fa.F31, rdI_of z0, z0, e1, e3, e5, hsl, rdI_of t0, t0, rdI_of t1, t1, hgl, ← hy, o0, x0, ← hwa, rdI_of ta0, ta0, ga, o2, x2, ← hwb, gb, o1, x1, ← hwc, gc, o3, x3, ← hwd, undef, tu, uf, ul, ur, VC.Now, VC.vc, VC.lib, VC.mapN_drewN, VC.mapB_drewN, VC.regQ, VC.loopK, VC.reg, VC.opP, VC.opS, VC.opZ, VC.nomulB, VC.pv, VC.thenF, VC.blkF, VC.retF, VC.resV, VC.oneV, VC.evo, VC.bin, VC.binI, VC.cmpI, VC.arithI, VC.ldv, VC.slv, VC.pickP, VC.holds, VC.chainOf, VC.look, VC.junk, VC.put, VC.eff, VC.callee, VC.pureB, VC.rdK, VC.rdKs, VC.okKs, VC.eqKs, VC.fillL, VC.putL, VC.stW, VC.stOK, VC.mixF, VC.setAll, Nat.reduceAdd, Nat.reduceSub, Nat.reduceMul, if_true, if_false, ↓reduceIte, forall_const, implies_true, reduceCtorEq, ne_eq, Nat.reduceBNe, Nat.reduceBEq, IntKind.signed, Nat.reduceEqDiff, Nat.reduceLeDiff, Nat.reduceLT, eq_self, Int.reduceEq, Int.reduceLT, Int.reduceLE, Int.reduceAdd, Int.reduceSub, VC.regC_nil, VC.regC_cons, VC.regCK_eq, VC.callQ, VC.tailQ, VC.goCall, VC.chStep]
  intro u9
  refine ⟨fits_i64 (by omega) (by omega), ?_⟩
  clear hwa hwb hwc hwd hBy hF hR t0 t1 t2 t3 t4 hgl z0 z1 z2 hsl
  refine loop_slots Fa.mix [12, 7] [125, 126, 127, 128, 129, 130, 131, 132, 133, 134, 135, 136, 137, 138, 139, 140, 141, 142, 143, 144] (fun m vs wx => ∃ (j : Nat) (P1 : List Letter) (v1 : DV), j + m = n ∧ vs = [.int .i64 j, v1.pv] ∧ P1.length ≤ P.length + j ∧ XR n (msendAll x y j s1).way P1 ∧ Below rb w wx ∧
      Hp rb (DAll ⟨n, gl, ob, rb⟩ k cl vc s1 P1 v1 ++ [oBox sb (moveL c)]) wx) n (by kernel_rfl) rfl
    ⟨0, P, v, by omega, rfl, by omega, by show XR n s1.way P; rw [hwy1]; exact hXR, hBd, hHd⟩ ?_
  clear hHd hBd hXR
  rintro m vs u8 wx ⟨j, P1, v1, hjm, rfl, hP1, hX1, hBx, hH⟩
  rw [mixF_walk]
  rotate_left
  · kernel_rfl
  by_cases hj : j < n
  · have e7 : ((j : Int) < n) = True := eq_true (by omega)
    have h6 : (DAll ⟨n, gl, ob, rb⟩ k cl vc s1 P1 v1 ++ [oBox sb (moveL c)])[6 + n]? = some (oBox sb (moveL c)) := DAll_at _
    have fs : Box wx sb (moveL c) := hH.get (6 + n) h6
    have z1 := fs.at (i := 1) rfl
    rw [hx0] at z1
    have hsl := fs.1
    by_cases hji : j = x
    · have e8 : ((j : Int) = x) = True := eq_true (by omega)
      simp -dsimp (maxSteps := 2000000) only [Fa.F31, e7, e8, rdI_of z1, z1, hsl, walkJ, VC.Now, VC.vc, VC.lib, VC.mapN_drewN, VC.mapB_drewN, VC.regQ, VC.loopK, VC.reg, VC.opP, VC.opS, VC.opZ, VC.nomulB, VC.pv, VC.thenF, VC.blkF, VC.retF, VC.resV, VC.oneV, VC.evo, VC.bin, VC.binI, VC.cmpI, VC.arithI, VC.ldv, VC.slv, VC.pickP, VC.holds, VC.chainOf, VC.look, VC.junk, VC.put, VC.eff, VC.callee, VC.pureB, VC.rdK, VC.rdKs, VC.okKs, VC.eqKs, VC.fillL, VC.putL, VC.stW, VC.stOK, VC.mixF, VC.setAll, Nat.reduceAdd, Nat.reduceSub, Nat.reduceMul, if_true, if_false, ↓reduceIte, forall_const, implies_true, reduceCtorEq, ne_eq, Nat.reduceBNe, Nat.reduceBEq, IntKind.signed, Nat.reduceEqDiff, Nat.reduceLeDiff, Nat.reduceLT, eq_self, Int.reduceEq, Int.reduceLT, Int.reduceLE, Int.reduceAdd, Int.reduceSub, VC.regC_nil, VC.regC_cons, VC.regCK_eq, VC.callQ, VC.tailQ, VC.goCall, VC.chStep]
      refine ⟨fits_i64_nat (by omega), SAME.intro (by kernel_rfl), m - 1, by omega, j + 1, P1, v1, by omega, rfl, by omega, ?_, hBx, hH⟩
      have : msendAll x y (j + 1) s1 = msendAll x y j s1 := by
        show (if j = x then msendAll x y j s1 else msend x j y (msendAll x y j s1)) = _
        rw [if_pos hji]
      rw [this]; exact hX1
    · have e8 : ((j : Int) = x) = False := eq_false (by omega)
      have Rx : Recs wx gl n 5 (fun i => apL (s1.pr i) (v1.wv i)) := hH.get 4 rfl
      have t2 := Rx.at (i := x) (j := 2) hxn (by omega) rfl
      rw [hk1] at t2
      have hgl := Rx.1
      have hne1 : ¬ v1.pv.ownBlock = some gl := fun hf => hH.ne 5 4 (by decide) rfl rfl gl hf rfl
      have hne2 : ¬ v1.pv.ownBlock = some sb := fun hf => hH.ne 5 (6 + n) (by omega) rfl h6 sb hf rfl
      have hHd := hH.drewN 1
      have agS : Agree (fun l => v1.pv.ownBlock = some l) wx (wx.drewN 1) := Agree.of_below (below_drewN (Below.refl _ wx) 1)
      simp -dsimp (maxSteps := 2000000) only [Fa.F31, e7, e8, rdI_of z1, z1, hsl, walkJ, VC.Now, VC.vc, VC.lib, VC.mapN_drewN, VC.mapB_drewN, VC.regQ, VC.loopK, VC.reg, VC.opP, VC.opS, VC.opZ, VC.nomulB, VC.pv, VC.thenF, VC.blkF, VC.retF, VC.resV, VC.oneV, VC.evo, VC.bin, VC.binI, VC.cmpI, VC.arithI, VC.ldv, VC.slv, VC.pickP, VC.holds, VC.chainOf, VC.look, VC.junk, VC.put, VC.eff, VC.callee, VC.pureB, VC.rdK, VC.rdKs, VC.okKs, VC.eqKs, VC.fillL, VC.putL, VC.stW, VC.stOK, VC.mixF, VC.setAll, Nat.reduceAdd, Nat.reduceSub, Nat.reduceMul, if_true, if_false, ↓reduceIte, forall_const, implies_true, reduceCtorEq, ne_eq, Nat.reduceBNe, Nat.reduceBEq, IntKind.signed, Nat.reduceEqDiff, Nat.reduceLeDiff, Nat.reduceLT, eq_self, Int.reduceEq, Int.reduceLT, Int.reduceLE, Int.reduceAdd, Int.reduceSub, VC.regC_nil, VC.regC_cons, VC.regCK_eq, VC.callQ, VC.tailQ, VC.goCall, VC.chStep]
      refine WP_held 11 (fun l => v1.pv.ownBlock = some l) (.take 0 (.take 1 (.take 2 (.take 3 (.take 4 (.take 5 (.take 6 (.take 7 (.take 8 (.one 9 (.one 10 (.one 11 .done)))))))))))) Fa.mix (by kernel_rfl) rfl ?_
      simp -dsimp (maxSteps := 2000000) only [VC.heldF_done, VC.heldF_last, VC.planF_done, VC.planF_take, VC.planF_one, VC.planF_two, VC.planK_eq, VC.heldF_take, VC.heldF_one, VC.heldF_two, VC.heldF_twoL, VC.heldK_eq, VC.okRd, Fa.F31, rdI_of z1, z1, rdI_of t2, t2, VC.Now, VC.vc, VC.lib, VC.mapN_drewN, VC.mapB_drewN, VC.regQ, VC.loopK, VC.reg, VC.opP, VC.opS, VC.opZ, VC.nomulB, VC.pv, VC.thenF, VC.blkF, VC.retF, VC.resV, VC.oneV, VC.evo, VC.bin, VC.binI, VC.cmpI, VC.arithI, VC.ldv, VC.slv, VC.pickP, VC.holds, VC.chainOf, VC.look, VC.junk, VC.put, VC.eff, VC.callee, VC.pureB, VC.rdK, VC.rdKs, VC.okKs, VC.eqKs, VC.fillL, VC.putL, VC.stW, VC.stOK, VC.mixF, VC.setAll, Nat.reduceAdd, Nat.reduceSub, Nat.reduceMul, if_true, if_false, ↓reduceIte, forall_const, implies_true, reduceCtorEq, ne_eq, Nat.reduceBNe, Nat.reduceBEq, IntKind.signed, Nat.reduceEqDiff, Nat.reduceLeDiff, Nat.reduceLT, eq_self, Int.reduceEq, Int.reduceLT, Int.reduceLE, Int.reduceAdd, Int.reduceSub, VC.regC_nil, VC.regC_cons, VC.regCK_eq, VC.callQ, VC.tailQ, VC.goCall, VC.chStep]
      refine ⟨⟨hsl, hne2⟩, ⟨hgl, hne1⟩, agS.trans (Agree.of_below ((Below.refl _ _).alloc (Nat.le_refl _) _)), ?_⟩
      refine OPW_appK (v := v1.pv) rfl Fa.apI195 rfl rfl rfl (by simp [Value.oneCell']) (hHd.get 5 rfl) (Nat.zero_le _) (by omega) (by decide) fun v5 w5 ho5 hg5 hst5 => ?_
      have st6 := (DAll.letter (x := Letter.mk x j y false) hHd.left ho5 hg5 hst5).part hHd
      simp -dsimp (maxSteps := 2000000) only [VC.heldF_done, VC.heldF_last, VC.planF_done, VC.planF_take, VC.planF_one, VC.planF_two, VC.planK_eq, VC.heldF_take, VC.heldF_one, VC.heldF_two, VC.heldF_twoL, VC.heldK_eq, VC.okRd, Fa.F31, VC.Now, VC.vc, VC.lib, VC.mapN_drewN, VC.mapB_drewN, VC.regQ, VC.loopK, VC.reg, VC.opP, VC.opS, VC.opZ, VC.nomulB, VC.pv, VC.thenF, VC.blkF, VC.retF, VC.resV, VC.oneV, VC.evo, VC.bin, VC.binI, VC.cmpI, VC.arithI, VC.ldv, VC.slv, VC.pickP, VC.holds, VC.chainOf, VC.look, VC.junk, VC.put, VC.eff, VC.callee, VC.pureB, VC.rdK, VC.rdKs, VC.okKs, VC.eqKs, VC.fillL, VC.putL, VC.stW, VC.stOK, VC.mixF, VC.setAll, Nat.reduceAdd, Nat.reduceSub, Nat.reduceMul, if_true, if_false, ↓reduceIte, forall_const, implies_true, reduceCtorEq, ne_eq, Nat.reduceBNe, Nat.reduceBEq, IntKind.signed, Nat.reduceEqDiff, Nat.reduceLeDiff, Nat.reduceLT, eq_self, Int.reduceEq, Int.reduceLT, Int.reduceLE, Int.reduceAdd, Int.reduceSub, VC.regC_nil, VC.regC_cons, VC.regCK_eq, VC.callQ, VC.tailQ, VC.goCall, VC.chStep]
      refine ⟨agS.trans (Agree.grown hg5 fun k hk => hk), fits_i64_nat (by omega), SAME.intro (by kernel_rfl), m - 1, by omega, j + 1, P1 ++ [Letter.mk x j y false], { v1 with pv := v5 }, by omega, rfl, by simp; omega, ?_, (below_drewN hBx 1).trans (st6.below hHd), st6.hp⟩
      have : msendAll x y (j + 1) s1 = msend x j y (msendAll x y j s1) := by
        show (if j = x then msendAll x y j s1 else msend x j y (msendAll x y j s1)) = _
        rw [if_neg hji]
      rw [this]; exact hX1.send hxn hj y
  · obtain rfl : j = n := by omega
    have e7 : ((j : Int) < j) = False := eq_false (by omega)
    simp -dsimp (maxSteps := 2000000) only [Fa.F31, e7, walkJ, VC.Now, VC.vc, VC.lib, VC.mapN_drewN, VC.mapB_drewN, VC.regQ, VC.loopK, VC.reg, VC.opP, VC.opS, VC.opZ, VC.nomulB, VC.pv, VC.thenF, VC.blkF, VC.retF, VC.resV, VC.oneV, VC.evo, VC.bin, VC.binI, VC.cmpI, VC.arithI, VC.ldv, VC.slv, VC.pickP, VC.holds, VC.chainOf, VC.look, VC.junk, VC.put, VC.eff, VC.callee, VC.pureB, VC.rdK, VC.rdKs, VC.okKs, VC.eqKs, VC.fillL, VC.putL, VC.stW, VC.stOK, VC.mixF, VC.setAll, Nat.reduceAdd, Nat.reduceSub, Nat.reduceMul, if_true, if_false, ↓reduceIte, forall_const, implies_true, reduceCtorEq, ne_eq, Nat.reduceBNe, Nat.reduceBEq, IntKind.signed, Nat.reduceEqDiff, Nat.reduceLeDiff, Nat.reduceLT, eq_self, Int.reduceEq, Int.reduceLT, Int.reduceLE, Int.reduceAdd, Int.reduceSub, VC.regC_nil, VC.regC_cons, VC.regCK_eq, VC.callQ, VC.tailQ, VC.goCall, VC.chStep]
    exact hcut2 _ _ (SAME.walk hJa (by kernel_rfl)) ⟨msendAll x y j s1, P1, v1, 0, by rfl, hds, msendAll_inn.trans hin1, by omega, hX1, hBx, by rw [DAll_congr msendAll_pr msendAll_inn]; exact hH⟩
end Go.Proofs.Ytelfmhiaafkimaa
