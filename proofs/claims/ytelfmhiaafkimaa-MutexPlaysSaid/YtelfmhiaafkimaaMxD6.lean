/- One in at a time, the document's: one leaves. -/
import Derived.Test.YtelfmhiaafkimaaMxD4
namespace Go.Proofs.Ytelfmhiaafkimaa
open Go Go.RowKit Go.VC
set_option linter.unusedSimpArgs false
set_option linter.unusedVariables false
theorem DAll.wnil {B k : Nat} {d : DX} {codes : List Value} {vc : Value} {s : MxS} {P : List Letter} {v : DV} {w : World} (h : Hp B (DAll d k codes vc s P v) w) {x : Nat} (hx : x < d.n) :
    St B (DAll d k codes vc s P v) w (DAll d k codes vc { s with pr := upd s.pr x { s.pr x with waits := [] } } P { v with wv := upd v.wv x nilS }) (w.setCell ⟨d.gl, x * 5 + 4, none⟩ nilS) := by
  obtain ⟨L6, hL6⟩ : ∃ L6, L6 = [oBox d.ob [vc, v.vi, nilS, iV 0], oOwn 24 1 k vc codes, oOwn 3 1 s.inn.length v.vi (natL s.inn), oBox d.rb [nilS, nilS, nilS, iV 0], oRecs d.gl d.n 5 (fun i => apL (s.pr i) (v.wv i)), oOwn 200 4 P.length v.pv (P.flatMap ltL)] := ⟨_, rfl⟩
  have h2 : Hp B (L6 ++ (fam d.n (fun i => oOwn 3 1 (s.pr i).waits.length (v.wv i) (natL (s.pr i).waits)) ++ [])) w := by rw [List.append_nil, hL6]; exact h
  have st1 := h2.fst hx (o' := oOwn 3 1 0 nilS []) (OwnK.nil _ _ _ _) (Agree.refl _ _) (Or.inr fun g hg => by cases hg)
  have e1 : fam d.n (upd (fun i => oOwn 3 1 (s.pr i).waits.length (v.wv i) (natL (s.pr i).waits)) x (oOwn 3 1 0 nilS [])) = dWaits d.n (upd s.pr x { s.pr x with waits := [] }) (upd v.wv x nilS) := fam_congr fun i _ => by
    by_cases e : i = x
    · subst e; simp only [upd_same]; rfl
    · simp only [upd_other e]
  rw [e1, List.append_nil, List.append_nil] at st1
  subst hL6
  have hR : Recs w d.gl d.n 5 (fun i => apL (s.pr i) (v.wv i)) := st1.hp.get 4 rfl
  have h1 := hR.set hx (show 4 < 5 by omega) rfl nilS
  have e2 : upd (fun i => apL (s.pr i) (v.wv i)) x ((apL (s.pr x) (v.wv x)).set 4 nilS) = fun i => apL (upd s.pr x { s.pr x with waits := [] } i) (upd v.wv x nilS i) := by
    funext i
    by_cases e : i = x
    · subst e; rw [upd_same, upd_same, upd_same]; rfl
    · rw [upd_other e, upd_other e, upd_other e]
  rw [e2] at h1
  exact st1.trans (st1.hp.st 4 rfl (o' := oRecs d.gl d.n 5 fun i => apL (upd s.pr x { s.pr x with waits := [] } i) (upd v.wv x nilS i)) h1 (Agree.setCell w nilS rfl) (Or.inl rfl))
theorem msendL_inn {i : Nat} {x : Int} : ∀ {l : List Nat} {s : MxS}, (msendL i x l s).inn = s.inn
  | [], s => rfl
  | j :: l, s => by
    show (msendL i x l (msend i j x s)).inn = s.inn
    rw [msendL_inn]; rfl
theorem msendL_snoc {i : Nat} {x : Int} {l : List Nat} {j : Nat} {s : MxS} : msendL i x (l ++ [j]) s = msend i j x (msendL i x l s) := by
  unfold msendL; rw [List.foldl_append]; rfl
set_option maxRecDepth 8000 in
set_option maxHeartbeats 8000000 in
theorem mxD_leave : mutexBut.1.2.2.1 := by
  unfold mutexBut
  intro n len cap w h1 hn hlen rb ob gl u2 k vc v P hPl hk b o s hXR hqb hnd c wy hBy sb f2 z0 z1 z2 hsl Q3 k0 k1 e1 k2 e2 e3 q1 a1 q2 a2 cl hH2 nsb hcut
  obtain ⟨x, hx0⟩ : ∃ x : Nat, c.who = x := ⟨c.who.toNat, by omega⟩
  have hxn : x < n := by omega
  have hxt : c.who.toNat = x := by omega
  rw [hx0] at z1 a1 a2
  try rw [hx0] at a5
  have hrs : rb ≤ sb := by
    have g1 := (hH2.lt 0 rfl (g := ob) rfl).1
    have g2 := nsb ob (foot_at (i := 0) rfl rfl)
    omega
  have hF : Hp rb (DAll ⟨n, gl, ob, rb⟩ k cl vc s P v ++ [oBox sb (moveL c)]) wy := Hp.snoc hH2 f2 fun g hg => by
    cases hg
    exact ⟨hrs, fun hf => absurd (nsb sb hf) (Nat.lt_irrefl _)⟩
  have hR : Recs wy gl n 5 (fun i => apL (s.pr i) ((v).wv i)) := hH2.get 4 rfl
  have t0 := hR.at (i := x) (j := 0) hxn (by omega) rfl
  have t1 := hR.at (i := x) (j := 1) hxn (by omega) rfl
  have t2 := hR.at (i := x) (j := 2) hxn (by omega) rfl
  have t3 := hR.at (i := x) (j := 3) hxn (by omega) rfl
  have t4 := hR.at (i := x) (j := 4) hxn (by omega) rfl
  simp only [Nat.add_zero] at t0
  have hgl := hR.1
  have hJ : okJ ([7, 10, 11, 12, 14, 15, 16, 17] ++ List.range' 30 275) [7, 10] [11, 12, 14, 15, 16, 17, 30, 31, 32, 33, 34, 35, 36, 37, 38, 39, 40, 41, 42, 43, 44, 45, 46, 47, 48, 49, 50, 51, 52, 53, 54, 55, 56, 57, 58, 59, 60, 61, 62, 63, 64, 65, 66, 67, 68, 69, 70, 71, 72, 73, 74, 75, 76, 77, 78, 79, 80, 81, 82, 83, 84, 85, 86, 87, 88, 89, 90, 91, 92, 93, 94, 95, 96, 97, 98, 99, 100, 101, 102, 103, 104, 105, 106, 107, 108, 109, 110, 111, 112, 113, 114, 115, 116, 117, 118, 119, 120, 121, 122, 123, 124, 125, 126, 127, 128, 129, 130, 131, 132, 133, 134, 135, 136, 137, 138, 139, 140, 141, 142, 143, 144, 145, 146, 147, 148, 149, 150, 151, 152, 153, 154, 155, 156, 157, 158, 159, 160, 161, 162, 163, 164, 165, 166, 167, 168, 169, 170, 171, 172, 173, 174, 175, 176, 177, 178, 179, 180, 181, 182, 183, 184, 185, 186, 187, 188, 189, 190, 191, 192, 193, 194, 195, 196, 197, 198, 199, 200, 201, 202, 203, 204, 205, 206, 207, 208, 209, 210, 211, 212, 213, 214, 215, 216, 217, 218, 219, 220, 221, 222, 223, 224, 225, 226, 227, 228, 229, 230, 231, 232, 233, 234, 235, 236, 237, 238, 239, 240, 241, 242, 243, 244, 245, 246, 247, 248, 249, 250, 251, 252, 253, 254, 255, 256, 257, 258, 259, 260, 261, 262, 263, 264, 265, 266, 267, 268, 269, 270, 271, 272, 273, 274, 275, 276, 277, 278, 279, 280, 281, 282, 283, 284, 285, 286, 287, 288, 289, 290, 291, 292, 293, 294, 295, 296, 297, 298, 299, 300, 301, 302, 303, 304] = true := by kernel_rfl
  (repeat rw [vc_seq]); refine vc_plain _ fun Q4 hQ4 => ?_; simp -dsimp (maxSteps := 2000000) only [Fa.F31, e1, e2, e3, rdI_of z0, z0, hsl, undef, tu, uf, ul, ur, VC.Now, VC.vc_skip, VC.vc_ret, VC.vc_exit, VC.vc_block, VC.vc_cond, VC.vc_region, VC.lib, VC.mapN_drewN, VC.mapB_drewN, VC.regQ, VC.loopK, VC.reg, VC.opP, VC.opS, VC.opZ, VC.nomulB, VC.pv, VC.thenF, VC.blkF, VC.retF, VC.resV, VC.oneV, VC.evo, VC.bin, VC.binI, VC.cmpI, VC.arithI, VC.ldv, VC.slv, VC.pickP, VC.holds, VC.chainOf, VC.look, VC.junk, VC.put, VC.eff, VC.callee, VC.pureB, VC.rdK, VC.rdKs, VC.okKs, VC.eqKs, VC.fillL, VC.putL, VC.stW, VC.stOK, VC.mixF, VC.setAll, Nat.reduceAdd, Nat.reduceSub, Nat.reduceMul, if_true, if_false, ↓reduceIte, forall_const, implies_true, reduceCtorEq, ne_eq, Nat.reduceBNe, Nat.reduceBEq, IntKind.signed, Nat.reduceEqDiff, Nat.reduceLeDiff, Nat.reduceLT, eq_self, Int.reduceEq, Int.reduceLT, Int.reduceLE, Int.reduceAdd, Int.reduceSub, VC.regC_nil, VC.regC_cons, VC.regCK_eq, VC.callQ, VC.tailQ, VC.goCall, VC.chStep]
  intro u6
  subst hQ4
  simp -dsimp (maxSteps := 2000000) only [Fa.F31, VC.Now, VC.vc_skip, VC.vc_ret, VC.vc_exit, VC.vc_block, VC.vc_cond, VC.vc_region, VC.lib, VC.mapN_drewN, VC.mapB_drewN, VC.regQ, VC.loopK, VC.reg, VC.opP, VC.opS, VC.opZ, VC.nomulB, VC.pv, VC.thenF, VC.blkF, VC.retF, VC.resV, VC.oneV, VC.evo, VC.bin, VC.binI, VC.cmpI, VC.arithI, VC.ldv, VC.slv, VC.pickP, VC.holds, VC.chainOf, VC.look, VC.junk, VC.put, VC.eff, VC.callee, VC.pureB, VC.rdK, VC.rdKs, VC.okKs, VC.eqKs, VC.fillL, VC.putL, VC.stW, VC.stOK, VC.mixF, VC.setAll, Nat.reduceAdd, Nat.reduceSub, Nat.reduceMul, if_true, if_false, ↓reduceIte, forall_const, implies_true, reduceCtorEq, ne_eq, Nat.reduceBNe, Nat.reduceBEq, IntKind.signed, Nat.reduceEqDiff, Nat.reduceLeDiff, Nat.reduceLT, eq_self, Int.reduceEq, Int.reduceLT, Int.reduceLE, Int.reduceAdd, Int.reduceSub, VC.regC_nil, VC.regC_cons, VC.regCK_eq, VC.callQ, VC.tailQ, VC.goCall, VC.chStep]
  (repeat rw [vc_seq]); refine vc_plain _ fun Q4 hQ4 => ?_; simp -dsimp (maxSteps := 2000000) only [Fa.F31, rdI_of z0, z0, rdI_of z1, z1, rdI_of z2, z2, hsl, a1, a2, e1, e2, e3, undef, tu, uf, ul, ur, VC.Now, VC.vc_skip, VC.vc_ret, VC.vc_exit, VC.vc_block, VC.vc_cond, VC.vc_region, VC.lib, VC.mapN_drewN, VC.mapB_drewN, VC.regQ, VC.loopK, VC.reg, VC.opP, VC.opS, VC.opZ, VC.nomulB, VC.pv, VC.thenF, VC.blkF, VC.retF, VC.resV, VC.oneV, VC.evo, VC.bin, VC.binI, VC.cmpI, VC.arithI, VC.ldv, VC.slv, VC.pickP, VC.holds, VC.chainOf, VC.look, VC.junk, VC.put, VC.eff, VC.callee, VC.pureB, VC.rdK, VC.rdKs, VC.okKs, VC.eqKs, VC.fillL, VC.putL, VC.stW, VC.stOK, VC.mixF, VC.setAll, Nat.reduceAdd, Nat.reduceSub, Nat.reduceMul, if_true, if_false, ↓reduceIte, forall_const, implies_true, reduceCtorEq, ne_eq, Nat.reduceBNe, Nat.reduceBEq, IntKind.signed, Nat.reduceEqDiff, Nat.reduceLeDiff, Nat.reduceLT, eq_self, Int.reduceEq, Int.reduceLT, Int.reduceLE, Int.reduceAdd, Int.reduceSub, VC.regC_nil, VC.regC_cons, VC.regCK_eq, VC.callQ, VC.tailQ, VC.goCall, VC.chStep]
  intro u7
  subst hQ4
  simp -dsimp (maxSteps := 2000000) only [Fa.F31, VC.Now, VC.vc_skip, VC.vc_ret, VC.vc_exit, VC.vc_block, VC.vc_cond, VC.vc_region, VC.lib, VC.mapN_drewN, VC.mapB_drewN, VC.regQ, VC.loopK, VC.reg, VC.opP, VC.opS, VC.opZ, VC.nomulB, VC.pv, VC.thenF, VC.blkF, VC.retF, VC.resV, VC.oneV, VC.evo, VC.bin, VC.binI, VC.cmpI, VC.arithI, VC.ldv, VC.slv, VC.pickP, VC.holds, VC.chainOf, VC.look, VC.junk, VC.put, VC.eff, VC.callee, VC.pureB, VC.rdK, VC.rdKs, VC.okKs, VC.eqKs, VC.fillL, VC.putL, VC.stW, VC.stOK, VC.mixF, VC.setAll, Nat.reduceAdd, Nat.reduceSub, Nat.reduceMul, if_true, if_false, ↓reduceIte, forall_const, implies_true, reduceCtorEq, ne_eq, Nat.reduceBNe, Nat.reduceBEq, IntKind.signed, Nat.reduceEqDiff, Nat.reduceLeDiff, Nat.reduceLT, eq_self, Int.reduceEq, Int.reduceLT, Int.reduceLE, Int.reduceAdd, Int.reduceSub, VC.regC_nil, VC.regC_cons, VC.regCK_eq, VC.callQ, VC.tailQ, VC.goCall, VC.chStep]
  (repeat rw [vc_seq]); refine vc_plain _ fun Q4 hQ4 => ?_; simp -dsimp (maxSteps := 2000000) only [Fa.F31, rdI_of z1, z1, hsl, Int.toNat_natCast, Nat.zero_add, VC.Now, VC.vc_skip, VC.vc_ret, VC.vc_exit, VC.vc_block, VC.vc_cond, VC.vc_region, VC.lib, VC.mapN_drewN, VC.mapB_drewN, VC.regQ, VC.loopK, VC.reg, VC.opP, VC.opS, VC.opZ, VC.nomulB, VC.pv, VC.thenF, VC.blkF, VC.retF, VC.resV, VC.oneV, VC.evo, VC.bin, VC.binI, VC.cmpI, VC.arithI, VC.ldv, VC.slv, VC.pickP, VC.holds, VC.chainOf, VC.look, VC.junk, VC.put, VC.eff, VC.callee, VC.pureB, VC.rdK, VC.rdKs, VC.okKs, VC.eqKs, VC.fillL, VC.putL, VC.stW, VC.stOK, VC.mixF, VC.setAll, Nat.reduceAdd, Nat.reduceSub, Nat.reduceMul, if_true, if_false, ↓reduceIte, forall_const, implies_true, reduceCtorEq, ne_eq, Nat.reduceBNe, Nat.reduceBEq, IntKind.signed, Nat.reduceEqDiff, Nat.reduceLeDiff, Nat.reduceLT, eq_self, Int.reduceEq, Int.reduceLT, Int.reduceLE, Int.reduceAdd, Int.reduceSub, VC.regC_nil, VC.regC_cons, VC.regCK_eq, VC.callQ, VC.tailQ, VC.goCall, VC.chStep]
  refine ⟨⟨by omega, by omega⟩, ?_⟩
  subst hQ4
  simp -dsimp (maxSteps := 2000000) only [Fa.F31, VC.Now, VC.vc_skip, VC.vc_ret, VC.vc_exit, VC.vc_block, VC.vc_cond, VC.vc_region, VC.lib, VC.mapN_drewN, VC.mapB_drewN, VC.regQ, VC.loopK, VC.reg, VC.opP, VC.opS, VC.opZ, VC.nomulB, VC.pv, VC.thenF, VC.blkF, VC.retF, VC.resV, VC.oneV, VC.evo, VC.bin, VC.binI, VC.cmpI, VC.arithI, VC.ldv, VC.slv, VC.pickP, VC.holds, VC.chainOf, VC.look, VC.junk, VC.put, VC.eff, VC.callee, VC.pureB, VC.rdK, VC.rdKs, VC.okKs, VC.eqKs, VC.fillL, VC.putL, VC.stW, VC.stOK, VC.mixF, VC.setAll, Nat.reduceAdd, Nat.reduceSub, Nat.reduceMul, if_true, if_false, ↓reduceIte, forall_const, implies_true, reduceCtorEq, ne_eq, Nat.reduceBNe, Nat.reduceBEq, IntKind.signed, Nat.reduceEqDiff, Nat.reduceLeDiff, Nat.reduceLT, eq_self, Int.reduceEq, Int.reduceLT, Int.reduceLE, Int.reduceAdd, Int.reduceSub, VC.regC_nil, VC.regC_cons, VC.regCK_eq, VC.callQ, VC.tailQ, VC.goCall, VC.chStep]
  rw [vc_seq]
  refine vc_plain _ fun Q5 hQ5 => ?_
  have hJb : okJ ([7, 10] ++ List.range' 281 23) [7, 10] [281, 282, 283, 284, 285, 286, 287, 288, 289, 290, 291, 292, 293, 294, 295, 296, 297, 298, 299, 300, 301, 302, 303] = true := by kernel_rfl
  have hJa : okJ ([7, 10, 12, 14, 15, 16, 17] ++ List.range' 79 202) [7, 10] [12, 14, 15, 16, 17, 79, 80, 81, 82, 83, 84, 85, 86, 87, 88, 89, 90, 91, 92, 93, 94, 95, 96, 97, 98, 99, 100, 101, 102, 103, 104, 105, 106, 107, 108, 109, 110, 111, 112, 113, 114, 115, 116, 117, 118, 119, 120, 121, 122, 123, 124, 125, 126, 127, 128, 129, 130, 131, 132, 133, 134, 135, 136, 137, 138, 139, 140, 141, 142, 143, 144, 145, 146, 147, 148, 149, 150, 151, 152, 153, 154, 155, 156, 157, 158, 159, 160, 161, 162, 163, 164, 165, 166, 167, 168, 169, 170, 171, 172, 173, 174, 175, 176, 177, 178, 179, 180, 181, 182, 183, 184, 185, 186, 187, 188, 189, 190, 191, 192, 193, 194, 195, 196, 197, 198, 199, 200, 201, 202, 203, 204, 205, 206, 207, 208, 209, 210, 211, 212, 213, 214, 215, 216, 217, 218, 219, 220, 221, 222, 223, 224, 225, 226, 227, 228, 229, 230, 231, 232, 233, 234, 235, 236, 237, 238, 239, 240, 241, 242, 243, 244, 245, 246, 247, 248, 249, 250, 251, 252, 253, 254, 255, 256, 257, 258, 259, 260, 261, 262, 263, 264, 265, 266, 267, 268, 269, 270, 271, 272, 273, 274, 275, 276, 277, 278, 279, 280] = true := by kernel_rfl
  clear hH2 f2 nsb
  refine vc_cut [7, 10] [12, 14, 15, 16, 17, 79, 80, 81, 82, 83, 84, 85, 86, 87, 88, 89, 90, 91, 92, 93, 94, 95, 96, 97, 98, 99, 100, 101, 102, 103, 104, 105, 106, 107, 108, 109, 110, 111, 112, 113, 114, 115, 116, 117, 118, 119, 120, 121, 122, 123, 124, 125, 126, 127, 128, 129, 130, 131, 132, 133, 134, 135, 136, 137, 138, 139, 140, 141, 142, 143, 144, 145, 146, 147, 148, 149, 150, 151, 152, 153, 154, 155, 156, 157, 158, 159, 160, 161, 162, 163, 164, 165, 166, 167, 168, 169, 170, 171, 172, 173, 174, 175, 176, 177, 178, 179, 180, 181, 182, 183, 184, 185, 186, 187, 188, 189, 190, 191, 192, 193, 194, 195, 196, 197, 198, 199, 200, 201, 202, 203, 204, 205, 206, 207, 208, 209, 210, 211, 212, 213, 214, 215, 216, 217, 218, 219, 220, 221, 222, 223, 224, 225, 226, 227, 228, 229, 230, 231, 232, 233, 234, 235, 236, 237, 238, 239, 240, 241, 242, 243, 244, 245, 246, 247, 248, 249, 250, 251, 252, 253, 254, 255, 256, 257, 258, 259, 260, 261, 262, 263, 264, 265, 266, 267, 268, 269, 270, 271, 272, 273, 274, 275, 276, 277, 278, 279, 280] (fun vs w' => ∃ (s1 : MxS) (P1 : List Letter) (v1 : DV) (cd : Int), vs = [v1.pv, .int .i64 cd] ∧ mxstep n c s = (cd, menter n x s1) ∧ s1.inn = s.inn ∧ P1.length ≤ P.length + 130 ∧ XR n s1.way P1 ∧ Below rb w w' ∧
    Hp rb (DAll ⟨n, gl, ob, rb⟩ k cl vc s1 P1 v1 ++ [oBox sb (moveL c)]) w') (fun vs u8 w4 hJ => ?rest) (fun hcut2 => ?main)
  case rest =>
    obtain ⟨s1, P1, v1, cd, rfl, hres, hin1, hP1, hX1, hB4, hH4⟩ := hJ
    rw [hres] at hcut
    have R4 : Recs w4 gl n 5 (fun i => apL (s1.pr i) (v1.wv i)) := hH4.get 4 rfl
    clear hres hF hBy z0 z1 z2 hsl hR t0 t1 t2 t3 t4 hgl hXR
    have t1 := R4.at (i := x) (j := 1) hxn (by omega) rfl
    have t3 := R4.at (i := x) (j := 3) hxn (by omega) rfl
    have hgl := R4.1
    have hql : s1.inn.length ≤ k := by rw [hin1]; exact hqb.inn
    subst hQ5
    rw [mixF_walk]
    rotate_left
    · kernel_rfl
    have x1 := R4.soft (i := x) (j := 1) hxn (by omega)
    have k1 : (w4.cell? ⟨gl, x * 5 + 1, none⟩).isSome = true := by rw [t1]; rfl
    by_cases d1 : (s1.pr x).how = 1
    case neg =>
      have ed := eq_false d1
      have hm : menter n x s1 = s1 := if_neg (fun hh => d1 hh.1)
      rw [hm] at hcut
      simp -dsimp (maxSteps := 2000000) only [Fa.F31, rdI_of t1, t1, ed, hgl, undef, tu, uf, ul, ur, walkJ, VC.Now, VC.vc, VC.lib, VC.mapN_drewN, VC.mapB_drewN, VC.regQ, VC.loopK, VC.reg, VC.opP, VC.opS, VC.opZ, VC.nomulB, VC.pv, VC.thenF, VC.blkF, VC.retF, VC.resV, VC.oneV, VC.evo, VC.bin, VC.binI, VC.cmpI, VC.arithI, VC.ldv, VC.slv, VC.pickP, VC.holds, VC.chainOf, VC.look, VC.junk, VC.put, VC.eff, VC.callee, VC.pureB, VC.rdK, VC.rdKs, VC.okKs, VC.eqKs, VC.fillL, VC.putL, VC.stW, VC.stOK, VC.mixF, VC.setAll, Nat.reduceAdd, Nat.reduceSub, Nat.reduceMul, if_true, if_false, ↓reduceIte, forall_const, implies_true, reduceCtorEq, ne_eq, Nat.reduceBNe, Nat.reduceBEq, IntKind.signed, Nat.reduceEqDiff, Nat.reduceLeDiff, Nat.reduceLT, eq_self, Int.reduceEq, Int.reduceLT, Int.reduceLE, Int.reduceAdd, Int.reduceSub, VC.regC_nil, VC.regC_cons, VC.regCK_eq, VC.callQ, VC.tailQ, VC.goCall, VC.chStep]
      intros
      exact hcut _ _ (SAME.walk hJ (by kernel_rfl)) ⟨v1, P1, by rfl, hB4, hP1, hX1, hH4.left⟩
    have ed := eq_true d1
    by_cases d2 : (s1.pr x).yes = (n : Int) - 1
    case neg =>
      have ee := eq_false d2
      have hm : menter n x s1 = s1 := if_neg (fun hh => d2 hh.2)
      rw [hm] at hcut
      simp -dsimp (maxSteps := 2000000) only [Fa.F31, rdI_of t1, t1, rdI_of t3, t3, ed, ee, hgl, undef, tu, uf, ul, ur, walkJ, VC.Now, VC.vc, VC.lib, VC.mapN_drewN, VC.mapB_drewN, VC.regQ, VC.loopK, VC.reg, VC.opP, VC.opS, VC.opZ, VC.nomulB, VC.pv, VC.thenF, VC.blkF, VC.retF, VC.resV, VC.oneV, VC.evo, VC.bin, VC.binI, VC.cmpI, VC.arithI, VC.ldv, VC.slv, VC.pickP, VC.holds, VC.chainOf, VC.look, VC.junk, VC.put, VC.eff, VC.callee, VC.pureB, VC.rdK, VC.rdKs, VC.okKs, VC.eqKs, VC.fillL, VC.putL, VC.stW, VC.stOK, VC.mixF, VC.setAll, Nat.reduceAdd, Nat.reduceSub, Nat.reduceMul, if_true, if_false, ↓reduceIte, forall_const, implies_true, reduceCtorEq, ne_eq, Nat.reduceBNe, Nat.reduceBEq, IntKind.signed, Nat.reduceEqDiff, Nat.reduceLeDiff, Nat.reduceLT, eq_self, Int.reduceEq, Int.reduceLT, Int.reduceLE, Int.reduceAdd, Int.reduceSub, VC.regC_nil, VC.regC_cons, VC.regCK_eq, VC.callQ, VC.tailQ, VC.goCall, VC.chStep]
      intros
      refine ⟨fits_i64 (by omega) (by omega), fun u7 => ?_⟩
      exact hcut _ _ (SAME.walk hJ (by kernel_rfl)) ⟨v1, P1, by rfl, hB4, hP1, hX1, hH4.left⟩
    have ee := eq_true d2
    have hm : menter n x s1 = { s1 with pr := upd s1.pr x { s1.pr x with how := 2 }, inn := s1.inn ++ [x] } := if_pos ⟨d1, d2⟩
    rw [hm] at hcut
    have st5 := (DAll.field hH4.left hxn (j := 1) (by omega) (iV 2) { s1.pr x with how := 2 } rfl rfl).part hH4
    obtain ⟨w5, hw5⟩ : ∃ w5, w5 = w4.setCell ⟨gl, x * 5 + 1, none⟩ (.int .i64 2) := ⟨_, rfl⟩
    rw [show w4.setCell ⟨gl, x * 5 + 1, none⟩ (iV 2) = w5 from hw5.symm] at st5
    have hB5 := hB4.trans (st5.below hH4)
    have hH5 := st5.hp
    have f5 : Box w5 sb (moveL c) := hH5.get (6 + n) (DAll_at _)
    have z1 := f5.at (i := 1) rfl
    rw [hx0] at z1
    have hsl := f5.1
    have bo : Box w5 ob [vc, v1.vi, nilS, iV 0] := hH5.get 0 rfl
    have y1 := bo.at (i := 1) rfl
    have hol := bo.1
    have own2 : OwnK w5 0 3 1 s1.inn.length v1.vi (natL s1.inn) := hH5.get 2 rfl
    obtain ⟨Ai, ci, ei, _⟩ := id own2
    rw [ei] at y1
    simp -dsimp (maxSteps := 2000000) only [Fa.F31, rdI_of t1, t1, rdI_of t3, t3, ed, ee, hgl, k1, x1, ← hw5, rdSA_of y1, rdSN_of y1, rdSC_of y1, y1, hol, rdI_of z1, z1, hsl, undef, tu, uf, ul, ur, walkJ, VC.Now, VC.vc, VC.lib, VC.mapN_drewN, VC.mapB_drewN, VC.regQ, VC.loopK, VC.reg, VC.opP, VC.opS, VC.opZ, VC.nomulB, VC.pv, VC.thenF, VC.blkF, VC.retF, VC.resV, VC.oneV, VC.evo, VC.bin, VC.binI, VC.cmpI, VC.arithI, VC.ldv, VC.slv, VC.pickP, VC.holds, VC.chainOf, VC.look, VC.junk, VC.put, VC.eff, VC.callee, VC.pureB, VC.rdK, VC.rdKs, VC.okKs, VC.eqKs, VC.fillL, VC.putL, VC.stW, VC.stOK, VC.mixF, VC.setAll, Nat.reduceAdd, Nat.reduceSub, Nat.reduceMul, if_true, if_false, ↓reduceIte, forall_const, implies_true, reduceCtorEq, ne_eq, Nat.reduceBNe, Nat.reduceBEq, IntKind.signed, Nat.reduceEqDiff, Nat.reduceLeDiff, Nat.reduceLT, eq_self, Int.reduceEq, Int.reduceLT, Int.reduceLE, Int.reduceAdd, Int.reduceSub, VC.regC_nil, VC.regC_cons, VC.regCK_eq, VC.callQ, VC.tailQ, VC.goCall, VC.chStep]
    intros
    refine ⟨fits_i64 (by omega) (by omega), fun u7 => ?_⟩
    refine OPW_appK (v := v1.vi) rfl Fa.apI23 (by rw [ei]; rfl) rfl rfl (by simp [Value.oneCell']) own2 (Nat.zero_le _) (by omega) (by decide) fun v6 w6 ho6 hg6 hst6 => ?_
    obtain ⟨⟨r1, r2⟩, st6⟩ := DAll.enters hH5.left ho6 hg6 hst6
    obtain ⟨A6, c6, rfl, _⟩ := id ho6
    have hw6 : ob < w6.heap.size := by simpa using (st6.hp.get 0 rfl : Box _ ob _).1
    rw [VC.Now, VC.seqK_eq]
    simp -dsimp (maxSteps := 2000000) only [Fa.F31, hw6, VC.Now, VC.vc, VC.lib, VC.mapN_drewN, VC.mapB_drewN, VC.regQ, VC.loopK, VC.reg, VC.opP, VC.opS, VC.opZ, VC.nomulB, VC.pv, VC.thenF, VC.blkF, VC.retF, VC.resV, VC.oneV, VC.evo, VC.bin, VC.binI, VC.cmpI, VC.arithI, VC.ldv, VC.slv, VC.pickP, VC.holds, VC.chainOf, VC.look, VC.junk, VC.put, VC.eff, VC.callee, VC.pureB, VC.rdK, VC.rdKs, VC.okKs, VC.eqKs, VC.fillL, VC.putL, VC.stW, VC.stOK, VC.mixF, VC.setAll, Nat.reduceAdd, Nat.reduceSub, Nat.reduceMul, if_true, if_false, ↓reduceIte, forall_const, implies_true, reduceCtorEq, ne_eq, Nat.reduceBNe, Nat.reduceBEq, IntKind.signed, Nat.reduceEqDiff, Nat.reduceLeDiff, Nat.reduceLT, eq_self, Int.reduceEq, Int.reduceLT, Int.reduceLE, Int.reduceAdd, Int.reduceSub, VC.regC_nil, VC.regC_cons, VC.regCK_eq, VC.callQ, VC.tailQ, VC.goCall, VC.chStep]
    refine ⟨⟨r1, r2⟩, ?_⟩
    exact hcut _ _ (SAME.walk hJ (by kernel_rfl)) ⟨{ v1 with vi := .slice A6 (s1.inn.length + 1) c6 }, P1, by rfl, hB5.trans (st6.below hH5.left), hP1, hX1, st6.hp⟩
  rw [VC.Now]
  have hqw := hqb.waits x
  have hlt := hqb.wlt x
  have hstep : mxstep n c s = mleave x s := by unfold mxstep; rw [if_neg k0, if_neg (by omega), if_neg k1, if_neg k2, hxt]
  by_cases q3 : (s.pr x).how = 2
  case neg =>
    have e5 := eq_false q3
    have hds : mxstep n c s = (6, menter n x s) := by rw [menter_same hnd, hstep]; unfold mleave; rw [if_pos q3]
    simp -dsimp (maxSteps := 2000000) only [Fa.F31, rdI_of z0, z0, e1, e3, hsl, rdI_of t1, t1, hgl, e5, undef, tu, uf, ul, ur, VC.Now, VC.vc, VC.lib, VC.mapN_drewN, VC.mapB_drewN, VC.regQ, VC.loopK, VC.reg, VC.opP, VC.opS, VC.opZ, VC.nomulB, VC.pv, VC.thenF, VC.blkF, VC.retF, VC.resV, VC.oneV, VC.evo, VC.bin, VC.binI, VC.cmpI, VC.arithI, VC.ldv, VC.slv, VC.pickP, VC.holds, VC.chainOf, VC.look, VC.junk, VC.put, VC.eff, VC.callee, VC.pureB, VC.rdK, VC.rdKs, VC.okKs, VC.eqKs, VC.fillL, VC.putL, VC.stW, VC.stOK, VC.mixF, VC.setAll, Nat.reduceAdd, Nat.reduceSub, Nat.reduceMul, if_true, if_false, ↓reduceIte, forall_const, implies_true, reduceCtorEq, ne_eq, Nat.reduceBNe, Nat.reduceBEq, IntKind.signed, Nat.reduceEqDiff, Nat.reduceLeDiff, Nat.reduceLT, eq_self, Int.reduceEq, Int.reduceLT, Int.reduceLE, Int.reduceAdd, Int.reduceSub, VC.regC_nil, VC.regC_cons, VC.regCK_eq, VC.callQ, VC.tailQ, VC.goCall, VC.chStep]
    intros
    exact hcut2 _ _ (SAME.walk hJa (by kernel_rfl)) ⟨s, P, v, 6, by rfl, hds, rfl, by omega, hXR, hBy, hF⟩
  have e5 := eq_true q3
  obtain ⟨s2, hs2⟩ : ∃ s2 : MxS, s2 = { s with pr := upd s.pr x { s.pr x with how := 0, waits := [] } } := ⟨_, rfl⟩
  have hnd2 : NoDoor n (msendL x 0 (s.pr x).waits s2) := noDoor_upd (i := x) (p := { s.pr x with how := 0, waits := [] }) hnd (by rw [msendL_pr, hs2]) (fun hh => by have h2 : (0 : Int) = 1 := hh.1; omega)
  have hds : mxstep n c s = (0, menter n x (msendL x 0 (s.pr x).waits s2)) := by rw [menter_same hnd2, hstep]; unfold mleave; rw [if_neg (by rw [q3]; simp), hs2]
  have sa := (DAll.field hF.left hxn (j := 1) (by omega) (iV 0) { s.pr x with how := 0 } rfl rfl).part hF
  obtain ⟨wa, hwa⟩ : ∃ wa, wa = wy.setCell ⟨gl, x * 5 + 1, none⟩ (.int .i64 0) := ⟨_, rfl⟩
  rw [show wy.setCell ⟨gl, x * 5 + 1, none⟩ (iV 0) = wa from hwa.symm] at sa
  have Ra : Recs wa gl n 5 _ := sa.hp.get 4 rfl
  have ta4 := Ra.at (i := x) (j := 4) hxn (by omega) rfl
  have ta4 : wa.cell? ⟨gl, x * 5 + 4, none⟩ = some (v.wv x) := ta4
  have own := dWaits_at (L := [oBox ob [vc, v.vi, nilS, iV 0], oOwn 24 1 k vc cl, oOwn 3 1 s.inn.length v.vi (natL s.inn), oBox rb [nilS, nilS, nilS, iV 0], oRecs gl n 5 (fun i => apL (s.pr i) (v.wv i)), oOwn 200 4 P.length v.pv (P.flatMap ltL)]) hF.left hxn
  obtain ⟨Aw, cw, ew, _⟩ := id own
  rw [ew] at ta4
  have ga := Ra.1
  have x1 := hR.soft (i := x) (j := 1) hxn (by omega)
  have o1 : (wy.cell? ⟨gl, x * 5 + 1, none⟩).isSome = true := by rw [t1]; rfl
  obtain ⟨s1, hs1⟩ : ∃ s1 : MxS, s1 = { s with pr := upd s.pr x { s.pr x with how := 0 } } := ⟨_, rfl⟩
  have st := sa
  rw [← hs1] at st
  have hHd := st.hp
  have hBd := hBy.trans (st.below hF)
  have hw1 : (s1.pr x).waits = (s.pr x).waits := by rw [hs1]; show (upd s.pr x _ x).waits = _; rw [upd_same]
  have hi1 : s1.inn = s.inn := by rw [hs1]
  simp -dsimp (maxSteps := 2000000) only [Fa.F31, rdI_of z0, z0, e1, e3, e5, hsl, rdI_of t1, t1, hgl, o1, x1, ← hwa, rdSA_of ta4, rdSN_of ta4, rdSC_of ta4, ta4, ga, undef, tu, uf, ul, ur, VC.Now, VC.vc, VC.lib, VC.mapN_drewN, VC.mapB_drewN, VC.regQ, VC.loopK, VC.reg, VC.opP, VC.opS, VC.opZ, VC.nomulB, VC.pv, VC.thenF, VC.blkF, VC.retF, VC.resV, VC.oneV, VC.evo, VC.bin, VC.binI, VC.cmpI, VC.arithI, VC.ldv, VC.slv, VC.pickP, VC.holds, VC.chainOf, VC.look, VC.junk, VC.put, VC.eff, VC.callee, VC.pureB, VC.rdK, VC.rdKs, VC.okKs, VC.eqKs, VC.fillL, VC.putL, VC.stW, VC.stOK, VC.mixF, VC.setAll, Nat.reduceAdd, Nat.reduceSub, Nat.reduceMul, if_true, if_false, ↓reduceIte, forall_const, implies_true, reduceCtorEq, ne_eq, Nat.reduceBNe, Nat.reduceBEq, IntKind.signed, Nat.reduceEqDiff, Nat.reduceLeDiff, Nat.reduceLT, eq_self, Int.reduceEq, Int.reduceLT, Int.reduceLE, Int.reduceAdd, Int.reduceSub, VC.regC_nil, VC.regC_cons, VC.regCK_eq, VC.callQ, VC.tailQ, VC.goCall, VC.chStep]
  intro u9
  clear hwa hBy hF hR t0 t1 t2 t3 t4 hgl z0 z1 z2 hsl sa st Ra ta4 ga x1 o1 own
  refine loop_slots Fa.mix [156, 7] [14, 157, 158, 159, 160, 161, 162, 163, 164, 165, 166, 167] (fun m vs wx => ∃ (j : Nat) (P1 : List Letter) (pv1 : Value), j + m = (s.pr x).waits.length ∧ vs = [.int .i64 j, pv1] ∧ P1.length ≤ P.length + j ∧ XR n (msendL x 0 ((s.pr x).waits.take j) s2).way P1 ∧ Below rb w wx ∧
      Hp rb (DAll ⟨n, gl, ob, rb⟩ k cl vc s1 P1 { v with pv := pv1 } ++ [oBox sb (moveL c)]) wx) (s.pr x).waits.length (by kernel_rfl) rfl
    ⟨0, P, v.pv, by omega, rfl, by omega, by rw [hs2]; exact hXR, hBd, hHd⟩ ?_
  clear hHd hBd hXR
  rintro m vs u8 wx ⟨j, P1, pv1, hjm, rfl, hP1, hX1, hBx, hH⟩
  rw [mixF_walk]
  rotate_left
  · kernel_rfl
  by_cases hj : j < (s.pr x).waits.length
  · have e7 : ((j : Int) < (s.pr x).waits.length) = True := eq_true (by omega)
    have h6 : (DAll ⟨n, gl, ob, rb⟩ k cl vc s1 P1 { v with pv := pv1 } ++ [oBox sb (moveL c)])[6 + n]? = some (oBox sb (moveL c)) := DAll_at _
    have fs : Box wx sb (moveL c) := hH.get (6 + n) h6
    have z1 := fs.at (i := 1) rfl
    rw [hx0] at z1
    have hsl := fs.1
    have own := dWaits_at (L := [oBox ob [vc, v.vi, nilS, iV 0], oOwn 24 1 k vc cl, oOwn 3 1 s1.inn.length v.vi (natL s1.inn), oBox rb [nilS, nilS, nilS, iV 0], oRecs gl n 5 (fun i => apL (s1.pr i) (v.wv i)), oOwn 200 4 P1.length pv1 (P1.flatMap ltL)]) hH.left hxn
    rw [hw1, ew] at own
    obtain ⟨gw, c', hv, _, hgw⟩ := own.form (by omega)
    simp only [Value.slice.injEq] at hv
    obtain ⟨rfl, _, rfl⟩ := hv
    have hwn : (s.pr x).waits[j] < n := hlt _ (List.getElem_mem hj)
    have tw := (own.at (j := j) (by omega)).1
    rw [List.getElem?_map, List.getElem?_eq_getElem hj] at tw
    have tw : wx.cell? ⟨gw, j, none⟩ = some (.int .i64 ((s.pr x).waits[j] : Int)) := tw
    have hHd := hH
    simp -dsimp (maxSteps := 2000000) only [Fa.F31, e7, rdI_of z1, z1, hsl, rdI_of tw, tw, hgw, Int.toNat_natCast, Nat.zero_add, walkJ, VC.Now, VC.vc, VC.lib, VC.mapN_drewN, VC.mapB_drewN, VC.regQ, VC.loopK, VC.reg, VC.opP, VC.opS, VC.opZ, VC.nomulB, VC.pv, VC.thenF, VC.blkF, VC.retF, VC.resV, VC.oneV, VC.evo, VC.bin, VC.binI, VC.cmpI, VC.arithI, VC.ldv, VC.slv, VC.pickP, VC.holds, VC.chainOf, VC.look, VC.junk, VC.put, VC.eff, VC.callee, VC.pureB, VC.rdK, VC.rdKs, VC.okKs, VC.eqKs, VC.fillL, VC.putL, VC.stW, VC.stOK, VC.mixF, VC.setAll, Nat.reduceAdd, Nat.reduceSub, Nat.reduceMul, if_true, if_false, ↓reduceIte, forall_const, implies_true, reduceCtorEq, ne_eq, Nat.reduceBNe, Nat.reduceBEq, IntKind.signed, Nat.reduceEqDiff, Nat.reduceLeDiff, Nat.reduceLT, eq_self, Int.reduceEq, Int.reduceLT, Int.reduceLE, Int.reduceAdd, Int.reduceSub, VC.regC_nil, VC.regC_cons, VC.regCK_eq, VC.callQ, VC.tailQ, VC.goCall, VC.chStep]
    refine ⟨by omega, ?_⟩
    refine OPW_appK (v := pv1) rfl Fa.apI195 rfl rfl rfl (by simp [Value.oneCell']) (hHd.get 5 rfl) (Nat.zero_le _) (by omega) (by decide) fun v5 w5 ho5 hg5 hst5 => ?_
    have st6 := (DAll.letter (x := Letter.mk x (s.pr x).waits[j] 0 false) hHd.left ho5 hg5 hst5).part hHd
    rw [VC.Now, VC.seqK_eq]
    simp -dsimp (maxSteps := 2000000) only [Fa.F31, VC.Now, VC.vc, VC.lib, VC.mapN_drewN, VC.mapB_drewN, VC.regQ, VC.loopK, VC.reg, VC.opP, VC.opS, VC.opZ, VC.nomulB, VC.pv, VC.thenF, VC.blkF, VC.retF, VC.resV, VC.oneV, VC.evo, VC.bin, VC.binI, VC.cmpI, VC.arithI, VC.ldv, VC.slv, VC.pickP, VC.holds, VC.chainOf, VC.look, VC.junk, VC.put, VC.eff, VC.callee, VC.pureB, VC.rdK, VC.rdKs, VC.okKs, VC.eqKs, VC.fillL, VC.putL, VC.stW, VC.stOK, VC.mixF, VC.setAll, Nat.reduceAdd, Nat.reduceSub, Nat.reduceMul, if_true, if_false, ↓reduceIte, forall_const, implies_true, reduceCtorEq, ne_eq, Nat.reduceBNe, Nat.reduceBEq, IntKind.signed, Nat.reduceEqDiff, Nat.reduceLeDiff, Nat.reduceLT, eq_self, Int.reduceEq, Int.reduceLT, Int.reduceLE, Int.reduceAdd, Int.reduceSub, VC.regC_nil, VC.regC_cons, VC.regCK_eq, VC.callQ, VC.tailQ, VC.goCall, VC.chStep]
    refine ⟨fits_i64_nat (by omega), SAME.intro (by kernel_rfl), m - 1, by omega, j + 1, P1 ++ [Letter.mk x (s.pr x).waits[j] 0 false], v5, by omega, rfl, by simp; omega, ?_, hBx.trans (st6.below hHd), st6.hp⟩
    rw [List.take_succ_eq_append_getElem hj, msendL_snoc]
    exact hX1.send hxn hwn 0
  · obtain rfl : j = (s.pr x).waits.length := by omega
    have e7 : (((s.pr x).waits.length : Int) < (s.pr x).waits.length) = False := eq_false (by omega)
    rw [List.take_length] at hX1
    have st7 := (DAll.wnil hH.left hxn).part hH
    have Rx : Recs wx gl n 5 _ := hH.get 4 rfl
    have hgl := Rx.1
    have x4 := Rx.soft (i := x) (j := 4) hxn (by omega)
    have o4 : (wx.cell? ⟨gl, x * 5 + 4, none⟩).isSome = true := by rw [Rx.at (i := x) (j := 4) hxn (by omega) rfl]; rfl
    simp -dsimp (maxSteps := 2000000) only [Fa.F31, e7, hgl, x4, o4, walkJ, VC.Now, VC.vc, VC.lib, VC.mapN_drewN, VC.mapB_drewN, VC.regQ, VC.loopK, VC.reg, VC.opP, VC.opS, VC.opZ, VC.nomulB, VC.pv, VC.thenF, VC.blkF, VC.retF, VC.resV, VC.oneV, VC.evo, VC.bin, VC.binI, VC.cmpI, VC.arithI, VC.ldv, VC.slv, VC.pickP, VC.holds, VC.chainOf, VC.look, VC.junk, VC.put, VC.eff, VC.callee, VC.pureB, VC.rdK, VC.rdKs, VC.okKs, VC.eqKs, VC.fillL, VC.putL, VC.stW, VC.stOK, VC.mixF, VC.setAll, Nat.reduceAdd, Nat.reduceSub, Nat.reduceMul, if_true, if_false, ↓reduceIte, forall_const, implies_true, reduceCtorEq, ne_eq, Nat.reduceBNe, Nat.reduceBEq, IntKind.signed, Nat.reduceEqDiff, Nat.reduceLeDiff, Nat.reduceLT, eq_self, Int.reduceEq, Int.reduceLT, Int.reduceLE, Int.reduceAdd, Int.reduceSub, VC.regC_nil, VC.regC_cons, VC.regCK_eq, VC.callQ, VC.tailQ, VC.goCall, VC.chStep]
    have e9 : ({ s1 with pr := upd s1.pr x { s1.pr x with waits := [] } } : MxS) = s2 := by
      rw [hs1, hs2]
      show ({ s with pr := upd (upd s.pr x _) x { upd s.pr x _ x with waits := [] } } : MxS) = _
      rw [upd_same, upd_upd]
    have hH7 := st7.hp
    rw [e9] at hH7
    exact hcut2 _ _ (SAME.walk hJa (by kernel_rfl)) ⟨msendL x 0 (s.pr x).waits s2, P1, { v with pv := pv1, wv := upd v.wv x nilS }, 0, by rfl, hds, msendL_inn.trans (by rw [hs2]), by omega, hX1, hBx.trans (st7.below hH), by rw [DAll_congr msendL_pr msendL_inn]; exact hH7⟩
end Go.Proofs.Ytelfmhiaafkimaa
