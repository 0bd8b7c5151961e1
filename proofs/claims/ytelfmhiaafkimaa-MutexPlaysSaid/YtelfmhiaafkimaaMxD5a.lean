/- One in at a time, the document's: what comes is taken, and who waits. -/
import Derived.Test.YtelfmhiaafkimaaMxD5
namespace Go.Proofs.Ytelfmhiaafkimaa
open Go Go.RowKit Go.VC
set_option linter.unusedSimpArgs false
set_option linter.unusedVariables false
set_option maxRecDepth 8000 in
set_option maxHeartbeats 8000000 in
theorem mxD_takeA : takeBut.1.1 := by
  unfold takeBut
  intro n len cap w h1 hn hlen rb ob gl u2 k vc P hPl hk b o s hXR hqb hnd c wy sb Q3 k0 k1 e1 k2 e2 q1 q2 q3 a3 q4 a4 q5 cl vi0 wv0 cp e3 x a5 a2 a1 hx0 hxn hxt hrs u6 u7 Q5 hqn hqy hqw y hy0 hyn hyt hstep u9 u8 wx hm t hat hf e8 ht q pg _ hpg _ hcut2 w5 P6 _ hP6 hp6 z hway hz l2 hpg5 hqz s2 hs2 hX1 hpr2 hin2 hx e10 s6 hs6 hmx e11 w6 hH6 hB6
  have hJa : okJ ([7, 10, 12, 14, 15, 16, 17] ++ List.range' 79 202) [7, 10] [12, 14, 15, 16, 17, 79, 80, 81, 82, 83, 84, 85, 86, 87, 88, 89, 90, 91, 92, 93, 94, 95, 96, 97, 98, 99, 100, 101, 102, 103, 104, 105, 106, 107, 108, 109, 110, 111, 112, 113, 114, 115, 116, 117, 118, 119, 120, 121, 122, 123, 124, 125, 126, 127, 128, 129, 130, 131, 132, 133, 134, 135, 136, 137, 138, 139, 140, 141, 142, 143, 144, 145, 146, 147, 148, 149, 150, 151, 152, 153, 154, 155, 156, 157, 158, 159, 160, 161, 162, 163, 164, 165, 166, 167, 168, 169, 170, 171, 172, 173, 174, 175, 176, 177, 178, 179, 180, 181, 182, 183, 184, 185, 186, 187, 188, 189, 190, 191, 192, 193, 194, 195, 196, 197, 198, 199, 200, 201, 202, 203, 204, 205, 206, 207, 208, 209, 210, 211, 212, 213, 214, 215, 216, 217, 218, 219, 220, 221, 222, 223, 224, 225, 226, 227, 228, 229, 230, 231, 232, 233, 234, 235, 236, 237, 238, 239, 240, 241, 242, 243, 244, 245, 246, 247, 248, 249, 250, 251, 252, 253, 254, 255, 256, 257, 258, 259, 260, 261, 262, 263, 264, 265, 266, 267, 268, 269, 270, 271, 272, 273, 274, 275, 276, 277, 278, 279, 280] = true := by kernel_rfl
  have R6 : Recs w6 gl n 5 (fun i => apL (s6.pr i) (wv0 i)) := hH6.get 4 rfl
  have t1 : w6.cell? ⟨gl, x * 5 + 1, none⟩ = some (.int .i64 (s.pr x).how) := R6.at (i := x) (j := 1) hxn (by omega) (by rw [hs6]; show (apL (upd s.pr x _ x) _)[1]? = _; rw [upd_same]; rfl)
  have t2 : w6.cell? ⟨gl, x * 5 + 2, none⟩ = some (.int .i64 (s.pr x).key) := R6.at (i := x) (j := 2) hxn (by omega) (by rw [hs6]; show (apL (upd s.pr x _ x) _)[2]? = _; rw [upd_same]; rfl)
  have hgl6 := R6.1
  have hw6 : (s6.pr x).waits = (s.pr x).waits := by rw [hs6]; show (upd s.pr x _ x).waits = _; rw [upd_same]
  have hin6 : s6.inn = s.inn := by rw [hs6]
  have h66 : (DAll ⟨n, gl, ob, rb⟩ k cl vc s6 P6 ⟨vi0, .slice (some ⟨pg, 0, none⟩) P.length cp, wv0⟩ ++ [oBox sb (moveL c)])[6 + n]? = some (oBox sb (moveL c)) := DAll_at _
  have hwx : (DAll ⟨n, gl, ob, rb⟩ k cl vc s6 P6 ⟨vi0, .slice (some ⟨pg, 0, none⟩) P.length cp, wv0⟩ ++ [oBox sb (moveL c)])[6 + x]? = some (oOwn 3 1 (s6.pr x).waits.length (wv0 x) (natL (s6.pr x).waits)) := by
    rw [List.getElem?_append_left (by rw [DAll_len]; show 6 + x < 6 + n; omega)]
    unfold DAll
    rw [List.getElem?_append_right (by simp)]
    simp [dWaits, hxn]
  have fs6 : Box w6 sb (moveL c) := hH6.get (6 + n) h66
  have z1 := fs6.at (i := 1) rfl
  have z2 := fs6.at (i := 2) rfl
  rw [hx0] at z1
  rw [hy0] at z2
  have hsl6 := fs6.1
  refine WP_calls Fa.mix (by kernel_rfl) (by kernel_rfl) rfl ?_
  by_cases g1 : (s.pr x).how = 2
  · have e2 := eq_true g1
    simp -dsimp (maxSteps := 2000000) only [Fa.F31, e2, rdI_of t1, t1, hgl6, undef, tu, uf, ul, ur, VC.Now, VC.vc_skip, VC.vc_ret, VC.vc_exit, VC.vc_block, VC.vc_cond, VC.vc_region, VC.lib, VC.mapN_drewN, VC.mapB_drewN, VC.regQ, VC.loopK, VC.reg, VC.opP, VC.opS, VC.opZ, VC.nomulB, VC.pv, VC.thenF, VC.blkF, VC.retF, VC.resV, VC.oneV, VC.evo, VC.bin, VC.binI, VC.cmpI, VC.arithI, VC.ldv, VC.slv, VC.pickP, VC.holds, VC.chainOf, VC.look, VC.junk, VC.put, VC.eff, VC.callee, VC.pureB, VC.rdK, VC.rdKs, VC.okKs, VC.eqKs, VC.fillL, VC.putL, VC.stW, VC.stOK, VC.mixF, VC.setAll, Nat.reduceAdd, Nat.reduceSub, Nat.reduceMul, if_true, if_false, ↓reduceIte, forall_const, implies_true, reduceCtorEq, ne_eq, Nat.reduceBNe, Nat.reduceBEq, IntKind.signed, Nat.reduceEqDiff, Nat.reduceLeDiff, Nat.reduceLT, eq_self, Int.reduceEq, Int.reduceLT, Int.reduceLE, Int.reduceAdd, Int.reduceSub, VC.regC_nil, VC.regC_cons, VC.regCK_eq, VC.callQ, VC.tailQ, VC.goCall, VC.chStep]
    refine CALLQ_of (v := .bool true) (fun h => h.elim) ?_
    simp -dsimp (maxSteps := 2000000) only [Fa.F31, e2, undef, tu, uf, ul, ur, VC.Now, VC.vc_skip, VC.vc_ret, VC.vc_exit, VC.vc_block, VC.vc_cond, VC.vc_region, VC.lib, VC.mapN_drewN, VC.mapB_drewN, VC.regQ, VC.loopK, VC.reg, VC.opP, VC.opS, VC.opZ, VC.nomulB, VC.pv, VC.thenF, VC.blkF, VC.retF, VC.resV, VC.oneV, VC.evo, VC.bin, VC.binI, VC.cmpI, VC.arithI, VC.ldv, VC.slv, VC.pickP, VC.holds, VC.chainOf, VC.look, VC.junk, VC.put, VC.eff, VC.callee, VC.pureB, VC.rdK, VC.rdKs, VC.okKs, VC.eqKs, VC.fillL, VC.putL, VC.stW, VC.stOK, VC.mixF, VC.setAll, Nat.reduceAdd, Nat.reduceSub, Nat.reduceMul, if_true, if_false, ↓reduceIte, forall_const, implies_true, reduceCtorEq, ne_eq, Nat.reduceBNe, Nat.reduceBEq, IntKind.signed, Nat.reduceEqDiff, Nat.reduceLeDiff, Nat.reduceLT, eq_self, Int.reduceEq, Int.reduceLT, Int.reduceLE, Int.reduceAdd, Int.reduceSub, VC.regC_nil, VC.regC_cons, VC.regCK_eq, VC.callQ, VC.tailQ, VC.goCall, VC.chStep]
    intro u9 w9 hB9
    have hB9' := hB9
    have hH9 := hH6.below hB9'
    have hB9w := hB6.trans (hB9'.mono hH6.base)
    have R9 : Recs w9 gl n 5 (fun i => apL (s6.pr i) (wv0 i)) := hH9.get 4 rfl
    have x4 : w9.cell? ⟨gl, x * 5 + 4, none⟩ = some (wv0 x) := R9.at (i := x) (j := 4) hxn (by omega) rfl
    have hgl9 := R9.1
    have fs9 : Box w9 sb (moveL c) := hH9.get (6 + n) h66
    have z1 := fs9.at (i := 1) rfl
    have z2 := fs9.at (i := 2) rfl
    rw [hx0] at z1
    rw [hy0] at z2
    have hsl9 := fs9.1
    have own := dWaits_at (L := [oBox ob [vc, vi0, nilS, iV 0], oOwn 24 1 k vc cl, oOwn 3 1 s6.inn.length vi0 (natL s6.inn), oBox rb [nilS, nilS, nilS, iV 0], oRecs gl n 5 (fun i => apL (s6.pr i) (wv0 i)), oOwn 200 4 P6.length (.slice (some ⟨pg, 0, none⟩) P.length cp) (P6.flatMap ltL)]) hH9.left hxn
    have own : OwnK w9 0 3 1 (s6.pr x).waits.length (wv0 x) (natL (s6.pr x).waits) := own
    rw [hw6] at own
    obtain ⟨Aw, cw, ew, _⟩ := id own
    have x4s := x4
    rw [ew] at x4s
    have hne1 : ¬ (wv0 x).ownBlock = some gl := fun hf => hH9.ne 4 (6 + x) (by omega) rfl hwx gl rfl hf
    have hne2 : ¬ (wv0 x).ownBlock = some sb := fun hf => hH9.ne (6 + x) (6 + n) (by omega) hwx h66 sb hf rfl
    have agS : Agree (fun l => (wv0 x).ownBlock = some l) w9 (w9.drewN 1) := Agree.of_below (below_drewN (Below.refl _ w9) 1)
    have hHd := hH9.drewN 1
    have ownd := own.below (below_drewN (Below.refl _ w9) 1)
    refine WP_held 11 (fun l => (wv0 x).ownBlock = some l) (.take 0 (.take 1 (.take 2 (.take 3 (.take 4 (.take 5 (.take 6 (.one 7 (.one 8 (.one 9 (.take 10 (.one 11 .done)))))))))))) Fa.mix (by kernel_rfl) rfl ?_
    simp -dsimp (maxSteps := 2000000) only [VC.heldF_done, VC.heldF_last, VC.planF_done, VC.planF_take, VC.planF_one, VC.planF_two, VC.planK_eq, VC.heldF_take, VC.heldF_one, VC.heldF_two, VC.heldF_twoL, VC.heldK_eq, VC.okRd, Fa.F31, rdSA_of x4s, rdSN_of x4s, rdSC_of x4s, x4s, rdI_of z2, z2, VC.Now, VC.vc, VC.lib, VC.mapN_drewN, VC.mapB_drewN, VC.regQ, VC.loopK, VC.reg, VC.opP, VC.opS, VC.opZ, VC.nomulB, VC.pv, VC.thenF, VC.blkF, VC.retF, VC.resV, VC.oneV, VC.evo, VC.bin, VC.binI, VC.cmpI, VC.arithI, VC.ldv, VC.slv, VC.pickP, VC.holds, VC.chainOf, VC.look, VC.junk, VC.put, VC.eff, VC.callee, VC.pureB, VC.rdK, VC.rdKs, VC.okKs, VC.eqKs, VC.fillL, VC.putL, VC.stW, VC.stOK, VC.mixF, VC.setAll, Nat.reduceAdd, Nat.reduceSub, Nat.reduceMul, if_true, if_false, ↓reduceIte, forall_const, implies_true, reduceCtorEq, ne_eq, Nat.reduceBNe, Nat.reduceBEq, IntKind.signed, Nat.reduceEqDiff, Nat.reduceLeDiff, Nat.reduceLT, eq_self, Int.reduceEq, Int.reduceLT, Int.reduceLE, Int.reduceAdd, Int.reduceSub, VC.regC_nil, VC.regC_cons, VC.regCK_eq, VC.callQ, VC.tailQ, VC.goCall, VC.chStep]
    refine ⟨⟨hgl9, hne1⟩, ⟨hsl9, hne2⟩, agS.trans (Agree.of_below ((Below.refl _ _).alloc (Nat.le_refl _) _)), ?_⟩
    refine OPW_appK (v := wv0 x) rfl Fa.apI23 (by rw [ew]; rfl) rfl rfl (by simp [Value.oneCell']) ownd (Nat.zero_le _) (by omega) (by decide) fun v11 w11 ho11 hg11 hst11 => ?_
    have hnl : natL (s.pr x).waits ++ [.int .i64 (y : Int)] = natL ((s.pr x).waits ++ [y]) := by simp
    rw [hnl] at ho11
    have ho12 : OwnK w11 0 3 1 ((s.pr x).waits ++ [y]).length v11 (natL ((s.pr x).waits ++ [y])) := by rw [List.length_append]; exact ho11
    obtain ⟨A11, c11, rfl, _⟩ := id ho12
    obtain ⟨⟨r1, r2⟩, st12⟩ := DAll.waits hHd.left hxn ((s.pr x).waits ++ [y]) ho12 hg11 hst11
    have st12 := st12.part hHd
    simp -dsimp (maxSteps := 2000000) only [VC.heldF_done, VC.heldF_last, VC.planF_done, VC.planF_take, VC.planF_one, VC.planF_two, VC.planK_eq, VC.heldF_take, VC.heldF_one, VC.heldF_two, VC.heldF_twoL, VC.heldK_eq, VC.okRd, Fa.F31, VC.Now, VC.vc, VC.lib, VC.mapN_drewN, VC.mapB_drewN, VC.regQ, VC.loopK, VC.reg, VC.opP, VC.opS, VC.opZ, VC.nomulB, VC.pv, VC.thenF, VC.blkF, VC.retF, VC.resV, VC.oneV, VC.evo, VC.bin, VC.binI, VC.cmpI, VC.arithI, VC.ldv, VC.slv, VC.pickP, VC.holds, VC.chainOf, VC.look, VC.junk, VC.put, VC.eff, VC.callee, VC.pureB, VC.rdK, VC.rdKs, VC.okKs, VC.eqKs, VC.fillL, VC.putL, VC.stW, VC.stOK, VC.mixF, VC.setAll, Nat.reduceAdd, Nat.reduceSub, Nat.reduceMul, if_true, if_false, ↓reduceIte, forall_const, implies_true, reduceCtorEq, ne_eq, Nat.reduceBNe, Nat.reduceBEq, IntKind.signed, Nat.reduceEqDiff, Nat.reduceLeDiff, Nat.reduceLT, eq_self, Int.reduceEq, Int.reduceLT, Int.reduceLE, Int.reduceAdd, Int.reduceSub, VC.regC_nil, VC.regC_cons, VC.regCK_eq, VC.callQ, VC.tailQ, VC.goCall, VC.chStep]
    have ag11 := agS.trans (Agree.grown hg11 fun k hk => hk)
    first
      | refine ⟨ag11, ag11, ⟨r1, r2⟩, ?_⟩
      | refine ⟨ag11, ⟨r1, r2⟩, ?_⟩
      | refine ⟨ag11, ag11, ag11, ⟨r1, r2⟩, ?_⟩
    have hpr : upd s6.pr x { s6.pr x with waits := (s.pr x).waits ++ [y] } = upd s.pr x { s.pr x with n := max (s.pr x).n z, waits := (s.pr x).waits ++ [y] } := by
      rw [hs6]
      show upd (upd s.pr x _) x { upd s.pr x _ x with waits := _ } = _
      rw [upd_same, upd_upd]
    have hds : mxstep n c s = (0, menter n x { s2 with pr := upd s.pr x { s.pr x with n := max (s.pr x).n z, waits := (s.pr x).waits ++ [y] } }) := by
      have hnd2 : NoDoor n { s2 with pr := upd s.pr x { s.pr x with n := max (s.pr x).n z, waits := (s.pr x).waits ++ [y] } } := noDoor_upd (i := x) (p := { s.pr x with n := max (s.pr x).n z, waits := (s.pr x).waits ++ [y] }) hnd rfl (hnd x)
      rw [menter_same hnd2, hstep]; unfold mtake; rw [hway, hs2]; simp only [if_neg hx]; rw [if_pos (Or.inl g1)]
    have hHe := st12.hp
    rw [hpr] at hHe
    exact hcut2 _ _ (SAME.walk hJa (by kernel_rfl)) ⟨{ s2 with pr := upd s.pr x { s.pr x with n := max (s.pr x).n z, waits := (s.pr x).waits ++ [y] } }, P6, { (DV.mk vi0 (.slice (some ⟨pg, 0, none⟩) P.length cp) wv0) with wv := upd wv0 x (.slice A11 ((s.pr x).waits ++ [y]).length c11) }, 0, by rfl, hds, by rw [hs2], by omega, hX1, (below_drewN hB9w 1).trans (st12.below hHd), by rw [hs6] at hHe; rw [hs2]; exact hHe⟩
  have e2 := eq_false g1
  by_cases g2 : (s.pr x).how = 1
  case neg =>
    have e3 := eq_false g2
    simp -dsimp (maxSteps := 2000000) only [Fa.F31, e2, e3, rdI_of t1, t1, hgl6, undef, tu, uf, ul, ur, VC.Now, VC.vc_skip, VC.vc_ret, VC.vc_exit, VC.vc_block, VC.vc_cond, VC.vc_region, VC.lib, VC.mapN_drewN, VC.mapB_drewN, VC.regQ, VC.loopK, VC.reg, VC.opP, VC.opS, VC.opZ, VC.nomulB, VC.pv, VC.thenF, VC.blkF, VC.retF, VC.resV, VC.oneV, VC.evo, VC.bin, VC.binI, VC.cmpI, VC.arithI, VC.ldv, VC.slv, VC.pickP, VC.holds, VC.chainOf, VC.look, VC.junk, VC.put, VC.eff, VC.callee, VC.pureB, VC.rdK, VC.rdKs, VC.okKs, VC.eqKs, VC.fillL, VC.putL, VC.stW, VC.stOK, VC.mixF, VC.setAll, Nat.reduceAdd, Nat.reduceSub, Nat.reduceMul, if_true, if_false, ↓reduceIte, forall_const, implies_true, reduceCtorEq, ne_eq, Nat.reduceBNe, Nat.reduceBEq, IntKind.signed, Nat.reduceEqDiff, Nat.reduceLeDiff, Nat.reduceLT, eq_self, Int.reduceEq, Int.reduceLT, Int.reduceLE, Int.reduceAdd, Int.reduceSub, VC.regC_nil, VC.regC_cons, VC.regCK_eq, VC.callQ, VC.tailQ, VC.goCall, VC.chStep]
    refine CALLQ_of (v := .bool true) (fun h => h.elim) ?_
    simp -dsimp (maxSteps := 2000000) only [Fa.F31, e2, e3, undef, tu, uf, ul, ur, VC.Now, VC.vc_skip, VC.vc_ret, VC.vc_exit, VC.vc_block, VC.vc_cond, VC.vc_region, VC.lib, VC.mapN_drewN, VC.mapB_drewN, VC.regQ, VC.loopK, VC.reg, VC.opP, VC.opS, VC.opZ, VC.nomulB, VC.pv, VC.thenF, VC.blkF, VC.retF, VC.resV, VC.oneV, VC.evo, VC.bin, VC.binI, VC.cmpI, VC.arithI, VC.ldv, VC.slv, VC.pickP, VC.holds, VC.chainOf, VC.look, VC.junk, VC.put, VC.eff, VC.callee, VC.pureB, VC.rdK, VC.rdKs, VC.okKs, VC.eqKs, VC.fillL, VC.putL, VC.stW, VC.stOK, VC.mixF, VC.setAll, Nat.reduceAdd, Nat.reduceSub, Nat.reduceMul, if_true, if_false, ↓reduceIte, forall_const, implies_true, reduceCtorEq, ne_eq, Nat.reduceBNe, Nat.reduceBEq, IntKind.signed, Nat.reduceEqDiff, Nat.reduceLeDiff, Nat.reduceLT, eq_self, Int.reduceEq, Int.reduceLT, Int.reduceLE, Int.reduceAdd, Int.reduceSub, VC.regC_nil, VC.regC_cons, VC.regCK_eq, VC.callQ, VC.tailQ, VC.goCall, VC.chStep]
    intro u9 w9 hB9
    have hB9' := hB9
    have hH9 := hH6.below hB9'
    have hB9w := hB6.trans (hB9'.mono hH6.base)
    have R9 : Recs w9 gl n 5 (fun i => apL (s6.pr i) (wv0 i)) := hH9.get 4 rfl
    have x4 : w9.cell? ⟨gl, x * 5 + 4, none⟩ = some (wv0 x) := R9.at (i := x) (j := 4) hxn (by omega) rfl
    have hgl9 := R9.1
    have fs9 : Box w9 sb (moveL c) := hH9.get (6 + n) h66
    have z1 := fs9.at (i := 1) rfl
    have z2 := fs9.at (i := 2) rfl
    rw [hx0] at z1
    rw [hy0] at z2
    have hsl9 := fs9.1
    simp -dsimp (maxSteps := 2000000) only [Fa.F31, e2, e3, rdI_of z1, z1, rdI_of z2, z2, hsl9, undef, tu, uf, ul, ur, VC.Now, VC.vc_skip, VC.vc_ret, VC.vc_exit, VC.vc_block, VC.vc_cond, VC.vc_region, VC.lib, VC.mapN_drewN, VC.mapB_drewN, VC.regQ, VC.loopK, VC.reg, VC.opP, VC.opS, VC.opZ, VC.nomulB, VC.pv, VC.thenF, VC.blkF, VC.retF, VC.resV, VC.oneV, VC.evo, VC.bin, VC.binI, VC.cmpI, VC.arithI, VC.ldv, VC.slv, VC.pickP, VC.holds, VC.chainOf, VC.look, VC.junk, VC.put, VC.eff, VC.callee, VC.pureB, VC.rdK, VC.rdKs, VC.okKs, VC.eqKs, VC.fillL, VC.putL, VC.stW, VC.stOK, VC.mixF, VC.setAll, Nat.reduceAdd, Nat.reduceSub, Nat.reduceMul, if_true, if_false, ↓reduceIte, forall_const, implies_true, reduceCtorEq, ne_eq, Nat.reduceBNe, Nat.reduceBEq, IntKind.signed, Nat.reduceEqDiff, Nat.reduceLeDiff, Nat.reduceLT, eq_self, Int.reduceEq, Int.reduceLT, Int.reduceLE, Int.reduceAdd, Int.reduceSub, VC.regC_nil, VC.regC_cons, VC.regCK_eq, VC.callQ, VC.tailQ, VC.goCall, VC.chStep]
    refine OPW_appK (v := .slice (some ⟨pg, 0, none⟩) P.length cp) rfl Fa.apI195 rfl rfl rfl (by simp [Value.oneCell']) (hH9.get 5 rfl) (Nat.zero_le _) (by omega) (by decide) fun v11 w11 ho11 hg11 hst11 => ?_
    have st12 := (DAll.letter (x := Letter.mk x y 0 false) hH9.left ho11 hg11 hst11).part hH9
    have hnd2 : NoDoor n (msend x y 0 { s2 with pr := upd s.pr x { s.pr x with n := max (s.pr x).n z } }) := noDoor_upd (i := x) (p := { s.pr x with n := max (s.pr x).n z }) hnd rfl (hnd x)
    have hds : mxstep n c s = (0, menter n x (msend x y 0 { s2 with pr := upd s.pr x { s.pr x with n := max (s.pr x).n z } })) := by
      rw [menter_same hnd2, hstep]; unfold mtake; rw [hway, hs2]; simp only [if_neg hx]; rw [if_neg (fun hh => hh.elim g1 fun h2 => g2 h2.1)]
    rw [VC.Now, VC.seqK_eq]
    simp -dsimp (maxSteps := 2000000) only [Fa.F31, VC.Now, VC.vc, VC.lib, VC.mapN_drewN, VC.mapB_drewN, VC.regQ, VC.loopK, VC.reg, VC.opP, VC.opS, VC.opZ, VC.nomulB, VC.pv, VC.thenF, VC.blkF, VC.retF, VC.resV, VC.oneV, VC.evo, VC.bin, VC.binI, VC.cmpI, VC.arithI, VC.ldv, VC.slv, VC.pickP, VC.holds, VC.chainOf, VC.look, VC.junk, VC.put, VC.eff, VC.callee, VC.pureB, VC.rdK, VC.rdKs, VC.okKs, VC.eqKs, VC.fillL, VC.putL, VC.stW, VC.stOK, VC.mixF, VC.setAll, Nat.reduceAdd, Nat.reduceSub, Nat.reduceMul, if_true, if_false, ↓reduceIte, forall_const, implies_true, reduceCtorEq, ne_eq, Nat.reduceBNe, Nat.reduceBEq, IntKind.signed, Nat.reduceEqDiff, Nat.reduceLeDiff, Nat.reduceLT, eq_self, Int.reduceEq, Int.reduceLT, Int.reduceLE, Int.reduceAdd, Int.reduceSub, VC.regC_nil, VC.regC_cons, VC.regCK_eq, VC.callQ, VC.tailQ, VC.goCall, VC.chStep]
    exact hcut2 _ _ (SAME.walk hJa (by kernel_rfl)) ⟨msend x y 0 { s2 with pr := upd s.pr x { s.pr x with n := max (s.pr x).n z } }, P6 ++ [Letter.mk x y 0 false], { (DV.mk vi0 (.slice (some ⟨pg, 0, none⟩) P.length cp) wv0) with pv := v11 }, 0, by rfl, hds, by rw [hs2]; rfl, by simp; omega, XR.send (s := { s2 with pr := upd s.pr x { s.pr x with n := max (s.pr x).n z } }) hX1 hxn hyn 0, hB9w.trans (st12.below hH9), by have hHe := st12.hp; rw [hs6] at hHe; rw [hs2]; exact hHe⟩
  have e3 := eq_true g2
  have hmk := mineK (s.pr x).key z x y
  simp -dsimp (maxSteps := 2000000) only [Fa.F31, e2, e3, rdI_of t1, t1, rdI_of t2, t2, rdI_of z1, z1, rdI_of z2, z2, hsl6, hgl6, undef, tu, uf, ul, ur, VC.Now, VC.vc_skip, VC.vc_ret, VC.vc_exit, VC.vc_block, VC.vc_cond, VC.vc_region, VC.lib, VC.mapN_drewN, VC.mapB_drewN, VC.regQ, VC.loopK, VC.reg, VC.opP, VC.opS, VC.opZ, VC.nomulB, VC.pv, VC.thenF, VC.blkF, VC.retF, VC.resV, VC.oneV, VC.evo, VC.bin, VC.binI, VC.cmpI, VC.arithI, VC.ldv, VC.slv, VC.pickP, VC.holds, VC.chainOf, VC.look, VC.junk, VC.put, VC.eff, VC.callee, VC.pureB, VC.rdK, VC.rdKs, VC.okKs, VC.eqKs, VC.fillL, VC.putL, VC.stW, VC.stOK, VC.mixF, VC.setAll, Nat.reduceAdd, Nat.reduceSub, Nat.reduceMul, if_true, if_false, ↓reduceIte, forall_const, implies_true, reduceCtorEq, ne_eq, Nat.reduceBNe, Nat.reduceBEq, IntKind.signed, Nat.reduceEqDiff, Nat.reduceLeDiff, Nat.reduceLT, eq_self, Int.reduceEq, Int.reduceLT, Int.reduceLE, Int.reduceAdd, Int.reduceSub, VC.regC_nil, VC.regC_cons, VC.regCK_eq, VC.callQ, VC.tailQ, VC.goCall, VC.chStep]
  cases g3 : mineB (s.pr x).key x z y with
  | true =>
    rw [g3] at hmk
    refine CALLQ_of (v := .bool true) (fun _ wr _ => by rw [hmk]; exact less_any ((s.pr x).key, (x : Int)) (z, (y : Int)) wr) ?_
    simp -dsimp (maxSteps := 2000000) only [Fa.F31, e2, e3, undef, tu, uf, ul, ur, VC.Now, VC.vc_skip, VC.vc_ret, VC.vc_exit, VC.vc_block, VC.vc_cond, VC.vc_region, VC.lib, VC.mapN_drewN, VC.mapB_drewN, VC.regQ, VC.loopK, VC.reg, VC.opP, VC.opS, VC.opZ, VC.nomulB, VC.pv, VC.thenF, VC.blkF, VC.retF, VC.resV, VC.oneV, VC.evo, VC.bin, VC.binI, VC.cmpI, VC.arithI, VC.ldv, VC.slv, VC.pickP, VC.holds, VC.chainOf, VC.look, VC.junk, VC.put, VC.eff, VC.callee, VC.pureB, VC.rdK, VC.rdKs, VC.okKs, VC.eqKs, VC.fillL, VC.putL, VC.stW, VC.stOK, VC.mixF, VC.setAll, Nat.reduceAdd, Nat.reduceSub, Nat.reduceMul, if_true, if_false, ↓reduceIte, forall_const, implies_true, reduceCtorEq, ne_eq, Nat.reduceBNe, Nat.reduceBEq, IntKind.signed, Nat.reduceEqDiff, Nat.reduceLeDiff, Nat.reduceLT, eq_self, Int.reduceEq, Int.reduceLT, Int.reduceLE, Int.reduceAdd, Int.reduceSub, VC.regC_nil, VC.regC_cons, VC.regCK_eq, VC.callQ, VC.tailQ, VC.goCall, VC.chStep]
    intro u9 w9 hB9
    have hB9' := hB9
    have hH9 := hH6.below hB9'
    have hB9w := hB6.trans (hB9'.mono hH6.base)
    have R9 : Recs w9 gl n 5 (fun i => apL (s6.pr i) (wv0 i)) := hH9.get 4 rfl
    have x4 : w9.cell? ⟨gl, x * 5 + 4, none⟩ = some (wv0 x) := R9.at (i := x) (j := 4) hxn (by omega) rfl
    have hgl9 := R9.1
    have fs9 : Box w9 sb (moveL c) := hH9.get (6 + n) h66
    have z1 := fs9.at (i := 1) rfl
    have z2 := fs9.at (i := 2) rfl
    rw [hx0] at z1
    rw [hy0] at z2
    have hsl9 := fs9.1
    have own := dWaits_at (L := [oBox ob [vc, vi0, nilS, iV 0], oOwn 24 1 k vc cl, oOwn 3 1 s6.inn.length vi0 (natL s6.inn), oBox rb [nilS, nilS, nilS, iV 0], oRecs gl n 5 (fun i => apL (s6.pr i) (wv0 i)), oOwn 200 4 P6.length (.slice (some ⟨pg, 0, none⟩) P.length cp) (P6.flatMap ltL)]) hH9.left hxn
    have own : OwnK w9 0 3 1 (s6.pr x).waits.length (wv0 x) (natL (s6.pr x).waits) := own
    rw [hw6] at own
    obtain ⟨Aw, cw, ew, _⟩ := id own
    have x4s := x4
    rw [ew] at x4s
    have hne1 : ¬ (wv0 x).ownBlock = some gl := fun hf => hH9.ne 4 (6 + x) (by omega) rfl hwx gl rfl hf
    have hne2 : ¬ (wv0 x).ownBlock = some sb := fun hf => hH9.ne (6 + x) (6 + n) (by omega) hwx h66 sb hf rfl
    have agS : Agree (fun l => (wv0 x).ownBlock = some l) w9 (w9.drewN 1) := Agree.of_below (below_drewN (Below.refl _ w9) 1)
    have hHd := hH9.drewN 1
    have ownd := own.below (below_drewN (Below.refl _ w9) 1)
    refine WP_held 11 (fun l => (wv0 x).ownBlock = some l) (.take 0 (.take 1 (.take 2 (.take 3 (.take 4 (.take 5 (.take 6 (.one 7 (.one 8 (.one 9 (.take 10 (.one 11 .done)))))))))))) Fa.mix (by kernel_rfl) rfl ?_
    simp -dsimp (maxSteps := 2000000) only [VC.heldF_done, VC.heldF_last, VC.planF_done, VC.planF_take, VC.planF_one, VC.planF_two, VC.planK_eq, VC.heldF_take, VC.heldF_one, VC.heldF_two, VC.heldF_twoL, VC.heldK_eq, VC.okRd, Fa.F31, rdSA_of x4s, rdSN_of x4s, rdSC_of x4s, x4s, rdI_of z2, z2, VC.Now, VC.vc, VC.lib, VC.mapN_drewN, VC.mapB_drewN, VC.regQ, VC.loopK, VC.reg, VC.opP, VC.opS, VC.opZ, VC.nomulB, VC.pv, VC.thenF, VC.blkF, VC.retF, VC.resV, VC.oneV, VC.evo, VC.bin, VC.binI, VC.cmpI, VC.arithI, VC.ldv, VC.slv, VC.pickP, VC.holds, VC.chainOf, VC.look, VC.junk, VC.put, VC.eff, VC.callee, VC.pureB, VC.rdK, VC.rdKs, VC.okKs, VC.eqKs, VC.fillL, VC.putL, VC.stW, VC.stOK, VC.mixF, VC.setAll, Nat.reduceAdd, Nat.reduceSub, Nat.reduceMul, if_true, if_false, ↓reduceIte, forall_const, implies_true, reduceCtorEq, ne_eq, Nat.reduceBNe, Nat.reduceBEq, IntKind.signed, Nat.reduceEqDiff, Nat.reduceLeDiff, Nat.reduceLT, eq_self, Int.reduceEq, Int.reduceLT, Int.reduceLE, Int.reduceAdd, Int.reduceSub, VC.regC_nil, VC.regC_cons, VC.regCK_eq, VC.callQ, VC.tailQ, VC.goCall, VC.chStep]
    refine ⟨⟨hgl9, hne1⟩, ⟨hsl9, hne2⟩, agS.trans (Agree.of_below ((Below.refl _ _).alloc (Nat.le_refl _) _)), ?_⟩
    refine OPW_appK (v := wv0 x) rfl Fa.apI23 (by rw [ew]; rfl) rfl rfl (by simp [Value.oneCell']) ownd (Nat.zero_le _) (by omega) (by decide) fun v11 w11 ho11 hg11 hst11 => ?_
    have hnl : natL (s.pr x).waits ++ [.int .i64 (y : Int)] = natL ((s.pr x).waits ++ [y]) := by simp
    rw [hnl] at ho11
    have ho12 : OwnK w11 0 3 1 ((s.pr x).waits ++ [y]).length v11 (natL ((s.pr x).waits ++ [y])) := by rw [List.length_append]; exact ho11
    obtain ⟨A11, c11, rfl, _⟩ := id ho12
    obtain ⟨⟨r1, r2⟩, st12⟩ := DAll.waits hHd.left hxn ((s.pr x).waits ++ [y]) ho12 hg11 hst11
    have st12 := st12.part hHd
    simp -dsimp (maxSteps := 2000000) only [VC.heldF_done, VC.heldF_last, VC.planF_done, VC.planF_take, VC.planF_one, VC.planF_two, VC.planK_eq, VC.heldF_take, VC.heldF_one, VC.heldF_two, VC.heldF_twoL, VC.heldK_eq, VC.okRd, Fa.F31, VC.Now, VC.vc, VC.lib, VC.mapN_drewN, VC.mapB_drewN, VC.regQ, VC.loopK, VC.reg, VC.opP, VC.opS, VC.opZ, VC.nomulB, VC.pv, VC.thenF, VC.blkF, VC.retF, VC.resV, VC.oneV, VC.evo, VC.bin, VC.binI, VC.cmpI, VC.arithI, VC.ldv, VC.slv, VC.pickP, VC.holds, VC.chainOf, VC.look, VC.junk, VC.put, VC.eff, VC.callee, VC.pureB, VC.rdK, VC.rdKs, VC.okKs, VC.eqKs, VC.fillL, VC.putL, VC.stW, VC.stOK, VC.mixF, VC.setAll, Nat.reduceAdd, Nat.reduceSub, Nat.reduceMul, if_true, if_false, ↓reduceIte, forall_const, implies_true, reduceCtorEq, ne_eq, Nat.reduceBNe, Nat.reduceBEq, IntKind.signed, Nat.reduceEqDiff, Nat.reduceLeDiff, Nat.reduceLT, eq_self, Int.reduceEq, Int.reduceLT, Int.reduceLE, Int.reduceAdd, Int.reduceSub, VC.regC_nil, VC.regC_cons, VC.regCK_eq, VC.callQ, VC.tailQ, VC.goCall, VC.chStep]
    have ag11 := agS.trans (Agree.grown hg11 fun k hk => hk)
    first
      | refine ⟨ag11, ag11, ⟨r1, r2⟩, ?_⟩
      | refine ⟨ag11, ⟨r1, r2⟩, ?_⟩
      | refine ⟨ag11, ag11, ag11, ⟨r1, r2⟩, ?_⟩
    have hpr : upd s6.pr x { s6.pr x with waits := (s.pr x).waits ++ [y] } = upd s.pr x { s.pr x with n := max (s.pr x).n z, waits := (s.pr x).waits ++ [y] } := by
      rw [hs6]
      show upd (upd s.pr x _) x { upd s.pr x _ x with waits := _ } = _
      rw [upd_same, upd_upd]
    have hds : mxstep n c s = (0, menter n x { s2 with pr := upd s.pr x { s.pr x with n := max (s.pr x).n z, waits := (s.pr x).waits ++ [y] } }) := by
      have hnd2 : NoDoor n { s2 with pr := upd s.pr x { s.pr x with n := max (s.pr x).n z, waits := (s.pr x).waits ++ [y] } } := noDoor_upd (i := x) (p := { s.pr x with n := max (s.pr x).n z, waits := (s.pr x).waits ++ [y] }) hnd rfl (hnd x)
      rw [menter_same hnd2, hstep]; unfold mtake; rw [hway, hs2]; simp only [if_neg hx]; rw [if_pos (Or.inr ⟨g2, g3⟩)]
    have hHe := st12.hp
    rw [hpr] at hHe
    exact hcut2 _ _ (SAME.walk hJa (by kernel_rfl)) ⟨{ s2 with pr := upd s.pr x { s.pr x with n := max (s.pr x).n z, waits := (s.pr x).waits ++ [y] } }, P6, { (DV.mk vi0 (.slice (some ⟨pg, 0, none⟩) P.length cp) wv0) with wv := upd wv0 x (.slice A11 ((s.pr x).waits ++ [y]).length c11) }, 0, by rfl, hds, by rw [hs2], by omega, hX1, (below_drewN hB9w 1).trans (st12.below hHd), by rw [hs6] at hHe; rw [hs2]; exact hHe⟩
  | false =>
    rw [g3] at hmk
    refine CALLQ_of (v := .bool false) (fun _ wr _ => by rw [hmk]; exact less_any ((s.pr x).key, (x : Int)) (z, (y : Int)) wr) ?_
    simp -dsimp (maxSteps := 2000000) only [Fa.F31, e2, e3, undef, tu, uf, ul, ur, VC.Now, VC.vc_skip, VC.vc_ret, VC.vc_exit, VC.vc_block, VC.vc_cond, VC.vc_region, VC.lib, VC.mapN_drewN, VC.mapB_drewN, VC.regQ, VC.loopK, VC.reg, VC.opP, VC.opS, VC.opZ, VC.nomulB, VC.pv, VC.thenF, VC.blkF, VC.retF, VC.resV, VC.oneV, VC.evo, VC.bin, VC.binI, VC.cmpI, VC.arithI, VC.ldv, VC.slv, VC.pickP, VC.holds, VC.chainOf, VC.look, VC.junk, VC.put, VC.eff, VC.callee, VC.pureB, VC.rdK, VC.rdKs, VC.okKs, VC.eqKs, VC.fillL, VC.putL, VC.stW, VC.stOK, VC.mixF, VC.setAll, Nat.reduceAdd, Nat.reduceSub, Nat.reduceMul, if_true, if_false, ↓reduceIte, forall_const, implies_true, reduceCtorEq, ne_eq, Nat.reduceBNe, Nat.reduceBEq, IntKind.signed, Nat.reduceEqDiff, Nat.reduceLeDiff, Nat.reduceLT, eq_self, Int.reduceEq, Int.reduceLT, Int.reduceLE, Int.reduceAdd, Int.reduceSub, VC.regC_nil, VC.regC_cons, VC.regCK_eq, VC.callQ, VC.tailQ, VC.goCall, VC.chStep]
    intro u9 w9 hB9
    have hB9' := hB9
    have hH9 := hH6.below hB9'
    have hB9w := hB6.trans (hB9'.mono hH6.base)
    have R9 : Recs w9 gl n 5 (fun i => apL (s6.pr i) (wv0 i)) := hH9.get 4 rfl
    have x4 : w9.cell? ⟨gl, x * 5 + 4, none⟩ = some (wv0 x) := R9.at (i := x) (j := 4) hxn (by omega) rfl
    have hgl9 := R9.1
    have fs9 : Box w9 sb (moveL c) := hH9.get (6 + n) h66
    have z1 := fs9.at (i := 1) rfl
    have z2 := fs9.at (i := 2) rfl
    rw [hx0] at z1
    rw [hy0] at z2
    have hsl9 := fs9.1
    simp -dsimp (maxSteps := 2000000) only [Fa.F31, e2, e3, rdI_of z1, z1, rdI_of z2, z2, hsl9, undef, tu, uf, ul, ur, VC.Now, VC.vc_skip, VC.vc_ret, VC.vc_exit, VC.vc_block, VC.vc_cond, VC.vc_region, VC.lib, VC.mapN_drewN, VC.mapB_drewN, VC.regQ, VC.loopK, VC.reg, VC.opP, VC.opS, VC.opZ, VC.nomulB, VC.pv, VC.thenF, VC.blkF, VC.retF, VC.resV, VC.oneV, VC.evo, VC.bin, VC.binI, VC.cmpI, VC.arithI, VC.ldv, VC.slv, VC.pickP, VC.holds, VC.chainOf, VC.look, VC.junk, VC.put, VC.eff, VC.callee, VC.pureB, VC.rdK, VC.rdKs, VC.okKs, VC.eqKs, VC.fillL, VC.putL, VC.stW, VC.stOK, VC.mixF, VC.setAll, Nat.reduceAdd, Nat.reduceSub, Nat.reduceMul, if_true, if_false, ↓reduceIte, forall_const, implies_true, reduceCtorEq, ne_eq, Nat.reduceBNe, Nat.reduceBEq, IntKind.signed, Nat.reduceEqDiff, Nat.reduceLeDiff, Nat.reduceLT, eq_self, Int.reduceEq, Int.reduceLT, Int.reduceLE, Int.reduceAdd, Int.reduceSub, VC.regC_nil, VC.regC_cons, VC.regCK_eq, VC.callQ, VC.tailQ, VC.goCall, VC.chStep]
    refine OPW_appK (v := .slice (some ⟨pg, 0, none⟩) P.length cp) rfl Fa.apI195 rfl rfl rfl (by simp [Value.oneCell']) (hH9.get 5 rfl) (Nat.zero_le _) (by omega) (by decide) fun v11 w11 ho11 hg11 hst11 => ?_
    have st12 := (DAll.letter (x := Letter.mk x y 0 false) hH9.left ho11 hg11 hst11).part hH9
    have hnd2 : NoDoor n (msend x y 0 { s2 with pr := upd s.pr x { s.pr x with n := max (s.pr x).n z } }) := noDoor_upd (i := x) (p := { s.pr x with n := max (s.pr x).n z }) hnd rfl (hnd x)
    have hds : mxstep n c s = (0, menter n x (msend x y 0 { s2 with pr := upd s.pr x { s.pr x with n := max (s.pr x).n z } })) := by
      rw [menter_same hnd2, hstep]; unfold mtake; rw [hway, hs2]; simp only [if_neg hx]; rw [if_neg (fun hh => hh.elim g1 fun h2 => by rw [g3] at h2; cases h2.2)]
    rw [VC.Now, VC.seqK_eq]
    simp -dsimp (maxSteps := 2000000) only [Fa.F31, VC.Now, VC.vc, VC.lib, VC.mapN_drewN, VC.mapB_drewN, VC.regQ, VC.loopK, VC.reg, VC.opP, VC.opS, VC.opZ, VC.nomulB, VC.pv, VC.thenF, VC.blkF, VC.retF, VC.resV, VC.oneV, VC.evo, VC.bin, VC.binI, VC.cmpI, VC.arithI, VC.ldv, VC.slv, VC.pickP, VC.holds, VC.chainOf, VC.look, VC.junk, VC.put, VC.eff, VC.callee, VC.pureB, VC.rdK, VC.rdKs, VC.okKs, VC.eqKs, VC.fillL, VC.putL, VC.stW, VC.stOK, VC.mixF, VC.setAll, Nat.reduceAdd, Nat.reduceSub, Nat.reduceMul, if_true, if_false, ↓reduceIte, forall_const, implies_true, reduceCtorEq, ne_eq, Nat.reduceBNe, Nat.reduceBEq, IntKind.signed, Nat.reduceEqDiff, Nat.reduceLeDiff, Nat.reduceLT, eq_self, Int.reduceEq, Int.reduceLT, Int.reduceLE, Int.reduceAdd, Int.reduceSub, VC.regC_nil, VC.regC_cons, VC.regCK_eq, VC.callQ, VC.tailQ, VC.goCall, VC.chStep]
    exact hcut2 _ _ (SAME.walk hJa (by kernel_rfl)) ⟨msend x y 0 { s2 with pr := upd s.pr x { s.pr x with n := max (s.pr x).n z } }, P6 ++ [Letter.mk x y 0 false], { (DV.mk vi0 (.slice (some ⟨pg, 0, none⟩) P.length cp) wv0) with pv := v11 }, 0, by rfl, hds, by rw [hs2]; rfl, by simp; omega, XR.send (s := { s2 with pr := upd s.pr x { s.pr x with n := max (s.pr x).n z } }) hX1 hxn hyn 0, hB9w.trans (st12.below hH9), by have hHe := st12.hp; rw [hs6] at hHe; rw [hs2]; exact hHe⟩
end Go.Proofs.Ytelfmhiaafkimaa
