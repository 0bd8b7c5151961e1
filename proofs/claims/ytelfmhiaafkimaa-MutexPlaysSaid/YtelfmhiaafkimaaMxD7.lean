/- One in at a time, the document's: what is told at the end. -/
import Derived.Test.YtelfmhiaafkimaaMxD3
namespace Go.Proofs.Ytelfmhiaafkimaa
open Go Go.RowKit Go.VC
set_option linter.unusedSimpArgs false
set_option linter.unusedVariables false
noncomputable abbrev DEnd (d : DX) (k : Nat) (codes : List Value) (vc : Value) (s : MxS) (P : List Letter) (v : DV) (vI : Value) (j : Nat) (a : Int) : List Ob :=
  [oOwn 3 1 (insideL s j).length vI (natL (insideL s j))] ++ ([oBox d.ob [vc, v.vi, vI, iV a], oOwn 24 1 k vc codes, oOwn 3 1 s.inn.length v.vi (natL s.inn), oBox d.rb [nilS, nilS, nilS, iV 0], oRecs d.gl d.n 5 (fun i => apL (s.pr i) (v.wv i)), oOwn 200 4 P.length v.pv (P.flatMap ltL)] ++ dWaits d.n s.pr v.wv)
theorem sliceV {w : World} {B : Nat} {e : TypeId} {n : Nat} {v : Value} {xs : List Value} (h : OwnK w B e 1 n v xs) : ∃ A c, v = .slice A xs.length c ∧ Rd w A xs := by
  obtain ⟨A, c, rfl, ho⟩ := id h
  have := h.length
  exact ⟨A, c, by rw [this, Nat.mul_one], h.rd.2⟩
theorem waitN_away {n : Nat} {s : MxS} {P : List Letter} (h : XR n s.way P) : (waitN P : Int) = maway n s := by
  rw [waitN_sum h.ok]
  unfold maway
  exact sum2_congr fun i j hi hj => by rw [h.way i j hi hj]; rfl
set_option maxRecDepth 8000 in
set_option maxHeartbeats 8000000 in
theorem mxD_end : mutexBut.1.2.2.2 := by
  unfold mutexBut
  intro A n len cap g w h1 hn hlen rb hrb ob hob gl m u2 wx k vc v P hkm hBx hPl hXR hH hk
  obtain rfl : k = len := by omega
  have e7 : ((k : Int) < k) = False := eq_false (by omega)
  unfold MxQ
  have hcl : ((List.range k).map (mcode n g)).length = k := by simp
  have hce : mcodes n g k = ((List.range k).map (mcode n g)).map (Value.int .i64) := by unfold mcodes; rw [List.map_map]; rfl
  rw [hce] at hH
  have hqb := mst_mb hn g k (by omega)
  have hwa := waitN_away hXR
  generalize (List.range k).map (mcode n g) = codes at *
  generalize mst n g k = s at *
  obtain ⟨vi0, pv0, wv0⟩ := v
  obtain ⟨Ap, cp, ep, _⟩ := id (hH.get 5 rfl : OwnK wx 0 200 4 P.length pv0 _)
  subst ep
  rw [mixF_walk]
  rotate_left
  · kernel_rfl
  simp -dsimp (maxSteps := 2000000) only [Fa.F31, e7, walkJ, VC.Now, VC.vc, VC.lib, VC.mapN_drewN, VC.mapB_drewN, VC.regQ, VC.loopK, VC.reg, VC.opP, VC.opS, VC.opZ, VC.nomulB, VC.pv, VC.thenF, VC.blkF, VC.retF, VC.resV, VC.oneV, VC.evo, VC.bin, VC.binI, VC.cmpI, VC.arithI, VC.ldv, VC.slv, VC.pickP, VC.holds, VC.chainOf, VC.look, VC.junk, VC.put, VC.eff, VC.callee, VC.pureB, VC.rdK, VC.rdKs, VC.okKs, VC.eqKs, VC.fillL, VC.putL, VC.mixF, VC.setAll, Nat.reduceAdd, Nat.reduceSub, Nat.reduceMul, if_true, if_false, ↓reduceIte, forall_const, implies_true, reduceCtorEq, ne_eq, Nat.reduceBNe, Nat.reduceBEq, IntKind.signed, Nat.reduceEqDiff, Nat.reduceLeDiff, Nat.reduceLT, eq_self, Int.reduceEq, Int.reduceLT, Int.reduceLE, Int.reduceAdd, Int.reduceSub, VC.regC_nil, VC.regC_cons, VC.regCK_eq, VC.callQ, VC.tailQ, VC.goCall, VC.chStep]
  have hHl := (hH.st_add (o := oOwn 3 1 0 nilS []) (Below.refl _ _) (OwnK.nil _ _ _ _) (fun g hg => by cases hg)).hp
  refine loop_slots Fa.mix [18] [312, 313, 314, 315, 316, 317, 318, 319, 320, 321, 322, 323, 324, 325, 326, 327, 328] (fun m vs wx => ∃ (j : Nat) (vI : Value), j + m = n ∧ vs = [.int .i64 j] ∧ Below rb w wx ∧
      Hp rb (DEnd ⟨n, gl, ob, rb⟩ k (codes.map (Value.int .i64)) vc s P ⟨vi0, .slice Ap P.length cp, wv0⟩ vI j 0) wx) n (by kernel_rfl) rfl
    ⟨0, nilS, by omega, rfl, hBx, hHl⟩ ?_
  clear hHl hH hBx
  rintro m2 vs u3 wx2 ⟨j, vI, hjm, rfl, hBx, hH⟩
  rw [mixF_walk]
  rotate_left
  · kernel_rfl
  by_cases hj : j < n
  · have e8 : ((j : Int) < n) = True := eq_true (by omega)
    have R : Recs wx2 gl n 5 (fun i => apL (s.pr i) (wv0 i)) := hH.get 5 rfl
    have t1 := R.at (i := j) (j := 1) hj (by omega) rfl
    have hgl := R.1
    by_cases q : (s.pr j).how = 2
    · have e9 := eq_true q
      have hins : insideL s (j + 1) = insideL s j ++ [j] := by rw [insideL_succ, if_pos q]
      have hil := insideL_len s j
      obtain ⟨Ai, ci, ei, _⟩ := id (hH.get 0 rfl : OwnK wx2 0 3 1 (insideL s j).length vI _)
      have bo : Box wx2 ob _ := hH.get 1 rfl
      have y2 := bo.at (i := 2) rfl
      have hol := bo.1
      rw [ei] at y2
      simp -dsimp (maxSteps := 2000000) only [Fa.F31, e8, e9, rdI_of t1, t1, hgl, rdSA_of y2, rdSN_of y2, rdSC_of y2, y2, hol, Int.toNat_natCast, Nat.zero_add, walkJ, VC.Now, VC.vc, VC.lib, VC.mapN_drewN, VC.mapB_drewN, VC.regQ, VC.loopK, VC.reg, VC.opP, VC.opS, VC.opZ, VC.nomulB, VC.pv, VC.thenF, VC.blkF, VC.retF, VC.resV, VC.oneV, VC.evo, VC.bin, VC.binI, VC.cmpI, VC.arithI, VC.ldv, VC.slv, VC.pickP, VC.holds, VC.chainOf, VC.look, VC.junk, VC.put, VC.eff, VC.callee, VC.pureB, VC.rdK, VC.rdKs, VC.okKs, VC.eqKs, VC.fillL, VC.putL, VC.stW, VC.stOK, VC.mixF, VC.setAll, Nat.reduceAdd, Nat.reduceSub, Nat.reduceMul, if_true, if_false, ↓reduceIte, forall_const, implies_true, reduceCtorEq, ne_eq, Nat.reduceBNe, Nat.reduceBEq, IntKind.signed, Nat.reduceEqDiff, Nat.reduceLeDiff, Nat.reduceLT, eq_self, Int.reduceEq, Int.reduceLT, Int.reduceLE, Int.reduceAdd, Int.reduceSub, VC.regC_nil, VC.regC_cons, VC.regCK_eq, VC.callQ, VC.tailQ, VC.goCall, VC.chStep]
      refine ⟨by omega, ?_⟩
      refine OPW_appK (v := vI) rfl Fa.apI23 (by rw [ei]; rfl) rfl rfl (by simp [Value.oneCell']) (hH.get 0 rfl) (Nat.zero_le _) (by omega) (by decide) fun v5 w5 ho5 hg5 hst5 => ?_
      have hnl : natL (insideL s j) ++ [.int .i64 (j : Int)] = natL (insideL s (j + 1)) := by rw [hins]; simp
      rw [hnl, show (insideL s j).length + 1 = (insideL s (j + 1)).length by rw [hins]; simp] at ho5
      obtain ⟨⟨r1, r2⟩, st6⟩ := hH.growField 1 0 rfl rfl (by decide) ho5 hg5 hst5 2 (by show 2 < 4; omega)
      obtain ⟨A5, c5, rfl, _⟩ := id ho5
      have hw6 : ob < w5.heap.size := by simpa using (st6.hp.get 1 rfl : Box _ ob _).1
      rw [VC.Now, VC.seqK_eq]
      simp -dsimp (maxSteps := 2000000) only [Fa.F31, hw6, VC.Now, VC.vc, VC.lib, VC.mapN_drewN, VC.mapB_drewN, VC.regQ, VC.loopK, VC.reg, VC.opP, VC.opS, VC.opZ, VC.nomulB, VC.pv, VC.thenF, VC.blkF, VC.retF, VC.resV, VC.oneV, VC.evo, VC.bin, VC.binI, VC.cmpI, VC.arithI, VC.ldv, VC.slv, VC.pickP, VC.holds, VC.chainOf, VC.look, VC.junk, VC.put, VC.eff, VC.callee, VC.pureB, VC.rdK, VC.rdKs, VC.okKs, VC.eqKs, VC.fillL, VC.putL, VC.stW, VC.stOK, VC.mixF, VC.setAll, Nat.reduceAdd, Nat.reduceSub, Nat.reduceMul, if_true, if_false, ↓reduceIte, forall_const, implies_true, reduceCtorEq, ne_eq, Nat.reduceBNe, Nat.reduceBEq, IntKind.signed, Nat.reduceEqDiff, Nat.reduceLeDiff, Nat.reduceLT, eq_self, Int.reduceEq, Int.reduceLT, Int.reduceLE, Int.reduceAdd, Int.reduceSub, VC.regC_nil, VC.regC_cons, VC.regCK_eq, VC.callQ, VC.tailQ, VC.goCall, VC.chStep]
      refine ⟨⟨r1, r2⟩, fits_i64_nat (by omega), SAME.intro (by kernel_rfl), m2 - 1, by omega, j + 1, _, by omega, rfl, hBx.trans (st6.below hH), st6.hp⟩
    · have e9 := eq_false q
      have hins : insideL s (j + 1) = insideL s j := by rw [insideL_succ, if_neg q]
      simp -dsimp (maxSteps := 2000000) only [Fa.F31, e8, e9, rdI_of t1, t1, hgl, Int.toNat_natCast, Nat.zero_add, walkJ, VC.Now, VC.vc, VC.lib, VC.mapN_drewN, VC.mapB_drewN, VC.regQ, VC.loopK, VC.reg, VC.opP, VC.opS, VC.opZ, VC.nomulB, VC.pv, VC.thenF, VC.blkF, VC.retF, VC.resV, VC.oneV, VC.evo, VC.bin, VC.binI, VC.cmpI, VC.arithI, VC.ldv, VC.slv, VC.pickP, VC.holds, VC.chainOf, VC.look, VC.junk, VC.put, VC.eff, VC.callee, VC.pureB, VC.rdK, VC.rdKs, VC.okKs, VC.eqKs, VC.fillL, VC.putL, VC.stW, VC.stOK, VC.mixF, VC.setAll, Nat.reduceAdd, Nat.reduceSub, Nat.reduceMul, if_true, if_false, ↓reduceIte, forall_const, implies_true, reduceCtorEq, ne_eq, Nat.reduceBNe, Nat.reduceBEq, IntKind.signed, Nat.reduceEqDiff, Nat.reduceLeDiff, Nat.reduceLT, eq_self, Int.reduceEq, Int.reduceLT, Int.reduceLE, Int.reduceAdd, Int.reduceSub, VC.regC_nil, VC.regC_cons, VC.regCK_eq, VC.callQ, VC.tailQ, VC.goCall, VC.chStep]
      refine ⟨by omega, fits_i64_nat (by omega), SAME.intro (by kernel_rfl), m2 - 1, by omega, j + 1, vI, by omega, rfl, hBx, ?_⟩
      rw [hins]; exact hH
  · obtain rfl : j = n := by omega
    have e8 : ((j : Int) < j) = False := eq_false (by omega)
    have hil := insideL_len s j
    simp -dsimp (maxSteps := 2000000) only [Fa.F31, e8, walkJ, VC.Now, VC.vc, VC.lib, VC.mapN_drewN, VC.mapB_drewN, VC.regQ, VC.loopK, VC.reg, VC.opP, VC.opS, VC.opZ, VC.nomulB, VC.pv, VC.thenF, VC.blkF, VC.retF, VC.resV, VC.oneV, VC.evo, VC.bin, VC.binI, VC.cmpI, VC.arithI, VC.ldv, VC.slv, VC.pickP, VC.holds, VC.chainOf, VC.look, VC.junk, VC.put, VC.eff, VC.callee, VC.pureB, VC.rdK, VC.rdKs, VC.okKs, VC.eqKs, VC.fillL, VC.putL, VC.mixF, VC.setAll, Nat.reduceAdd, Nat.reduceSub, Nat.reduceMul, if_true, if_false, ↓reduceIte, forall_const, implies_true, reduceCtorEq, ne_eq, Nat.reduceBNe, Nat.reduceBEq, IntKind.signed, Nat.reduceEqDiff, Nat.reduceLeDiff, Nat.reduceLT, eq_self, Int.reduceEq, Int.reduceLT, Int.reduceLE, Int.reduceAdd, Int.reduceSub, VC.regC_nil, VC.regC_cons, VC.regCK_eq, VC.callQ, VC.tailQ, VC.goCall, VC.chStep]
    refine loop_slots Fa.mix [331] [20, 332, 333, 334, 335, 336, 337, 338, 339, 340, 341, 342] (fun m vs wx => ∃ i : Nat, i + m = P.length ∧ vs = [.int .i64 i] ∧ Below rb w wx ∧
        Hp rb (DEnd ⟨j, gl, ob, rb⟩ k (codes.map (Value.int .i64)) vc s P ⟨vi0, .slice Ap P.length cp, wv0⟩ vI j (waitN (P.take i))) wx) P.length (by kernel_rfl) rfl
      ⟨0, by omega, rfl, hBx, hH⟩ ?_
    clear hH hBx
    rintro m3 vs u4 wx3 ⟨i, him, rfl, hBx, hH⟩
    rw [mixF_walk]
    rotate_left
    · kernel_rfl
    by_cases hi : i < P.length
    · have e9 : ((i : Int) < P.length) = True := eq_true (by omega)
      have hO : OwnK wx3 0 200 4 P.length (.slice Ap P.length cp) (P.flatMap ltL) := hH.get 6 rfl
      obtain ⟨pg, c', hv, _, hpg⟩ := hO.form (by omega)
      simp only [Value.slice.injEq] at hv
      obtain ⟨rfl, _, rfl⟩ := hv
      have l0 := (hO.cellL (K := 4) (fun _ => rfl) (i := i) (j := 0) hi (by omega)).1
      have l1 := (hO.cellL (K := 4) (fun _ => rfl) (i := i) (j := 1) hi (by omega)).1
      have l2 := (hO.cellL (K := 4) (fun _ => rfl) (i := i) (j := 2) hi (by omega)).1
      have l3 := (hO.cellL (K := 4) (fun _ => rfl) (i := i) (j := 3) hi (by omega)).1
      have l0 : wx3.cell? ⟨pg, i * 4, none⟩ = some (.int .i64 P[i].fr) := l0
      have l1 : wx3.cell? ⟨pg, i * 4 + 1, none⟩ = some (.int .i64 P[i].to) := l1
      have l2 : wx3.cell? ⟨pg, i * 4 + 2, none⟩ = some (.int .i64 P[i].what) := l2
      have l3 : wx3.cell? ⟨pg, i * 4 + 3, none⟩ = some (.bool P[i].come) := l3
      have htk := waitN_take hi
      have hwl : waitN (P.take i) ≤ P.length := Nat.le_trans (waitN_le _) (by simp; omega)
      (repeat rw [vc_seq]); refine vc_plain _ fun Q hQ => ?_; simp -dsimp (maxSteps := 2000000) only [Fa.F31, e9, walkJ, VC.Now, VC.vc_skip, VC.vc_ret, VC.vc_exit, VC.vc_block, VC.vc_cond, VC.vc_region, VC.lib, VC.mapN_drewN, VC.mapB_drewN, VC.regQ, VC.loopK, VC.reg, VC.opP, VC.opS, VC.opZ, VC.nomulB, VC.pv, VC.thenF, VC.blkF, VC.retF, VC.resV, VC.oneV, VC.evo, VC.bin, VC.binI, VC.cmpI, VC.arithI, VC.ldv, VC.slv, VC.pickP, VC.holds, VC.chainOf, VC.look, VC.junk, VC.put, VC.eff, VC.callee, VC.pureB, VC.rdK, VC.rdKs, VC.okKs, VC.eqKs, VC.fillL, VC.putL, VC.stW, VC.stOK, VC.mixF, VC.setAll, Nat.reduceAdd, Nat.reduceSub, Nat.reduceMul, if_true, if_false, ↓reduceIte, forall_const, implies_true, reduceCtorEq, ne_eq, Nat.reduceBNe, Nat.reduceBEq, IntKind.signed, Nat.reduceEqDiff, Nat.reduceLeDiff, Nat.reduceLT, eq_self, Int.reduceEq, Int.reduceLT, Int.reduceLE, Int.reduceAdd, Int.reduceSub, VC.regC_nil, VC.regC_cons, VC.regCK_eq, VC.callQ, VC.tailQ, VC.goCall, VC.chStep]
      subst hQ; simp -dsimp (maxSteps := 2000000) only [VC.Now, VC.vc_skip, VC.vc_ret, VC.vc_exit, VC.vc_block, VC.vc_cond, VC.vc_region, VC.lib, VC.mapN_drewN, VC.mapB_drewN, VC.regQ, VC.loopK, VC.reg, VC.opP, VC.opS, VC.opZ, VC.nomulB, VC.pv, VC.thenF, VC.blkF, VC.retF, VC.resV, VC.oneV, VC.evo, VC.bin, VC.binI, VC.cmpI, VC.arithI, VC.ldv, VC.slv, VC.pickP, VC.holds, VC.chainOf, VC.look, VC.junk, VC.put, VC.eff, VC.callee, VC.pureB, VC.rdK, VC.rdKs, VC.okKs, VC.eqKs, VC.fillL, VC.putL, VC.stW, VC.stOK, VC.mixF, VC.setAll, Nat.reduceAdd, Nat.reduceSub, Nat.reduceMul, if_true, if_false, ↓reduceIte, forall_const, implies_true, reduceCtorEq, ne_eq, Nat.reduceBNe, Nat.reduceBEq, IntKind.signed, Nat.reduceEqDiff, Nat.reduceLeDiff, Nat.reduceLT, eq_self, Int.reduceEq, Int.reduceLT, Int.reduceLE, Int.reduceAdd, Int.reduceSub, VC.regC_nil, VC.regC_cons, VC.regCK_eq, VC.callQ, VC.tailQ, VC.goCall, VC.chStep]; (repeat rw [vc_seq]); refine vc_plain _ fun Q hQ => ?_; simp -dsimp (maxSteps := 2000000) only [Fa.F31, e9, VC.Now, VC.vc_skip, VC.vc_ret, VC.vc_exit, VC.vc_block, VC.vc_cond, VC.vc_region, VC.lib, VC.mapN_drewN, VC.mapB_drewN, VC.regQ, VC.loopK, VC.reg, VC.opP, VC.opS, VC.opZ, VC.nomulB, VC.pv, VC.thenF, VC.blkF, VC.retF, VC.resV, VC.oneV, VC.evo, VC.bin, VC.binI, VC.cmpI, VC.arithI, VC.ldv, VC.slv, VC.pickP, VC.holds, VC.chainOf, VC.look, VC.junk, VC.put, VC.eff, VC.callee, VC.pureB, VC.rdK, VC.rdKs, VC.okKs, VC.eqKs, VC.fillL, VC.putL, VC.stW, VC.stOK, VC.mixF, VC.setAll, Nat.reduceAdd, Nat.reduceSub, Nat.reduceMul, if_true, if_false, ↓reduceIte, forall_const, implies_true, reduceCtorEq, ne_eq, Nat.reduceBNe, Nat.reduceBEq, IntKind.signed, Nat.reduceEqDiff, Nat.reduceLeDiff, Nat.reduceLT, eq_self, Int.reduceEq, Int.reduceLT, Int.reduceLE, Int.reduceAdd, Int.reduceSub, VC.regC_nil, VC.regC_cons, VC.regCK_eq, VC.callQ, VC.tailQ, VC.goCall, VC.chStep]
      subst hQ
      simp -dsimp (maxSteps := 2000000) only [Fa.F31, VC.Now, VC.vc_skip, VC.vc_ret, VC.vc_exit, VC.vc_block, VC.vc_cond, VC.vc_region, VC.lib, VC.mapN_drewN, VC.mapB_drewN, VC.regQ, VC.loopK, VC.reg, VC.opP, VC.opS, VC.opZ, VC.nomulB, VC.pv, VC.thenF, VC.blkF, VC.retF, VC.resV, VC.oneV, VC.evo, VC.bin, VC.binI, VC.cmpI, VC.arithI, VC.ldv, VC.slv, VC.pickP, VC.holds, VC.chainOf, VC.look, VC.junk, VC.put, VC.eff, VC.callee, VC.pureB, VC.rdK, VC.rdKs, VC.okKs, VC.eqKs, VC.fillL, VC.putL, VC.stW, VC.stOK, VC.mixF, VC.setAll, Nat.reduceAdd, Nat.reduceSub, Nat.reduceMul, if_true, if_false, ↓reduceIte, forall_const, implies_true, reduceCtorEq, ne_eq, Nat.reduceBNe, Nat.reduceBEq, IntKind.signed, Nat.reduceEqDiff, Nat.reduceLeDiff, Nat.reduceLT, eq_self, Int.reduceEq, Int.reduceLT, Int.reduceLE, Int.reduceAdd, Int.reduceSub, VC.regC_nil, VC.regC_cons, VC.regCK_eq, VC.callQ, VC.tailQ, VC.goCall, VC.chStep]
      (repeat rw [vc_seq]); refine vc_plain _ fun Q hQ => ?_; simp -dsimp (maxSteps := 2000000) only [Fa.F31, VC.Now, VC.vc_skip, VC.vc_ret, VC.vc_exit, VC.vc_block, VC.vc_cond, VC.vc_region, VC.lib, VC.mapN_drewN, VC.mapB_drewN, VC.regQ, VC.loopK, VC.reg, VC.opP, VC.opS, VC.opZ, VC.nomulB, VC.pv, VC.thenF, VC.blkF, VC.retF, VC.resV, VC.oneV, VC.evo, VC.bin, VC.binI, VC.cmpI, VC.arithI, VC.ldv, VC.slv, VC.pickP, VC.holds, VC.chainOf, VC.look, VC.junk, VC.put, VC.eff, VC.callee, VC.pureB, VC.rdK, VC.rdKs, VC.okKs, VC.eqKs, VC.fillL, VC.putL, VC.stW, VC.stOK, VC.mixF, VC.setAll, Nat.reduceAdd, Nat.reduceSub, Nat.reduceMul, if_true, if_false, ↓reduceIte, forall_const, implies_true, reduceCtorEq, ne_eq, Nat.reduceBNe, Nat.reduceBEq, IntKind.signed, Nat.reduceEqDiff, Nat.reduceLeDiff, Nat.reduceLT, eq_self, Int.reduceEq, Int.reduceLT, Int.reduceLE, Int.reduceAdd, Int.reduceSub, VC.regC_nil, VC.regC_cons, VC.regCK_eq, VC.callQ, VC.tailQ, VC.goCall, VC.chStep]
      (repeat rw [vc_seq]); refine vc_plain _ fun Q2 hQ2 => ?_; simp -dsimp (maxSteps := 2000000) only [Fa.F31, rdI_of l0, l0, rdI_of l1, l1, rdI_of l2, l2, rdB_of l3, l3, hpg, Int.toNat_natCast, Nat.zero_add, VC.Now, VC.vc_skip, VC.vc_ret, VC.vc_exit, VC.vc_block, VC.vc_cond, VC.vc_region, VC.lib, VC.mapN_drewN, VC.mapB_drewN, VC.regQ, VC.loopK, VC.reg, VC.opP, VC.opS, VC.opZ, VC.nomulB, VC.pv, VC.thenF, VC.blkF, VC.retF, VC.resV, VC.oneV, VC.evo, VC.bin, VC.binI, VC.cmpI, VC.arithI, VC.ldv, VC.slv, VC.pickP, VC.holds, VC.chainOf, VC.look, VC.junk, VC.put, VC.eff, VC.callee, VC.pureB, VC.rdK, VC.rdKs, VC.okKs, VC.eqKs, VC.fillL, VC.putL, VC.mixF, VC.setAll, Nat.reduceAdd, Nat.reduceSub, Nat.reduceMul, if_true, if_false, ↓reduceIte, forall_const, implies_true, reduceCtorEq, ne_eq, Nat.reduceBNe, Nat.reduceBEq, IntKind.signed, Nat.reduceEqDiff, Nat.reduceLeDiff, Nat.reduceLT, eq_self, Int.reduceEq, Int.reduceLT, Int.reduceLE, Int.reduceAdd, Int.reduceSub, VC.regC_nil, VC.regC_cons, VC.regCK_eq, VC.callQ, VC.tailQ, VC.goCall, VC.chStep]
      refine ⟨by omega, ?_⟩
      obtain ⟨f1, f2, f3⟩ := boxMade wx3 [.int .i64 0, .int .i64 0, .int .i64 0, .bool false] (ltL P[i]) 200 rfl (by intro v hv; simp at hv; rcases hv with rfl | rfl | rfl | rfl <;> rfl)
      refine ⟨f1, ?_⟩
      clear f1
      have hBy := hBx.trans (f3.mono hH.base)
      have hH2 := hH.below f3
      generalize hL : P[i] = L at *
      generalize stW (wx3.alloc (.cells #[.int .i64 0, .int .i64 0, .int .i64 0, .bool false] 200)) ⟨wx3.heap.size, 0, none⟩ 0 [.int .i64 L.fr, .int .i64 L.to, .int .i64 L.what, .bool L.come] = wy at f2 hBy hH2 ⊢
      clear f3 hBx hH
      generalize wx3.heap.size = sb at f2 ⊢
      have z3 := f2.at (i := 3) rfl
      have hsl := f2.1
      have bo : Box wy ob [vc, vi0, vI, iV (waitN (P.take i))] := hH2.get 1 rfl
      cases hcm : L.come with
      | true =>
        rw [hcm, if_pos rfl] at htk
        rw [hcm] at z3
        subst hQ2
        simp -dsimp (maxSteps := 2000000) only [Fa.F31, VC.Now, VC.vc_skip, VC.vc_ret, VC.vc_exit, VC.vc_block, VC.vc_cond, VC.vc_region, VC.lib, VC.mapN_drewN, VC.mapB_drewN, VC.regQ, VC.loopK, VC.reg, VC.opP, VC.opS, VC.opZ, VC.nomulB, VC.pv, VC.thenF, VC.blkF, VC.retF, VC.resV, VC.oneV, VC.evo, VC.bin, VC.binI, VC.cmpI, VC.arithI, VC.ldv, VC.slv, VC.pickP, VC.holds, VC.chainOf, VC.look, VC.junk, VC.put, VC.eff, VC.callee, VC.pureB, VC.rdK, VC.rdKs, VC.okKs, VC.eqKs, VC.fillL, VC.putL, VC.stW, VC.stOK, VC.mixF, VC.setAll, Nat.reduceAdd, Nat.reduceSub, Nat.reduceMul, if_true, if_false, ↓reduceIte, forall_const, implies_true, reduceCtorEq, ne_eq, Nat.reduceBNe, Nat.reduceBEq, IntKind.signed, Nat.reduceEqDiff, Nat.reduceLeDiff, Nat.reduceLT, eq_self, Int.reduceEq, Int.reduceLT, Int.reduceLE, Int.reduceAdd, Int.reduceSub, VC.regC_nil, VC.regC_cons, VC.regCK_eq, VC.callQ, VC.tailQ, VC.goCall, VC.chStep]
        (repeat rw [vc_seq]); refine vc_plain _ fun Q2 hQ2 => ?_; simp -dsimp (maxSteps := 2000000) only [Fa.F31, rdB_of z3, z3, hsl, VC.Now, VC.vc_skip, VC.vc_ret, VC.vc_exit, VC.vc_block, VC.vc_cond, VC.vc_region, VC.lib, VC.mapN_drewN, VC.mapB_drewN, VC.regQ, VC.loopK, VC.reg, VC.opP, VC.opS, VC.opZ, VC.nomulB, VC.pv, VC.thenF, VC.blkF, VC.retF, VC.resV, VC.oneV, VC.evo, VC.bin, VC.binI, VC.cmpI, VC.arithI, VC.ldv, VC.slv, VC.pickP, VC.holds, VC.chainOf, VC.look, VC.junk, VC.put, VC.eff, VC.callee, VC.pureB, VC.rdK, VC.rdKs, VC.okKs, VC.eqKs, VC.fillL, VC.putL, VC.stW, VC.stOK, VC.mixF, VC.setAll, Nat.reduceAdd, Nat.reduceSub, Nat.reduceMul, if_true, if_false, ↓reduceIte, forall_const, implies_true, reduceCtorEq, ne_eq, Nat.reduceBNe, Nat.reduceBEq, IntKind.signed, Nat.reduceEqDiff, Nat.reduceLeDiff, Nat.reduceLT, eq_self, Int.reduceEq, Int.reduceLT, Int.reduceLE, Int.reduceAdd, Int.reduceSub, VC.regC_nil, VC.regC_cons, VC.regCK_eq, VC.callQ, VC.tailQ, VC.goCall, VC.chStep]
        subst hQ2
        simp -dsimp (maxSteps := 2000000) only [Fa.F31, VC.Now, VC.vc_skip, VC.vc_ret, VC.vc_exit, VC.vc_block, VC.vc_cond, VC.vc_region, VC.lib, VC.mapN_drewN, VC.mapB_drewN, VC.regQ, VC.loopK, VC.reg, VC.opP, VC.opS, VC.opZ, VC.nomulB, VC.pv, VC.thenF, VC.blkF, VC.retF, VC.resV, VC.oneV, VC.evo, VC.bin, VC.binI, VC.cmpI, VC.arithI, VC.ldv, VC.slv, VC.pickP, VC.holds, VC.chainOf, VC.look, VC.junk, VC.put, VC.eff, VC.callee, VC.pureB, VC.rdK, VC.rdKs, VC.okKs, VC.eqKs, VC.fillL, VC.putL, VC.stW, VC.stOK, VC.mixF, VC.setAll, Nat.reduceAdd, Nat.reduceSub, Nat.reduceMul, if_true, if_false, ↓reduceIte, forall_const, implies_true, reduceCtorEq, ne_eq, Nat.reduceBNe, Nat.reduceBEq, IntKind.signed, Nat.reduceEqDiff, Nat.reduceLeDiff, Nat.reduceLT, eq_self, Int.reduceEq, Int.reduceLT, Int.reduceLE, Int.reduceAdd, Int.reduceSub, VC.regC_nil, VC.regC_cons, VC.regCK_eq, VC.callQ, VC.tailQ, VC.goCall, VC.chStep]
        subst hQ
        simp -dsimp (maxSteps := 2000000) only [Fa.F31, VC.Now, VC.vc, VC.lib, VC.mapN_drewN, VC.mapB_drewN, VC.regQ, VC.loopK, VC.reg, VC.opP, VC.opS, VC.opZ, VC.nomulB, VC.pv, VC.thenF, VC.blkF, VC.retF, VC.resV, VC.oneV, VC.evo, VC.bin, VC.binI, VC.cmpI, VC.arithI, VC.ldv, VC.slv, VC.pickP, VC.holds, VC.chainOf, VC.look, VC.junk, VC.put, VC.eff, VC.callee, VC.pureB, VC.rdK, VC.rdKs, VC.okKs, VC.eqKs, VC.fillL, VC.putL, VC.stW, VC.stOK, VC.mixF, VC.setAll, Nat.reduceAdd, Nat.reduceSub, Nat.reduceMul, if_true, if_false, ↓reduceIte, forall_const, implies_true, reduceCtorEq, ne_eq, Nat.reduceBNe, Nat.reduceBEq, IntKind.signed, Nat.reduceEqDiff, Nat.reduceLeDiff, Nat.reduceLT, eq_self, Int.reduceEq, Int.reduceLT, Int.reduceLE, Int.reduceAdd, Int.reduceSub, VC.regC_nil, VC.regC_cons, VC.regCK_eq, VC.callQ, VC.tailQ, VC.goCall, VC.chStep]
        refine ⟨fits_i64_nat (by omega), SAME.intro (by kernel_rfl), m3 - 1, by omega, i + 1, by omega, rfl, hBy, ?_⟩
        rw [htk]; exact hH2
      | false =>
        rw [hcm] at htk z3
        have htk : waitN (P.take (i + 1)) = waitN (P.take i) + 1 := htk
        have y3 := bo.at (i := 3) rfl
        have f3 := bo.soft (i := 3) (by show 3 < 4; omega)
        have k3 : (wy.cell? ⟨ob, 3, none⟩).isSome = true := by rw [y3]; rfl
        have hol := bo.1
        have st := hH2.setBox 1 rfl 3 (iV ((waitN (P.take i) : Int) + 1))
        subst hQ2
        simp -dsimp (maxSteps := 2000000) only [Fa.F31, VC.Now, VC.vc_skip, VC.vc_ret, VC.vc_exit, VC.vc_block, VC.vc_cond, VC.vc_region, VC.lib, VC.mapN_drewN, VC.mapB_drewN, VC.regQ, VC.loopK, VC.reg, VC.opP, VC.opS, VC.opZ, VC.nomulB, VC.pv, VC.thenF, VC.blkF, VC.retF, VC.resV, VC.oneV, VC.evo, VC.bin, VC.binI, VC.cmpI, VC.arithI, VC.ldv, VC.slv, VC.pickP, VC.holds, VC.chainOf, VC.look, VC.junk, VC.put, VC.eff, VC.callee, VC.pureB, VC.rdK, VC.rdKs, VC.okKs, VC.eqKs, VC.fillL, VC.putL, VC.stW, VC.stOK, VC.mixF, VC.setAll, Nat.reduceAdd, Nat.reduceSub, Nat.reduceMul, if_true, if_false, ↓reduceIte, forall_const, implies_true, reduceCtorEq, ne_eq, Nat.reduceBNe, Nat.reduceBEq, IntKind.signed, Nat.reduceEqDiff, Nat.reduceLeDiff, Nat.reduceLT, eq_self, Int.reduceEq, Int.reduceLT, Int.reduceLE, Int.reduceAdd, Int.reduceSub, VC.regC_nil, VC.regC_cons, VC.regCK_eq, VC.callQ, VC.tailQ, VC.goCall, VC.chStep]
        (repeat rw [vc_seq]); refine vc_plain _ fun Q2 hQ2 => ?_; simp -dsimp (maxSteps := 2000000) only [Fa.F31, rdB_of z3, z3, hsl, VC.Now, VC.vc_skip, VC.vc_ret, VC.vc_exit, VC.vc_block, VC.vc_cond, VC.vc_region, VC.lib, VC.mapN_drewN, VC.mapB_drewN, VC.regQ, VC.loopK, VC.reg, VC.opP, VC.opS, VC.opZ, VC.nomulB, VC.pv, VC.thenF, VC.blkF, VC.retF, VC.resV, VC.oneV, VC.evo, VC.bin, VC.binI, VC.cmpI, VC.arithI, VC.ldv, VC.slv, VC.pickP, VC.holds, VC.chainOf, VC.look, VC.junk, VC.put, VC.eff, VC.callee, VC.pureB, VC.rdK, VC.rdKs, VC.okKs, VC.eqKs, VC.fillL, VC.putL, VC.stW, VC.stOK, VC.mixF, VC.setAll, Nat.reduceAdd, Nat.reduceSub, Nat.reduceMul, if_true, if_false, ↓reduceIte, forall_const, implies_true, reduceCtorEq, ne_eq, Nat.reduceBNe, Nat.reduceBEq, IntKind.signed, Nat.reduceEqDiff, Nat.reduceLeDiff, Nat.reduceLT, eq_self, Int.reduceEq, Int.reduceLT, Int.reduceLE, Int.reduceAdd, Int.reduceSub, VC.regC_nil, VC.regC_cons, VC.regCK_eq, VC.callQ, VC.tailQ, VC.goCall, VC.chStep]
        subst hQ2
        simp -dsimp (maxSteps := 2000000) only [Fa.F31, rdI_of y3, y3, hol, f3, k3, VC.Now, VC.vc_skip, VC.vc_ret, VC.vc_exit, VC.vc_block, VC.vc_cond, VC.vc_region, VC.lib, VC.mapN_drewN, VC.mapB_drewN, VC.regQ, VC.loopK, VC.reg, VC.opP, VC.opS, VC.opZ, VC.nomulB, VC.pv, VC.thenF, VC.blkF, VC.retF, VC.resV, VC.oneV, VC.evo, VC.bin, VC.binI, VC.cmpI, VC.arithI, VC.ldv, VC.slv, VC.pickP, VC.holds, VC.chainOf, VC.look, VC.junk, VC.put, VC.eff, VC.callee, VC.pureB, VC.rdK, VC.rdKs, VC.okKs, VC.eqKs, VC.fillL, VC.putL, VC.stW, VC.stOK, VC.mixF, VC.setAll, Nat.reduceAdd, Nat.reduceSub, Nat.reduceMul, if_true, if_false, ↓reduceIte, forall_const, implies_true, reduceCtorEq, ne_eq, Nat.reduceBNe, Nat.reduceBEq, IntKind.signed, Nat.reduceEqDiff, Nat.reduceLeDiff, Nat.reduceLT, eq_self, Int.reduceEq, Int.reduceLT, Int.reduceLE, Int.reduceAdd, Int.reduceSub, VC.regC_nil, VC.regC_cons, VC.regCK_eq, VC.callQ, VC.tailQ, VC.goCall, VC.chStep]
        refine ⟨fits_i64 (by omega) (by omega), ?_⟩
        subst hQ
        simp -dsimp (maxSteps := 2000000) only [Fa.F31, VC.Now, VC.vc, VC.lib, VC.mapN_drewN, VC.mapB_drewN, VC.regQ, VC.loopK, VC.reg, VC.opP, VC.opS, VC.opZ, VC.nomulB, VC.pv, VC.thenF, VC.blkF, VC.retF, VC.resV, VC.oneV, VC.evo, VC.bin, VC.binI, VC.cmpI, VC.arithI, VC.ldv, VC.slv, VC.pickP, VC.holds, VC.chainOf, VC.look, VC.junk, VC.put, VC.eff, VC.callee, VC.pureB, VC.rdK, VC.rdKs, VC.okKs, VC.eqKs, VC.fillL, VC.putL, VC.stW, VC.stOK, VC.mixF, VC.setAll, Nat.reduceAdd, Nat.reduceSub, Nat.reduceMul, if_true, if_false, ↓reduceIte, forall_const, implies_true, reduceCtorEq, ne_eq, Nat.reduceBNe, Nat.reduceBEq, IntKind.signed, Nat.reduceEqDiff, Nat.reduceLeDiff, Nat.reduceLT, eq_self, Int.reduceEq, Int.reduceLT, Int.reduceLE, Int.reduceAdd, Int.reduceSub, VC.regC_nil, VC.regC_cons, VC.regCK_eq, VC.callQ, VC.tailQ, VC.goCall, VC.chStep]
        refine ⟨fits_i64_nat (by omega), SAME.intro (by kernel_rfl), m3 - 1, by omega, i + 1, by omega, rfl, hBy.trans (st.below hH2), ?_⟩
        rw [htk, Int.natCast_add]; exact st.hp
    · obtain rfl : i = P.length := by omega
      have e9 : (((P.length : Nat) : Int) < (P.length : Nat)) = False := eq_false (by omega)
      rw [List.take_length, hwa] at hH
      obtain ⟨Ac, cc, ec, hRc⟩ := sliceV (hH.get 2 rfl : OwnK _ 0 24 1 k vc _)
      obtain ⟨Ai, ci, ei, hRi⟩ := sliceV (show OwnK wx3 0 3 1 s.inn.length vi0 (natL s.inn) from hH.get 3 rfl)
      obtain ⟨Ab, cb, eb, hRb⟩ := sliceV (hH.get 0 rfl : OwnK _ 0 3 1 (insideL s j).length vI _)
      have lc : (codes.map (Value.int .i64)).length = k := by rw [List.length_map]; exact hcl
      rw [lc] at ec
      rw [List.length_map] at ei eb
      have bo1 : Box wx3 ob [.slice Ac k cc, .slice Ai s.inn.length ci, .slice Ab (insideL s j).length cb, .int .i64 (maway j s)] := by rw [← ec, ← ei, ← eb]; exact hH.get 1 rfl
      have hol := bo1.1
      have b0 := bo1.at (i := 0) rfl
      have b1 := bo1.at (i := 1) rfl
      have b2 := bo1.at (i := 2) rfl
      have b3 := bo1.at (i := 3) rfl
      obtain ⟨ok, st2⟩ := hH.allBox 4 rfl (vs := [.slice Ac k cc, .slice Ai s.inn.length ci, .slice Ab (insideL s j).length cb, .int .i64 (maway j s)]) rfl (by intro v hv; simp at hv; rcases hv with rfl | rfl | rfl | rfl <;> rfl)
      have rb5 : Box _ rb [.slice Ac k cc, .slice Ai s.inn.length ci, .slice Ab (insideL s j).length cb, .int .i64 (maway j s)] := st2.hp.get 4 rfl
      have t0 := rb5.at (i := 0) rfl
      have t1 := rb5.at (i := 1) rfl
      have t2 := rb5.at (i := 2) rfl
      have t3 := rb5.at (i := 3) rfl
      simp -dsimp (maxSteps := 2000000) only [Fa.F31, e9, walkJ, hol, rdSA_of b0, rdSN_of b0, rdSC_of b0, b0, rdSA_of b1, rdSN_of b1, rdSC_of b1, b1, rdSA_of b2, rdSN_of b2, rdSC_of b2, b2, rdI_of b3, b3, rdSA_of t0, rdSN_of t0, rdSC_of t0, t0, rdSA_of t1, rdSN_of t1, rdSC_of t1, t1, rdSA_of t2, rdSN_of t2, rdSC_of t2, t2, rdI_of t3, t3, VC.Now, VC.vc, VC.lib, VC.mapN_drewN, VC.mapB_drewN, VC.regQ, VC.loopK, VC.reg, VC.opP, VC.opS, VC.opZ, VC.nomulB, VC.pv, VC.thenF, VC.blkF, VC.retF, VC.resV, VC.oneV, VC.evo, VC.bin, VC.binI, VC.cmpI, VC.arithI, VC.ldv, VC.slv, VC.pickP, VC.holds, VC.chainOf, VC.look, VC.junk, VC.put, VC.eff, VC.callee, VC.pureB, VC.rdK, VC.rdKs, VC.okKs, VC.eqKs, VC.fillL, VC.putL, VC.mixF, VC.setAll, Nat.reduceAdd, Nat.reduceSub, Nat.reduceMul, if_true, if_false, ↓reduceIte, forall_const, implies_true, reduceCtorEq, ne_eq, Nat.reduceBNe, Nat.reduceBEq, IntKind.signed, Nat.reduceEqDiff, Nat.reduceLeDiff, Nat.reduceLT, eq_self, Int.reduceEq, Int.reduceLT, Int.reduceLE, Int.reduceAdd, Int.reduceSub, VC.regC_nil, VC.regC_cons, VC.regCK_eq, VC.callQ, VC.tailQ, VC.goCall, VC.chStep]
      have q0 := (st2.hp.get 2 rfl : OwnK _ 0 24 1 k vc _)
      have q1 := (st2.hp.get 3 rfl : OwnK _ 0 3 1 s.inn.length vi0 _)
      have q2 := (st2.hp.get 0 rfl : OwnK _ 0 3 1 (insideL s j).length vI _)
      have n0 : ∀ x, vc.ownBlock = some x → rb ≤ x := fun x hx => (hH.lt 2 rfl hx).1
      have n1 : ∀ x, vi0.ownBlock = some x → rb ≤ x := fun x hx => (hH.lt 3 rfl hx).1
      have n2 : ∀ x, vI.ownBlock = some x → rb ≤ x := fun x hx => (hH.lt 0 rfl hx).1
      rw [ec] at q0 n0
      rw [ei] at q1 n1
      rw [eb] at q2 n2
      refine ⟨ok, _, rfl, ⟨Ac, cc, Ai, ci, Ab, cb, rfl, hcl, q0.rd.2, q1.rd.2, q2.rd.2⟩, ?_, by rw [hrb]; exact hBx.trans (st2.below hH)⟩
      rw [hrb]
      intro cs hcs A0 n0' c0 hm ad had
      injection hcs with hcs
      subst hcs
      subst had
      simp at hm
      rcases hm with ⟨hm, _, _⟩ | ⟨hm, _, _⟩ | ⟨hm, _, _⟩
      · subst hm; exact n0 _ rfl
      · subst hm; exact n1 _ rfl
      · subst hm; exact n2 _ rfl
end Go.Proofs.Ytelfmhiaafkimaa
