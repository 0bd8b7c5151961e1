/- One in at a time: one asks. -/
import Derived.Test.YtelfmhiaafkimaaMx2
namespace Go.Proofs.Ytelfmhiaafkimaa
open Go Go.RowKit Go.VC
set_option linter.unusedSimpArgs false
set_option linter.unusedVariables false
theorem msendAll_len {i : Nat} {x : Int} {s : MxS} : ∀ {m : Nat} (a b : Nat), ((msendAll i x m s).way a b).length ≤ (s.way a b).length + m
  | 0, a, b => Nat.le_refl _
  | m + 1, a, b => by
    have ih := msendAll_len (i := i) (x := x) (s := s) (m := m) a b
    unfold msendAll
    split
    · omega
    · show (if a = i ∧ b = m then (msendAll i x m s).way a b ++ [x] else (msendAll i x m s).way a b).length ≤ _
      split
      · rw [List.length_append]; simp; omega
      · omega
theorem msendAll_inn {i : Nat} {x : Int} {s : MxS} : ∀ {m : Nat}, (msendAll i x m s).inn = s.inn
  | 0 => rfl
  | m + 1 => by
    unfold msendAll
    split
    · exact msendAll_inn
    · exact (msendAll_inn : (msendAll i x m s).inn = s.inn)
section
variable {B n : Nat} {a : XA} {s : MxS} {v : XV} {w : World}

set_option maxRecDepth 8000 in
set_option maxHeartbeats 4000000 in
theorem ask_any (h : Hp B (XObs n a s v) w) (hv : XM n v) {i : Nat} (hi : i < n) (hn : n ≤ 6) (hin : s.inn.length ≤ 10000) (hwy : ∀ j, (s.way i j).length ≤ 40000) (hc : v.cnt ≤ 40000) (hnn : 0 ≤ (s.pr i).n ∧ (s.pr i).n ≤ 1000000) :
    Calls Try.prog 99 #[ptrV a.wb, iV i] w (MxPost B n a s v w n (iV (mask n i s).1) (mask n i s).2) := by
  have bw : Box w a.wb [.slice (some ⟨a.gp, 0, none⟩) n a.gc, .map (some a.mb), v.inV] := h.get 0 rfl
  have m0 := bw.at (i := 0) rfl
  have hwl := bw.1
  have hgl := (h.get 1 rfl : Box w a.gp _).1
  have g0 := ptrF h hi
  have bp := procF h hi
  have p0 := bp.at (i := 0) rfl
  have p1 := bp.at (i := 1) rfl
  have hpl := bp.1
  by_cases q1 : (s.pr i).how = 0
  case neg =>
    have e1 := eq_false q1
    have hs : mask n i s = (6, s) := by unfold mask; rw [if_pos q1]
    refine calls_vc (rs := [.tmp 4]) Fa.mix Try.func99 rfl Try.ntmps99 rfl (by kernel_rfl) (Nat.le_of_ble_eq_true rfl) ?_
    simp -dsimp (maxSteps := 2000000) only [Fa.F99, rdSA_of m0, rdSN_of m0, rdSC_of m0, m0, hwl, rdP_of g0, g0, hgl, rdI_of p1, p1, hpl, e1, Int.toNat_natCast, Nat.zero_add, undef, tu, uf, ul, ur, VC.Now, VC.vc, VC.lib, VC.mapN_drewN, VC.mapB_drewN, VC.regQ, VC.loopK, VC.reg, VC.opP, VC.opS, VC.opZ, VC.nomulB, VC.pv, VC.thenF, VC.blkF, VC.retF, VC.resV, VC.oneV, VC.evo, VC.bin, VC.binI, VC.cmpI, VC.arithI, VC.ldv, VC.slv, VC.pickP, VC.holds, VC.chainOf, VC.look, VC.junk, VC.put, VC.eff, VC.callee, VC.pureB, VC.rdK, VC.rdKs, VC.okKs, VC.eqKs, VC.fillL, VC.putL, VC.stW, VC.stOK, VC.mixF, VC.setAll, Nat.reduceAdd, Nat.reduceSub, Nat.reduceMul, if_true, if_false, ↓reduceIte, forall_const, implies_true, reduceCtorEq, ne_eq, Nat.reduceBNe, Nat.reduceBEq, IntKind.signed, Nat.reduceEqDiff, Nat.reduceLeDiff, Nat.reduceLT, eq_self, Int.reduceEq, Int.reduceLT, Int.reduceLE, Int.reduceAdd, Int.reduceSub, VC.regC_nil, VC.regC_cons, VC.regCK_eq, VC.callQ, VC.tailQ, VC.goCall, VC.chStep]
    refine ⟨⟨by omega, by omega⟩, ?_, v, ?_, hv, Nat.le_add_right _ _⟩
    · rw [hs]
    · rw [hs]; exact St.refl h
  have e1 := eq_true q1
  have hs : mask n i s = (0, menter n i (msendAll i ((s.pr i).n + 1) n { s with pr := upd s.pr i { s.pr i with n := (s.pr i).n + 1, how := 1, key := (s.pr i).n + 1, yes := 0 } })) := by unfold mask; rw [if_neg (by rw [q1]; simp)]
  obtain ⟨y, hy⟩ : ∃ y, y = (s.pr i).n + 1 := ⟨_, rfl⟩
  rw [← hy] at hs
  have b1 := bp.set 0 (iV y)
  have b2 := b1.set 1 (iV 1)
  have b3 := b2.set 2 (iV y)
  have sa := XObs_proc h hi 0 (iV y) { s.pr i with n := y } rfl rfl
  have sb := XObs_proc sa.hp hi 1 (iV 1) { s.pr i with n := y, how := 1 } (by show _ = (mpL (upd s.pr i _ i) _).set _ _; rw [upd_same]; rfl) (by show _ = (upd s.pr i _ i).waits; rw [upd_same])
  have sc := XObs_proc sb.hp hi 2 (iV y) { s.pr i with n := y, how := 1, key := y } (by show _ = (mpL (upd (upd s.pr i _) i _ i) _).set _ _; rw [upd_same]; rfl) (by show _ = (upd (upd s.pr i _) i _ i).waits; rw [upd_same])
  have sd := XObs_proc sc.hp hi 4 (iV 0) { s.pr i with n := y, how := 1, key := y, yes := 0 } (by show _ = (mpL (upd (upd (upd s.pr i _) i _) i _ i) _).set _ _; rw [upd_same]; rfl) (by show _ = (upd (upd (upd s.pr i _) i _) i _ i).waits; rw [upd_same])
  have st := ((sa.trans sb).trans sc).trans sd
  simp only [upd_upd] at st
  obtain ⟨wa, hwa⟩ : ∃ wa, wa = w.setCell ⟨a.pb i, 0, none⟩ (.int .i64 y) := ⟨_, rfl⟩
  rw [← hwa] at st b1 b2 b3
  obtain ⟨wb, hwb⟩ : ∃ wb, wb = wa.setCell ⟨a.pb i, 1, none⟩ (.int .i64 1) := ⟨_, rfl⟩
  rw [← hwb] at st b2 b3
  obtain ⟨wc, hwc⟩ : ∃ wc, wc = wb.setCell ⟨a.pb i, 2, none⟩ (.int .i64 y) := ⟨_, rfl⟩
  rw [← hwc] at st b3
  obtain ⟨wd, hwd⟩ : ∃ wd, wd = wc.setCell ⟨a.pb i, 4, none⟩ (.int .i64 0) := ⟨_, rfl⟩
  rw [← hwd] at st
  clear sa sb sc sd
  have f0 := bp.soft (i := 0) (by show 0 < 5; omega)
  have k0 : (w.cell? ⟨a.pb i, 0, none⟩).isSome = true := by rw [p0]; rfl
  have f1 := b1.soft (i := 1) (by show 1 < 5; omega)
  have k1 : (wa.cell? ⟨a.pb i, 1, none⟩).isSome = true := by rw [b1.at (i := 1) rfl]; rfl
  have n1 := b1.at (i := 0) rfl
  have f2 := b2.soft (i := 2) (by show 2 < 5; omega)
  have k2 : (wb.cell? ⟨a.pb i, 2, none⟩).isSome = true := by rw [b2.at (i := 2) rfl]; rfl
  have f4 := b3.soft (i := 4) (by show 4 < 5; omega)
  have k4 : (wc.cell? ⟨a.pb i, 4, none⟩).isSome = true := by rw [b3.at (i := 4) rfl]; rfl
  have l1 := b1.1
  have l2 := b2.1
  have l3 := b3.1
  have bwd : Box wd a.wb [.slice (some ⟨a.gp, 0, none⟩) n a.gc, .map (some a.mb), v.inV] := st.hp.get 0 rfl
  have md := bwd.at (i := 0) rfl
  have hld := bwd.1
  refine calls_vc (rs := [.tmp 4]) Fa.mix Try.func99 rfl Try.ntmps99 rfl (by kernel_rfl) (Nat.le_of_ble_eq_true rfl) ?_
  simp -dsimp (maxSteps := 2000000) only [Fa.F99, rdSA_of m0, rdSN_of m0, rdSC_of m0, m0, hwl, rdP_of g0, g0, hgl, rdI_of p1, p1, rdI_of p0, p0, hpl, e1, ← hy, f0, k0, ← hwa, rdI_of n1, n1, l1, f1, k1, ← hwb, l2, f2, k2, ← hwc, l3, f4, k4, ← hwd, rdSA_of md, rdSN_of md, rdSC_of md, md, hld, Int.toNat_natCast, Nat.zero_add, undef, tu, uf, ul, ur, VC.Now, VC.vc, VC.lib, VC.mapN_drewN, VC.mapB_drewN, VC.regQ, VC.loopK, VC.reg, VC.opP, VC.opS, VC.opZ, VC.nomulB, VC.pv, VC.thenF, VC.blkF, VC.retF, VC.resV, VC.oneV, VC.evo, VC.bin, VC.binI, VC.cmpI, VC.arithI, VC.ldv, VC.slv, VC.pickP, VC.holds, VC.chainOf, VC.look, VC.junk, VC.put, VC.eff, VC.callee, VC.pureB, VC.rdK, VC.rdKs, VC.okKs, VC.eqKs, VC.fillL, VC.putL, VC.stW, VC.stOK, VC.mixF, VC.setAll, Nat.reduceAdd, Nat.reduceSub, Nat.reduceMul, if_true, if_false, ↓reduceIte, forall_const, implies_true, reduceCtorEq, ne_eq, Nat.reduceBNe, Nat.reduceBEq, IntKind.signed, Nat.reduceEqDiff, Nat.reduceLeDiff, Nat.reduceLT, eq_self, Int.reduceEq, Int.reduceLT, Int.reduceLE, Int.reduceAdd, Int.reduceSub, VC.regC_nil, VC.regC_cons, VC.regCK_eq, VC.callQ, VC.tailQ, VC.goCall, VC.chStep]
  refine ⟨⟨by omega, by omega⟩, fits_i64 (by omega) (by omega), ?_⟩
  have hvd := hv
  obtain ⟨s1, hs1⟩ : ∃ s1 : MxS, s1 = { s with pr := upd s.pr i { s.pr i with n := y, how := 1, key := y, yes := 0 } } := ⟨_, rfl⟩
  have hs' : mask n i s = (0, menter n i (msendAll i y n s1)) := by rw [hs, hs1]
  have st1 : St B (XObs n a s v) w (XObs n a s1 v) wd := by rw [hs1]; exact st
  have hk1 : (s1.pr i).key = y := by rw [hs1]; show (upd s.pr i _ i).key = y; rw [upd_same]
  have hway1 : s1.way = s.way := by rw [hs1]
  have hinn1 : s1.inn = s.inn := by rw [hs1]
  rw [hs']
  clear hs hs' st b1 b2 b3 hs1
  refine loop_slots Fa.mix [44] [6, 45, 46, 47, 48, 49, 50, 51, 52, 53, 54, 55, 56, 57, 58] (fun m vs wx => ∃ (j : Nat) (v2 : XV), j + m = n ∧ vs = [.int .i64 j] ∧ St B (XObs n a s v) w (XObs n a (msendAll i y j s1) v2) wx ∧ XM n v2 ∧ v2.cnt ≤ v.cnt + j) n (by kernel_rfl) rfl
    ⟨0, v, by omega, rfl, st1, hv, Nat.le_refl _⟩ ?_
  clear st1 hv
  rintro m vs u wx ⟨j, v2, hjm, rfl, st2, hv2, hc2⟩
  have h2 := st2.hp
  by_cases hj : j < n
  · have e7 : ((j : Int) < n) = True := eq_true (by omega)
    by_cases hji : j = i
    · have e8 : ((j : Int) = i) = True := eq_true (by omega)
      simp -dsimp (maxSteps := 2000000) only [Fa.F99, e7, e8, VC.Now, VC.vc, VC.lib, VC.mapN_drewN, VC.mapB_drewN, VC.regQ, VC.loopK, VC.reg, VC.opP, VC.opS, VC.opZ, VC.nomulB, VC.pv, VC.thenF, VC.blkF, VC.retF, VC.resV, VC.oneV, VC.evo, VC.bin, VC.binI, VC.cmpI, VC.arithI, VC.ldv, VC.slv, VC.pickP, VC.holds, VC.chainOf, VC.look, VC.junk, VC.put, VC.eff, VC.callee, VC.pureB, VC.rdK, VC.rdKs, VC.okKs, VC.eqKs, VC.fillL, VC.putL, VC.stW, VC.stOK, VC.mixF, VC.setAll, Nat.reduceAdd, Nat.reduceSub, Nat.reduceMul, if_true, if_false, ↓reduceIte, forall_const, implies_true, reduceCtorEq, ne_eq, Nat.reduceBNe, Nat.reduceBEq, IntKind.signed, Nat.reduceEqDiff, Nat.reduceLeDiff, Nat.reduceLT, eq_self, Int.reduceEq, Int.reduceLT, Int.reduceLE, Int.reduceAdd, Int.reduceSub, VC.regC_nil, VC.regC_cons, VC.regCK_eq, VC.callQ, VC.tailQ, VC.goCall, VC.chStep]
      refine ⟨fits_i64_nat (by omega), SAME.intro (by kernel_rfl), m - 1, by omega, j + 1, v2, by omega, rfl, ?_, hv2, by omega⟩
      have : msendAll i y (j + 1) s1 = msendAll i y j s1 := by
        show (if j = i then msendAll i y j s1 else msend i j y (msendAll i y j s1)) = _
        rw [if_pos hji]
      rw [this]; exact st2
    · have e8 : ((j : Int) = i) = False := eq_false (by omega)
      have bp2 := procF h2 hi
      rw [msendAll_pr] at bp2
      have q2 := bp2.at (i := 2) rfl
      rw [hk1] at q2
      have hpl2 := bp2.1
      have hlen := msendAll_len (i := i) (x := y) (s := s1) (m := j) i j
      rw [hway1] at hlen
      have hw1 := hwy j
      simp -dsimp (maxSteps := 2000000) only [Fa.F99, e7, e8, rdI_of q2, q2, hpl2, VC.Now, VC.vc, VC.lib, VC.mapN_drewN, VC.mapB_drewN, VC.regQ, VC.loopK, VC.reg, VC.opP, VC.opS, VC.opZ, VC.nomulB, VC.pv, VC.thenF, VC.blkF, VC.retF, VC.resV, VC.oneV, VC.evo, VC.bin, VC.binI, VC.cmpI, VC.arithI, VC.ldv, VC.slv, VC.pickP, VC.holds, VC.chainOf, VC.look, VC.junk, VC.put, VC.eff, VC.callee, VC.pureB, VC.rdK, VC.rdKs, VC.okKs, VC.eqKs, VC.fillL, VC.putL, VC.stW, VC.stOK, VC.mixF, VC.setAll, Nat.reduceAdd, Nat.reduceSub, Nat.reduceMul, if_true, if_false, ↓reduceIte, forall_const, implies_true, reduceCtorEq, ne_eq, Nat.reduceBNe, Nat.reduceBEq, IntKind.signed, Nat.reduceEqDiff, Nat.reduceLeDiff, Nat.reduceLT, eq_self, Int.reduceEq, Int.reduceLT, Int.reduceLE, Int.reduceAdd, Int.reduceSub, VC.regC_nil, VC.regC_cons, VC.regCK_eq, VC.callQ, VC.tailQ, VC.goCall, VC.chStep]
      refine CALL_by (send_any h2 hv2 hi hj hn y (by omega) (by omega)) fun e w3 hp => ?_
      obtain ⟨he, v3, st3, hv3, _, _, hc3⟩ := hp
      refine ⟨_, he, ?_⟩
      rw [VC.Now, VC.seqK_eq]
      simp -dsimp (maxSteps := 2000000) only [Fa.F99, VC.Now, VC.vc, VC.lib, VC.mapN_drewN, VC.mapB_drewN, VC.regQ, VC.loopK, VC.reg, VC.opP, VC.opS, VC.opZ, VC.nomulB, VC.pv, VC.thenF, VC.blkF, VC.retF, VC.resV, VC.oneV, VC.evo, VC.bin, VC.binI, VC.cmpI, VC.arithI, VC.ldv, VC.slv, VC.pickP, VC.holds, VC.chainOf, VC.look, VC.junk, VC.put, VC.eff, VC.callee, VC.pureB, VC.rdK, VC.rdKs, VC.okKs, VC.eqKs, VC.fillL, VC.putL, VC.stW, VC.stOK, VC.mixF, VC.setAll, Nat.reduceAdd, Nat.reduceSub, Nat.reduceMul, if_true, if_false, ↓reduceIte, forall_const, implies_true, reduceCtorEq, ne_eq, Nat.reduceBNe, Nat.reduceBEq, IntKind.signed, Nat.reduceEqDiff, Nat.reduceLeDiff, Nat.reduceLT, eq_self, Int.reduceEq, Int.reduceLT, Int.reduceLE, Int.reduceAdd, Int.reduceSub, VC.regC_nil, VC.regC_cons, VC.regCK_eq, VC.callQ, VC.tailQ, VC.goCall, VC.chStep]
      refine ⟨fits_i64_nat (by omega), SAME.intro (by kernel_rfl), m - 1, by omega, j + 1, v3, by omega, rfl, ?_, hv3, by omega⟩
      have : msendAll i y (j + 1) s1 = msend i j y (msendAll i y j s1) := by
        show (if j = i then msendAll i y j s1 else msend i j y (msendAll i y j s1)) = _
        rw [if_neg hji]
      rw [this]; exact st2.trans st3
  · obtain rfl : j = n := by omega
    have e7 : ((j : Int) < j) = False := eq_false (by omega)
    simp -dsimp (maxSteps := 2000000) only [Fa.F99, e7, VC.Now, VC.vc, VC.lib, VC.mapN_drewN, VC.mapB_drewN, VC.regQ, VC.loopK, VC.reg, VC.opP, VC.opS, VC.opZ, VC.nomulB, VC.pv, VC.thenF, VC.blkF, VC.retF, VC.resV, VC.oneV, VC.evo, VC.bin, VC.binI, VC.cmpI, VC.arithI, VC.ldv, VC.slv, VC.pickP, VC.holds, VC.chainOf, VC.look, VC.junk, VC.put, VC.eff, VC.callee, VC.pureB, VC.rdK, VC.rdKs, VC.okKs, VC.eqKs, VC.fillL, VC.putL, VC.stW, VC.stOK, VC.mixF, VC.setAll, Nat.reduceAdd, Nat.reduceSub, Nat.reduceMul, if_true, if_false, ↓reduceIte, forall_const, implies_true, reduceCtorEq, ne_eq, Nat.reduceBNe, Nat.reduceBEq, IntKind.signed, Nat.reduceEqDiff, Nat.reduceLeDiff, Nat.reduceLT, eq_self, Int.reduceEq, Int.reduceLT, Int.reduceLE, Int.reduceAdd, Int.reduceSub, VC.regC_nil, VC.regC_cons, VC.regCK_eq, VC.callQ, VC.tailQ, VC.goCall, VC.chStep]
    refine CALL_by (enter_any h2 hv2 hi hn (by rw [msendAll_inn, hinn1]; exact hin)) fun e w3 hp => ?_
    obtain ⟨he, v3, st3, hv3, hc3⟩ := hp
    refine ⟨_, he, ?_⟩
    rw [VC.Now, VC.seqK_eq]
    simp -dsimp (maxSteps := 2000000) only [Fa.F99, VC.Now, VC.vc, VC.lib, VC.mapN_drewN, VC.mapB_drewN, VC.regQ, VC.loopK, VC.reg, VC.opP, VC.opS, VC.opZ, VC.nomulB, VC.pv, VC.thenF, VC.blkF, VC.retF, VC.resV, VC.oneV, VC.evo, VC.bin, VC.binI, VC.cmpI, VC.arithI, VC.ldv, VC.slv, VC.pickP, VC.holds, VC.chainOf, VC.look, VC.junk, VC.put, VC.eff, VC.callee, VC.pureB, VC.rdK, VC.rdKs, VC.okKs, VC.eqKs, VC.fillL, VC.putL, VC.stW, VC.stOK, VC.mixF, VC.setAll, Nat.reduceAdd, Nat.reduceSub, Nat.reduceMul, if_true, if_false, ↓reduceIte, forall_const, implies_true, reduceCtorEq, ne_eq, Nat.reduceBNe, Nat.reduceBEq, IntKind.signed, Nat.reduceEqDiff, Nat.reduceLeDiff, Nat.reduceLT, eq_self, Int.reduceEq, Int.reduceLT, Int.reduceLE, Int.reduceAdd, Int.reduceSub, VC.regC_nil, VC.regC_cons, VC.regCK_eq, VC.callQ, VC.tailQ, VC.goCall, VC.chStep]
    exact ⟨rfl, v3, st2.trans st3, hv3, by omega⟩
end
end Go.Proofs.Ytelfmhiaafkimaa
