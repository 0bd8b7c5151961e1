/- One in at a time: one leaves. -/
import Derived.Test.YtelfmhiaafkimaaMx2
namespace Go.Proofs.Ytelfmhiaafkimaa
open Go Go.RowKit Go.VC
set_option linter.unusedSimpArgs false
set_option linter.unusedVariables false
theorem msendL_with {i : Nat} {x : Int} {P : Nat → MP} : ∀ {l : List Nat} {s : MxS}, msendL i x l { s with pr := P } = { msendL i x l s with pr := P }
  | [], s => rfl
  | j :: l, s => by
    show msendL i x l { msend i j x s with pr := P } = { msendL i x l (msend i j x s) with pr := P }
    exact msendL_with
theorem msendL_len {i : Nat} {x : Int} : ∀ {l : List Nat} {s : MxS} (a b : Nat), ((msendL i x l s).way a b).length ≤ (s.way a b).length + l.length
  | [], s, a, b => Nat.le_refl _
  | j :: l, s, a, b => by
    have ih := msendL_len (i := i) (x := x) (l := l) (s := msend i j x s) a b
    have h2 : ((msend i j x s).way a b).length ≤ (s.way a b).length + 1 := by
      show (if a = i ∧ b = j then s.way a b ++ [x] else s.way a b).length ≤ _
      split
      · rw [List.length_append]; simp
      · omega
    show ((msendL i x l (msend i j x s)).way a b).length ≤ _
    rw [List.length_cons]
    omega
theorem msendL_take {i : Nat} {x : Int} {l : List Nat} {s : MxS} {k : Nat} (hk : k < l.length) : msendL i x (l.take (k + 1)) s = msend i l[k] x (msendL i x (l.take k) s) := by
  unfold msendL
  rw [List.take_succ_eq_append_getElem hk, List.foldl_append]
  rfl
section
variable {B n : Nat} {a : XA} {s : MxS} {v : XV} {w : World}

set_option maxRecDepth 8000 in
set_option maxHeartbeats 4000000 in
theorem leave_any (h : Hp B (XObs n a s v) w) (hv : XM n v) {i : Nat} (hi : i < n) (hn : n ≤ 6) (hwy : ∀ j, (s.way i j).length ≤ 40000) (hc : v.cnt ≤ 40000) (hws : ∀ k ∈ (s.pr i).waits, k < n) (hwl : (s.pr i).waits.length ≤ 5000) :
    Calls Try.prog 101 #[ptrV a.wb, iV i] w (MxPost B n a s v w (s.pr i).waits.length (iV (mleave i s).1) (mleave i s).2) := by
  have bw : Box w a.wb [.slice (some ⟨a.gp, 0, none⟩) n a.gc, .map (some a.mb), v.inV] := h.get 0 rfl
  have m0 := bw.at (i := 0) rfl
  have hbl := bw.1
  have hgl := (h.get 1 rfl : Box w a.gp _).1
  have g0 := ptrF h hi
  have bp := procF h hi
  have p1 := bp.at (i := 1) rfl
  have hpl := bp.1
  by_cases q1 : (s.pr i).how = 2
  case neg =>
    have e1 := eq_false q1
    have hs : mleave i s = (6, s) := by unfold mleave; rw [if_pos q1]
    refine calls_vc (rs := [.tmp 4]) Fa.mix Try.func101 rfl Try.ntmps101 rfl (by kernel_rfl) (Nat.le_of_ble_eq_true rfl) ?_
    simp -dsimp (maxSteps := 2000000) only [Fa.F101, rdSA_of m0, rdSN_of m0, rdSC_of m0, m0, hbl, rdP_of g0, g0, hgl, rdI_of p1, p1, hpl, e1, Int.toNat_natCast, Nat.zero_add, undef, tu, uf, ul, ur, VC.Now, VC.vc, VC.lib, VC.mapN_drewN, VC.mapB_drewN, VC.regQ, VC.loopK, VC.reg, VC.opP, VC.opS, VC.opZ, VC.nomulB, VC.pv, VC.thenF, VC.blkF, VC.retF, VC.resV, VC.oneV, VC.evo, VC.bin, VC.binI, VC.cmpI, VC.arithI, VC.ldv, VC.slv, VC.pickP, VC.holds, VC.chainOf, VC.look, VC.junk, VC.put, VC.eff, VC.callee, VC.pureB, VC.rdK, VC.rdKs, VC.okKs, VC.eqKs, VC.fillL, VC.putL, VC.stW, VC.stOK, VC.mixF, VC.setAll, Nat.reduceAdd, Nat.reduceSub, Nat.reduceMul, if_true, if_false, ↓reduceIte, forall_const, implies_true, reduceCtorEq, ne_eq, Nat.reduceBNe, Nat.reduceBEq, IntKind.signed, Nat.reduceEqDiff, Nat.reduceLeDiff, Nat.reduceLT, eq_self, Int.reduceEq, Int.reduceLT, Int.reduceLE, Int.reduceAdd, Int.reduceSub, VC.regC_nil, VC.regC_cons, VC.regCK_eq, VC.callQ, VC.tailQ, VC.goCall, VC.chStep]
    refine ⟨⟨by omega, by omega⟩, ?_, v, ?_, hv, Nat.le_add_right _ _⟩
    · rw [hs]
    · rw [hs]; exact St.refl h
  have e1 := eq_true q1
  have hs : mleave i s = (0, { msendL i 0 (s.pr i).waits s with pr := upd s.pr i { s.pr i with how := 0, waits := [] } }) := by unfold mleave; rw [if_neg (by rw [q1]; simp), msendL_with]
  have sa := XObs_proc h hi 1 (iV 0) { s.pr i with how := 0 } rfl rfl
  have b1 := bp.set 1 (iV 0)
  obtain ⟨Aw, cw, ew, _⟩ := id (waitF h hi)
  obtain ⟨wa, hwa⟩ : ∃ wa, wa = w.setCell ⟨a.pb i, 1, none⟩ (.int .i64 0) := ⟨_, rfl⟩
  rw [← hwa] at sa b1
  have f1 := bp.soft (i := 1) (by show 1 < 5; omega)
  have k1 : (w.cell? ⟨a.pb i, 1, none⟩).isSome = true := by rw [p1]; rfl
  have n3 := b1.at (i := 3) rfl
  rw [ew] at n3
  have l1 := b1.1
  obtain ⟨s1, hs1⟩ : ∃ s1 : MxS, s1 = { s with pr := upd s.pr i { s.pr i with how := 0 } } := ⟨_, rfl⟩
  have hway1 : s1.way = s.way := by rw [hs1]
  have hinn1 : s1.inn = s.inn := by rw [hs1]
  have hpr1 : s1.pr = upd s.pr i { s.pr i with how := 0 } := by rw [hs1]
  rw [← hs1] at sa
  generalize hws0 : (s.pr i).waits = ws at *
  refine calls_vc (rs := [.tmp 4]) Fa.mix Try.func101 rfl Try.ntmps101 rfl (by kernel_rfl) (Nat.le_of_ble_eq_true rfl) ?_
  simp -dsimp (maxSteps := 2000000) only [Fa.F101, rdSA_of m0, rdSN_of m0, rdSC_of m0, m0, hbl, rdP_of g0, g0, hgl, rdI_of p1, p1, hpl, e1, f1, k1, ← hwa, rdSA_of n3, rdSN_of n3, rdSC_of n3, n3, l1, Int.toNat_natCast, Nat.zero_add, undef, tu, uf, ul, ur, VC.Now, VC.vc, VC.lib, VC.mapN_drewN, VC.mapB_drewN, VC.regQ, VC.loopK, VC.reg, VC.opP, VC.opS, VC.opZ, VC.nomulB, VC.pv, VC.thenF, VC.blkF, VC.retF, VC.resV, VC.oneV, VC.evo, VC.bin, VC.binI, VC.cmpI, VC.arithI, VC.ldv, VC.slv, VC.pickP, VC.holds, VC.chainOf, VC.look, VC.junk, VC.put, VC.eff, VC.callee, VC.pureB, VC.rdK, VC.rdKs, VC.okKs, VC.eqKs, VC.fillL, VC.putL, VC.stW, VC.stOK, VC.mixF, VC.setAll, Nat.reduceAdd, Nat.reduceSub, Nat.reduceMul, if_true, if_false, ↓reduceIte, forall_const, implies_true, reduceCtorEq, ne_eq, Nat.reduceBNe, Nat.reduceBEq, IntKind.signed, Nat.reduceEqDiff, Nat.reduceLeDiff, Nat.reduceLT, eq_self, Int.reduceEq, Int.reduceLT, Int.reduceLE, Int.reduceAdd, Int.reduceSub, VC.regC_nil, VC.regC_cons, VC.regCK_eq, VC.callQ, VC.tailQ, VC.goCall, VC.chStep]
  refine ⟨⟨by omega, by omega⟩, ?_⟩
  refine loop_slots Fa.mix [28] [7, 29, 30, 31, 32, 33, 34, 35, 36] (fun m vs wx => ∃ (j : Nat) (v2 : XV), j + m = ws.length ∧ vs = [.int .i64 j] ∧ St B (XObs n a s v) w (XObs n a (msendL i 0 (ws.take j) s1) v2) wx ∧ XM n v2 ∧ v2.wv = v.wv ∧ v2.cnt ≤ v.cnt + j) ws.length (by kernel_rfl) rfl
    ⟨0, v, by omega, rfl, sa, hv, rfl, Nat.le_refl _⟩ ?_
  clear sa hv
  rintro m vs u wx ⟨j, v2, hjm, rfl, st2, hv2, hwv, hc2⟩
  have h2 := st2.hp
  have hpr2 : (msendL i 0 (ws.take j) s1).pr = upd s.pr i { s.pr i with how := 0 } := by rw [msendL_pr, hpr1]
  have own := waitF h2 hi
  rw [hpr2, upd_same, hwv, ew] at own
  have own : OwnK wx 0 3 1 ws.length (.slice Aw ws.length cw) (natL ws) := by rw [← hws0]; rw [← hws0] at own; exact own
  by_cases hj : j < ws.length
  · have e7 : ((j : Int) < ws.length) = True := eq_true (by omega)
    obtain ⟨b, o, rfl, hb, hcl⟩ := own.rd.2 (by simp; omega)
    have t0 := hcl j (by simpa using hj)
    rw [List.getElem?_map, List.getElem?_eq_getElem hj] at t0
    simp only [Option.map_some] at t0
    have hjn := hws _ (List.getElem_mem hj)
    have hmt := msendL_take (i := i) (x := 0) (s := s1) hj
    generalize ws[j] = z at *
    have hlen := msendL_len (i := i) (x := 0) (l := ws.take j) (s := s1) i z
    rw [hway1, List.length_take] at hlen
    have hw1 := hwy z
    simp -dsimp (maxSteps := 2000000) only [Fa.F101, e7, rdI_of t0, t0, hb, Int.toNat_natCast, VC.Now, VC.vc, VC.lib, VC.mapN_drewN, VC.mapB_drewN, VC.regQ, VC.loopK, VC.reg, VC.opP, VC.opS, VC.opZ, VC.nomulB, VC.pv, VC.thenF, VC.blkF, VC.retF, VC.resV, VC.oneV, VC.evo, VC.bin, VC.binI, VC.cmpI, VC.arithI, VC.ldv, VC.slv, VC.pickP, VC.holds, VC.chainOf, VC.look, VC.junk, VC.put, VC.eff, VC.callee, VC.pureB, VC.rdK, VC.rdKs, VC.okKs, VC.eqKs, VC.fillL, VC.putL, VC.stW, VC.stOK, VC.mixF, VC.setAll, Nat.reduceAdd, Nat.reduceSub, Nat.reduceMul, if_true, if_false, ↓reduceIte, forall_const, implies_true, reduceCtorEq, ne_eq, Nat.reduceBNe, Nat.reduceBEq, IntKind.signed, Nat.reduceEqDiff, Nat.reduceLeDiff, Nat.reduceLT, eq_self, Int.reduceEq, Int.reduceLT, Int.reduceLE, Int.reduceAdd, Int.reduceSub, VC.regC_nil, VC.regC_cons, VC.regCK_eq, VC.callQ, VC.tailQ, VC.goCall, VC.chStep]
    refine ⟨by omega, ?_⟩
    refine CALL_by (send_any h2 hv2 hi hjn hn 0 (by omega) (by omega)) fun e w3 hp => ?_
    obtain ⟨he, v3, st3, hv3, _, hwv3, hc3⟩ := hp
    refine ⟨_, he, ?_⟩
    rw [VC.Now, VC.seqK_eq]
    simp -dsimp (maxSteps := 2000000) only [Fa.F101, VC.Now, VC.vc, VC.lib, VC.mapN_drewN, VC.mapB_drewN, VC.regQ, VC.loopK, VC.reg, VC.opP, VC.opS, VC.opZ, VC.nomulB, VC.pv, VC.thenF, VC.blkF, VC.retF, VC.resV, VC.oneV, VC.evo, VC.bin, VC.binI, VC.cmpI, VC.arithI, VC.ldv, VC.slv, VC.pickP, VC.holds, VC.chainOf, VC.look, VC.junk, VC.put, VC.eff, VC.callee, VC.pureB, VC.rdK, VC.rdKs, VC.okKs, VC.eqKs, VC.fillL, VC.putL, VC.stW, VC.stOK, VC.mixF, VC.setAll, Nat.reduceAdd, Nat.reduceSub, Nat.reduceMul, if_true, if_false, ↓reduceIte, forall_const, implies_true, reduceCtorEq, ne_eq, Nat.reduceBNe, Nat.reduceBEq, IntKind.signed, Nat.reduceEqDiff, Nat.reduceLeDiff, Nat.reduceLT, eq_self, Int.reduceEq, Int.reduceLT, Int.reduceLE, Int.reduceAdd, Int.reduceSub, VC.regC_nil, VC.regC_cons, VC.regCK_eq, VC.callQ, VC.tailQ, VC.goCall, VC.chStep]
    refine ⟨fits_i64_nat (by omega), SAME.intro (by kernel_rfl), m - 1, by omega, j + 1, v3, by omega, rfl, ?_, hv3, hwv3.trans hwv, by omega⟩
    rw [hmt]; exact st2.trans st3
  · obtain rfl : j = ws.length := by omega
    have e7 : ((ws.length : Int) < ws.length) = False := eq_false (by omega)
    have bp2 := procF h2 hi
    have f3 := bp2.soft (i := 3) (by show 3 < 5; omega)
    have k3 : (wx.cell? ⟨a.pb i, 3, none⟩).isSome = true := by rw [bp2.at (i := 3) rfl]; rfl
    have hpl2 := bp2.1
    have st4 := XObs_wait h2 hi (v' := nilS) (ws := []) (w1 := wx) (OwnK.nil _ _ _ _) (Agree.refl _ _) (Or.inr fun g hg => by cases hg)
    simp -dsimp (maxSteps := 2000000) only [Fa.F101, e7, f3, k3, hpl2, VC.Now, VC.vc, VC.lib, VC.mapN_drewN, VC.mapB_drewN, VC.regQ, VC.loopK, VC.reg, VC.opP, VC.opS, VC.opZ, VC.nomulB, VC.pv, VC.thenF, VC.blkF, VC.retF, VC.resV, VC.oneV, VC.evo, VC.bin, VC.binI, VC.cmpI, VC.arithI, VC.ldv, VC.slv, VC.pickP, VC.holds, VC.chainOf, VC.look, VC.junk, VC.put, VC.eff, VC.callee, VC.pureB, VC.rdK, VC.rdKs, VC.okKs, VC.eqKs, VC.fillL, VC.putL, VC.stW, VC.stOK, VC.mixF, VC.setAll, Nat.reduceAdd, Nat.reduceSub, Nat.reduceMul, if_true, if_false, ↓reduceIte, forall_const, implies_true, reduceCtorEq, ne_eq, Nat.reduceBNe, Nat.reduceBEq, IntKind.signed, Nat.reduceEqDiff, Nat.reduceLeDiff, Nat.reduceLT, eq_self, Int.reduceEq, Int.reduceLT, Int.reduceLE, Int.reduceAdd, Int.reduceSub, VC.regC_nil, VC.regC_cons, VC.regCK_eq, VC.callQ, VC.tailQ, VC.goCall, VC.chStep]
    rw [List.take_length] at st2 st4
    refine ⟨?_, _, st2.trans ?_, hv2.same (v' := { v2 with wv := upd v2.wv i nilS }) rfl rfl, by show v2.cnt ≤ _; omega⟩
    · rw [hs]
    · rw [hs]
      have e9 : ({ msendL i 0 ws s1 with pr := upd (msendL i 0 ws s1).pr i { (msendL i 0 ws s1).pr i with waits := [] } } : MxS) = { msendL i 0 ws s with pr := upd s.pr i { s.pr i with how := 0, waits := [] } } := by
        rw [hs1, msendL_with]
        show ({ msendL i 0 ws s with pr := upd (upd s.pr i _) i { (upd s.pr i _) i with waits := [] } } : MxS) = _
        rw [upd_upd, upd_same]
      rw [← e9]
      exact st4
end
end Go.Proofs.Ytelfmhiaafkimaa
