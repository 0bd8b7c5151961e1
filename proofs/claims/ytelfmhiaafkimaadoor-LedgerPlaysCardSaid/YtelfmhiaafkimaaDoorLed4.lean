/- A ledger, the document's. -/
import Derived.Test.YtelfmhiaafkimaaDoorLed3
import Derived.Test.YtelfmhiaafkimaaDoorCut
namespace Go.Proofs.YtelfmhiaafkimaaDoor
open Go Go.RowKit Go.VC
set_option linter.unusedSimpArgs false
set_option linter.unusedVariables false
set_option maxRecDepth 8000 in
set_option maxHeartbeats 8000000 in
theorem ledgerCheck_any (A : Option Addr) (M : List Int) (c np : Nat) (w : World) (hm : Rd w A (M.map (Value.int .i64))) :
    Calls Tryd.prog 10 #[.slice A M.length c, .int .i64 np] w fun e w' => e = .returned (.int .i64 (ledCode M np)) ∧ Below w.heap.size w w' := by
  have hmx : maxV = 1099511627776 := rfl
  by_cases h1 : M.length = 0 ∨ 12 < M.length ∨ 60 < np
  · have hcode : ledCode M np = 1 := by unfold ledCode; rw [if_pos h1]
    rw [hcode]
    by_cases q1 : M.length = 0
    · have e1 : ((M.length : Int) = 0) = True := eq_true (by omega)
      refine calls_vc (rs := [.tmp 4]) Fa.mix Tryd.func10 rfl Tryd.ntmps10 rfl (by kernel_rfl) (Nat.le_of_ble_eq_true rfl) ?_
      simp -dsimp (maxSteps := 2000000) only [Fa.F10, e1, undef, tu, uf, ul, ur, VC.Now, VC.vc, VC.lib, VC.mapN_drewN, VC.mapB_drewN, VC.regQ, VC.loopK, VC.reg, VC.opP, VC.opS, VC.opZ, VC.nomulB, VC.pv, VC.thenF, VC.blkF, VC.retF, VC.resV, VC.oneV, VC.evo, VC.bin, VC.binI, VC.cmpI, VC.arithI, VC.ldv, VC.slv, VC.pickP, VC.holds, VC.chainOf, VC.look, VC.junk, VC.put, VC.eff, VC.callee, VC.pureB, VC.rdK, VC.rdKs, VC.okKs, VC.eqKs, VC.fillL, VC.putL, VC.stW, VC.stOK, VC.mixF, VC.setAll, Nat.reduceAdd, Nat.reduceSub, Nat.reduceMul, if_true, if_false, ↓reduceIte, forall_const, implies_true, reduceCtorEq, ne_eq, Nat.reduceBNe, Nat.reduceBEq, IntKind.signed, Nat.reduceEqDiff, Nat.reduceLeDiff, Nat.reduceLT, eq_self, Int.reduceEq, Int.reduceLT, Int.reduceLE, Int.reduceAdd, Int.reduceSub, VC.regC_nil, VC.regC_cons, VC.regCK_eq, VC.callQ, VC.tailQ, VC.goCall, VC.chStep]
      intros
      exact Below.refl _ _
    have e1 : ((M.length : Int) = 0) = False := eq_false (by omega)
    by_cases q2 : 12 < M.length
    · have e2 : ((12 : Int) < M.length) = True := eq_true (by omega)
      refine calls_vc (rs := [.tmp 4]) Fa.mix Tryd.func10 rfl Tryd.ntmps10 rfl (by kernel_rfl) (Nat.le_of_ble_eq_true rfl) ?_
      simp -dsimp (maxSteps := 2000000) only [Fa.F10, e1, e2, undef, tu, uf, ul, ur, VC.Now, VC.vc, VC.lib, VC.mapN_drewN, VC.mapB_drewN, VC.regQ, VC.loopK, VC.reg, VC.opP, VC.opS, VC.opZ, VC.nomulB, VC.pv, VC.thenF, VC.blkF, VC.retF, VC.resV, VC.oneV, VC.evo, VC.bin, VC.binI, VC.cmpI, VC.arithI, VC.ldv, VC.slv, VC.pickP, VC.holds, VC.chainOf, VC.look, VC.junk, VC.put, VC.eff, VC.callee, VC.pureB, VC.rdK, VC.rdKs, VC.okKs, VC.eqKs, VC.fillL, VC.putL, VC.stW, VC.stOK, VC.mixF, VC.setAll, Nat.reduceAdd, Nat.reduceSub, Nat.reduceMul, if_true, if_false, ↓reduceIte, forall_const, implies_true, reduceCtorEq, ne_eq, Nat.reduceBNe, Nat.reduceBEq, IntKind.signed, Nat.reduceEqDiff, Nat.reduceLeDiff, Nat.reduceLT, eq_self, Int.reduceEq, Int.reduceLT, Int.reduceLE, Int.reduceAdd, Int.reduceSub, VC.regC_nil, VC.regC_cons, VC.regCK_eq, VC.callQ, VC.tailQ, VC.goCall, VC.chStep]
      intros
      exact Below.refl _ _
    have e2 : ((12 : Int) < M.length) = False := eq_false (by omega)
    have e3 : ((60 : Int) < np) = True := eq_true (by omega)
    refine calls_vc (rs := [.tmp 4]) Fa.mix Tryd.func10 rfl Tryd.ntmps10 rfl (by kernel_rfl) (Nat.le_of_ble_eq_true rfl) ?_
    simp -dsimp (maxSteps := 2000000) only [Fa.F10, e1, e2, e3, undef, tu, uf, ul, ur, VC.Now, VC.vc, VC.lib, VC.mapN_drewN, VC.mapB_drewN, VC.regQ, VC.loopK, VC.reg, VC.opP, VC.opS, VC.opZ, VC.nomulB, VC.pv, VC.thenF, VC.blkF, VC.retF, VC.resV, VC.oneV, VC.evo, VC.bin, VC.binI, VC.cmpI, VC.arithI, VC.ldv, VC.slv, VC.pickP, VC.holds, VC.chainOf, VC.look, VC.junk, VC.put, VC.eff, VC.callee, VC.pureB, VC.rdK, VC.rdKs, VC.okKs, VC.eqKs, VC.fillL, VC.putL, VC.stW, VC.stOK, VC.mixF, VC.setAll, Nat.reduceAdd, Nat.reduceSub, Nat.reduceMul, if_true, if_false, ↓reduceIte, forall_const, implies_true, reduceCtorEq, ne_eq, Nat.reduceBNe, Nat.reduceBEq, IntKind.signed, Nat.reduceEqDiff, Nat.reduceLeDiff, Nat.reduceLT, eq_self, Int.reduceEq, Int.reduceLT, Int.reduceLE, Int.reduceAdd, Int.reduceSub, VC.regC_nil, VC.regC_cons, VC.regCK_eq, VC.callQ, VC.tailQ, VC.goCall, VC.chStep]
    intros
    exact Below.refl _ _
  have e1 : ((M.length : Int) = 0) = False := eq_false (by omega)
  have e2 : ((12 : Int) < M.length) = False := eq_false (by omega)
  have e3 : ((60 : Int) < np) = False := eq_false (by omega)
  refine calls_vc (rs := [.tmp 4]) Fa.mix Tryd.func10 rfl Tryd.ntmps10 rfl (by kernel_rfl) (Nat.le_of_ble_eq_true rfl) ?_
  simp -dsimp (maxSteps := 2000000) only [Fa.F10, e1, e2, e3, undef, tu, uf, ul, ur, VC.Now, VC.vc, VC.lib, VC.mapN_drewN, VC.mapB_drewN, VC.regQ, VC.loopK, VC.reg, VC.opP, VC.opS, VC.opZ, VC.nomulB, VC.pv, VC.thenF, VC.blkF, VC.retF, VC.resV, VC.oneV, VC.evo, VC.bin, VC.binI, VC.cmpI, VC.arithI, VC.ldv, VC.slv, VC.pickP, VC.holds, VC.chainOf, VC.look, VC.junk, VC.put, VC.eff, VC.callee, VC.pureB, VC.rdK, VC.rdKs, VC.okKs, VC.eqKs, VC.fillL, VC.putL, VC.stW, VC.stOK, VC.mixF, VC.setAll, Nat.reduceAdd, Nat.reduceSub, Nat.reduceMul, if_true, if_false, ↓reduceIte, forall_const, implies_true, reduceCtorEq, ne_eq, Nat.reduceBNe, Nat.reduceBEq, IntKind.signed, Nat.reduceEqDiff, Nat.reduceLeDiff, Nat.reduceLT, eq_self, Int.reduceEq, Int.reduceLT, Int.reduceLE, Int.reduceAdd, Int.reduceSub, VC.regC_nil, VC.regC_cons, VC.regCK_eq, VC.callQ, VC.tailQ, VC.goCall, VC.chStep]
  intro u
  refine loop_slots Fa.mix [21] [4, 6, 22, 23, 24, 25, 26, 27, 28, 29, 30, 31] (fun m vs wx => ∃ i : Nat, i + m = M.length ∧ vs = [.int .i64 i] ∧ Below w.heap.size w wx ∧ (M.take i).any badM = false) M.length (by kernel_rfl) rfl
    ⟨0, by omega, rfl, Below.refl _ _, rfl⟩ ?_
  rintro m vs u2 wx ⟨i, him, rfl, hBx, hno⟩
  by_cases hi : i < M.length
  · have e7 : ((i : Int) < M.length) = True := eq_true (by omega)
    obtain ⟨b, o, rfl, hb, hc⟩ := (hm.below hBx) (by simp; omega)
    have t0 := hc i (by simpa using hi)
    rw [List.getElem?_map, List.getElem?_eq_getElem hi] at t0
    simp only [Option.map_some] at t0
    have htk : (M.take (i + 1)).any badM = badM M[i] := by
      rw [List.take_succ_eq_append_getElem hi, List.any_append, hno]; simp
    have hbad : badM M[i] = true → ledCode M np = 2 := fun hh => by
      unfold ledCode; rw [if_neg h1, if_pos (List.any_eq_true.2 ⟨_, List.getElem_mem hi, hh⟩)]
    generalize M[i] = x at *
    by_cases q1 : x < 0
    · have f1 := eq_true q1
      rw [hbad (by unfold badM; rw [decide_eq_true q1]; rfl)]
      simp -dsimp (maxSteps := 2000000) only [Fa.F10, e7, rdI_of t0, t0, hb, f1, Int.toNat_natCast, undef, tu, uf, ul, ur, VC.Now, VC.vc, VC.lib, VC.mapN_drewN, VC.mapB_drewN, VC.regQ, VC.loopK, VC.reg, VC.opP, VC.opS, VC.opZ, VC.nomulB, VC.pv, VC.thenF, VC.blkF, VC.retF, VC.resV, VC.oneV, VC.evo, VC.bin, VC.binI, VC.cmpI, VC.arithI, VC.ldv, VC.slv, VC.pickP, VC.holds, VC.chainOf, VC.look, VC.junk, VC.put, VC.eff, VC.callee, VC.pureB, VC.rdK, VC.rdKs, VC.okKs, VC.eqKs, VC.fillL, VC.putL, VC.stW, VC.stOK, VC.mixF, VC.setAll, Nat.reduceAdd, Nat.reduceSub, Nat.reduceMul, if_true, if_false, ↓reduceIte, forall_const, implies_true, reduceCtorEq, ne_eq, Nat.reduceBNe, Nat.reduceBEq, IntKind.signed, Nat.reduceEqDiff, Nat.reduceLeDiff, Nat.reduceLT, eq_self, Int.reduceEq, Int.reduceLT, Int.reduceLE, Int.reduceAdd, Int.reduceSub, VC.regC_nil, VC.regC_cons, VC.regCK_eq, VC.callQ, VC.tailQ, VC.goCall, VC.chStep]
      refine ⟨by omega, ?_⟩
      intros
      exact hBx
    have f1 := eq_false q1
    by_cases q2 : 1099511627776 < x
    · have f2 := eq_true q2
      rw [hbad (by unfold badM; rw [hmx, decide_eq_true q2]; simp)]
      simp -dsimp (maxSteps := 2000000) only [Fa.F10, e7, rdI_of t0, t0, hb, f1, f2, Int.toNat_natCast, undef, tu, uf, ul, ur, VC.Now, VC.vc, VC.lib, VC.mapN_drewN, VC.mapB_drewN, VC.regQ, VC.loopK, VC.reg, VC.opP, VC.opS, VC.opZ, VC.nomulB, VC.pv, VC.thenF, VC.blkF, VC.retF, VC.resV, VC.oneV, VC.evo, VC.bin, VC.binI, VC.cmpI, VC.arithI, VC.ldv, VC.slv, VC.pickP, VC.holds, VC.chainOf, VC.look, VC.junk, VC.put, VC.eff, VC.callee, VC.pureB, VC.rdK, VC.rdKs, VC.okKs, VC.eqKs, VC.fillL, VC.putL, VC.stW, VC.stOK, VC.mixF, VC.setAll, Nat.reduceAdd, Nat.reduceSub, Nat.reduceMul, if_true, if_false, ↓reduceIte, forall_const, implies_true, reduceCtorEq, ne_eq, Nat.reduceBNe, Nat.reduceBEq, IntKind.signed, Nat.reduceEqDiff, Nat.reduceLeDiff, Nat.reduceLT, eq_self, Int.reduceEq, Int.reduceLT, Int.reduceLE, Int.reduceAdd, Int.reduceSub, VC.regC_nil, VC.regC_cons, VC.regCK_eq, VC.callQ, VC.tailQ, VC.goCall, VC.chStep]
      refine ⟨by omega, ?_⟩
      intros
      exact hBx
    have f2 := eq_false q2
    have hok : badM x = false := by unfold badM; rw [hmx, decide_eq_false q1, decide_eq_false q2]; rfl
    rw [hok] at htk
    simp -dsimp (maxSteps := 2000000) only [Fa.F10, e7, rdI_of t0, t0, hb, f1, f2, Int.toNat_natCast, undef, tu, uf, ul, ur, VC.Now, VC.vc, VC.lib, VC.mapN_drewN, VC.mapB_drewN, VC.regQ, VC.loopK, VC.reg, VC.opP, VC.opS, VC.opZ, VC.nomulB, VC.pv, VC.thenF, VC.blkF, VC.retF, VC.resV, VC.oneV, VC.evo, VC.bin, VC.binI, VC.cmpI, VC.arithI, VC.ldv, VC.slv, VC.pickP, VC.holds, VC.chainOf, VC.look, VC.junk, VC.put, VC.eff, VC.callee, VC.pureB, VC.rdK, VC.rdKs, VC.okKs, VC.eqKs, VC.fillL, VC.putL, VC.stW, VC.stOK, VC.mixF, VC.setAll, Nat.reduceAdd, Nat.reduceSub, Nat.reduceMul, if_true, if_false, ↓reduceIte, forall_const, implies_true, reduceCtorEq, ne_eq, Nat.reduceBNe, Nat.reduceBEq, IntKind.signed, Nat.reduceEqDiff, Nat.reduceLeDiff, Nat.reduceLT, eq_self, Int.reduceEq, Int.reduceLT, Int.reduceLE, Int.reduceAdd, Int.reduceSub, VC.regC_nil, VC.regC_cons, VC.regCK_eq, VC.callQ, VC.tailQ, VC.goCall, VC.chStep]
    refine ⟨by omega, ?_⟩
    intros
    exact ⟨fits_i64_nat (by omega), SAME.intro (by kernel_rfl), m - 1, by omega, i + 1, by omega, rfl, hBx, htk⟩
  · obtain rfl : i = M.length := by omega
    have e7 : ((M.length : Int) < M.length) = False := eq_false (by omega)
    rw [List.take_length] at hno
    have hcode : ledCode M np = 0 := by unfold ledCode; rw [if_neg h1, if_neg (by rw [hno]; simp)]
    rw [hcode]
    simp -dsimp (maxSteps := 2000000) only [Fa.F10, e7, VC.Now, VC.vc, VC.lib, VC.mapN_drewN, VC.mapB_drewN, VC.regQ, VC.loopK, VC.reg, VC.opP, VC.opS, VC.opZ, VC.nomulB, VC.pv, VC.thenF, VC.blkF, VC.retF, VC.resV, VC.oneV, VC.evo, VC.bin, VC.binI, VC.cmpI, VC.arithI, VC.ldv, VC.slv, VC.pickP, VC.holds, VC.chainOf, VC.look, VC.junk, VC.put, VC.eff, VC.callee, VC.pureB, VC.rdK, VC.rdKs, VC.okKs, VC.eqKs, VC.fillL, VC.putL, VC.stW, VC.stOK, VC.mixF, VC.setAll, Nat.reduceAdd, Nat.reduceSub, Nat.reduceMul, if_true, if_false, ↓reduceIte, forall_const, implies_true, reduceCtorEq, ne_eq, Nat.reduceBNe, Nat.reduceBEq, IntKind.signed, Nat.reduceEqDiff, Nat.reduceLeDiff, Nat.reduceLT, eq_self, Int.reduceEq, Int.reduceLT, Int.reduceLE, Int.reduceAdd, Int.reduceSub, VC.regC_nil, VC.regC_cons, VC.regCK_eq, VC.callQ, VC.tailQ, VC.goCall, VC.chStep]
    exact hBx

set_option maxRecDepth 8000 in
set_option maxHeartbeats 8000000 in
theorem ledref_any (A : Option Addr) (M : List Int) (c : Nat) (C : Option Addr) (np cp : Nat) (f : Nat → PayC) (w : World) (hm : Rd w A (M.map (Value.int .i64))) (hp : RdT w C np 4 (fun i => payL (f i))) (hf : ∀ i, fits .i64 (f i).n) (h0 : ledCode M np = 0) :
    Calls Tryd.prog 11 #[.slice A M.length c, .slice C np cp] w fun e w' => ∃ A1 c1 C1 c2, e = .returned (.tuple #[.slice A1 M.length c1, .slice C1 np c2]) ∧
      LedQ M.length np (lst M.length (fun i => M.getD i 0) f np) ((List.range np).map (lcodes M.length (fun i => M.getD i 0) f)) A1 C1 w' ∧ Below w.heap.size w w' := by
  have hr : 0 < M.length ∧ M.length ≤ 12 ∧ np ≤ 60 ∧ M.any badM = false := by
    unfold ledCode at h0
    split at h0
    · cases h0
    · split at h0
      · cases h0
      · rename_i h1 h2
        refine ⟨by omega, by omega, by omega, by simpa using h2⟩
  obtain ⟨r1, r2, r3, r4⟩ := hr
  have hmx : maxV = 1099511627776 := rfl
  have hmok : ∀ i, 0 ≤ (fun i => M.getD i 0) i ∧ (fun i => M.getD i 0) i ≤ maxV := fun i => by
    show 0 ≤ M.getD i 0 ∧ M.getD i 0 ≤ maxV
    by_cases hi : i < M.length
    · have h3 := List.any_eq_false.1 r4 M[i] (List.getElem_mem hi)
      rw [List.getD_eq_getElem?_getD, List.getElem?_eq_getElem hi]
      simp only [badM, Bool.or_eq_true, decide_eq_true_eq, not_or] at h3
      show 0 ≤ M[i] ∧ M[i] ≤ maxV
      omega
    · rw [List.getD_eq_getElem?_getD, List.getElem?_eq_none (by omega)]
      exact ⟨Int.le_refl _, by decide⟩
  refine calls_vc (rs := [.tmp 4, .tmp 5]) Fa.mix Tryd.func11 rfl Tryd.ntmps11 rfl (by kernel_rfl) (Nat.le_of_ble_eq_true rfl) ?_
  simp -dsimp (maxSteps := 2000000) only [Fa.F11, VC.Now, VC.vc, VC.lib, VC.mapN_drewN, VC.mapB_drewN, VC.regQ, VC.loopK, VC.reg, VC.opP, VC.opS, VC.opZ, VC.nomulB, VC.pv, VC.thenF, VC.blkF, VC.retF, VC.resV, VC.oneV, VC.evo, VC.bin, VC.binI, VC.cmpI, VC.arithI, VC.ldv, VC.slv, VC.pickP, VC.holds, VC.chainOf, VC.look, VC.junk, VC.put, VC.eff, VC.callee, VC.pureB, VC.rdK, VC.rdKs, VC.okKs, VC.eqKs, VC.fillL, VC.putL, VC.stW, VC.stOK, VC.mixF, VC.setAll, Nat.reduceAdd, Nat.reduceSub, Nat.reduceMul, if_true, if_false, ↓reduceIte, forall_const, implies_true, reduceCtorEq, ne_eq, Nat.reduceBNe, Nat.reduceBEq, IntKind.signed, Nat.reduceEqDiff, Nat.reduceLeDiff, Nat.reduceLT, eq_self, Int.reduceEq, Int.reduceLT, Int.reduceLE, Int.reduceAdd, Int.reduceSub, VC.regC_nil, VC.regC_cons, VC.regCK_eq, VC.callQ, VC.tailQ, VC.goCall, VC.chStep]
  have hN : Hp w.heap.size [oOwn 55 2 0 nilS []] w := ((Hp.nil (B := w.heap.size) (Nat.le_refl _)).st_add (o := oOwn 55 2 0 nilS []) (Below.refl _ _) (OwnK.nil _ _ _ _) (fun g hg => by cases hg)).hp
  refine loop_slots Fa.mix [15, 6] [8, 16, 17, 18, 19, 20, 21, 22, 23, 24] (fun m vs wx => ∃ (i : Nat) (v : Value), i + m = M.length ∧ vs = [.int .i64 i, v] ∧ Below w.heap.size w wx ∧ Hp w.heap.size [oOwn 55 2 i v (accs M i)] wx) M.length (by kernel_rfl) rfl
    ⟨0, nilS, by omega, rfl, Below.refl _ _, hN⟩ ?_
  clear hN
  rintro m vs u2 wx ⟨i, v, him, rfl, hBx, hH⟩
  by_cases hi : i < M.length
  · have e7 : ((i : Int) < M.length) = True := eq_true (by omega)
    obtain ⟨b, o, rfl, hb, hc⟩ := (hm.below hBx) (by simp; omega)
    have t0 := hc i (by simpa using hi)
    rw [List.getElem?_map, List.getElem?_eq_getElem hi] at t0
    have hgd : M.getD i 0 = M[i] := by rw [List.getD_eq_getElem?_getD, List.getElem?_eq_getElem hi]; rfl
    simp only [Option.map_some] at t0
    rw [← hgd] at t0
    obtain ⟨Av, cv, ev, _⟩ := id (hH.get 0 rfl : OwnK wx 0 55 2 i v _)
    rw [ev]
    simp -dsimp (maxSteps := 2000000) only [Fa.F11, e7, rdI_of t0, t0, hb, Int.toNat_natCast, VC.Now, VC.vc, VC.lib, VC.mapN_drewN, VC.mapB_drewN, VC.regQ, VC.loopK, VC.reg, VC.opP, VC.opS, VC.opZ, VC.nomulB, VC.pv, VC.thenF, VC.blkF, VC.retF, VC.resV, VC.oneV, VC.evo, VC.bin, VC.binI, VC.cmpI, VC.arithI, VC.ldv, VC.slv, VC.pickP, VC.holds, VC.chainOf, VC.look, VC.junk, VC.put, VC.eff, VC.callee, VC.pureB, VC.rdK, VC.rdKs, VC.okKs, VC.eqKs, VC.fillL, VC.putL, VC.stW, VC.stOK, VC.mixF, VC.setAll, Nat.reduceAdd, Nat.reduceSub, Nat.reduceMul, if_true, if_false, ↓reduceIte, forall_const, implies_true, reduceCtorEq, ne_eq, Nat.reduceBNe, Nat.reduceBEq, IntKind.signed, Nat.reduceEqDiff, Nat.reduceLeDiff, Nat.reduceLT, eq_self, Int.reduceEq, Int.reduceLT, Int.reduceLE, Int.reduceAdd, Int.reduceSub, VC.regC_nil, VC.regC_cons, VC.regCK_eq, VC.callQ, VC.tailQ, VC.goCall, VC.chStep]
    refine ⟨by omega, ?_⟩
    rw [← ev]
    refine OPW_appK (v := v) rfl Fa.apI36 (by rw [ev]; rfl) rfl rfl (by simp [Value.oneCell']) (hH.get 0 rfl) (Nat.zero_le _) (by omega) (by decide) fun v5 w5 ho5 hg5 hst5 => ?_
    rw [← accs_succ] at ho5
    have st5 := hH.grown 0 rfl ho5 hg5 hst5
    obtain ⟨A5, c5, rfl, _⟩ := id ho5
    rw [VC.Now, VC.seqK_eq]
    simp -dsimp (maxSteps := 2000000) only [Fa.F11, VC.Now, VC.vc, VC.lib, VC.mapN_drewN, VC.mapB_drewN, VC.regQ, VC.loopK, VC.reg, VC.opP, VC.opS, VC.opZ, VC.nomulB, VC.pv, VC.thenF, VC.blkF, VC.retF, VC.resV, VC.oneV, VC.evo, VC.bin, VC.binI, VC.cmpI, VC.arithI, VC.ldv, VC.slv, VC.pickP, VC.holds, VC.chainOf, VC.look, VC.junk, VC.put, VC.eff, VC.callee, VC.pureB, VC.rdK, VC.rdKs, VC.okKs, VC.eqKs, VC.fillL, VC.putL, VC.stW, VC.stOK, VC.mixF, VC.setAll, Nat.reduceAdd, Nat.reduceSub, Nat.reduceMul, if_true, if_false, ↓reduceIte, forall_const, implies_true, reduceCtorEq, ne_eq, Nat.reduceBNe, Nat.reduceBEq, IntKind.signed, Nat.reduceEqDiff, Nat.reduceLeDiff, Nat.reduceLT, eq_self, Int.reduceEq, Int.reduceLT, Int.reduceLE, Int.reduceAdd, Int.reduceSub, VC.regC_nil, VC.regC_cons, VC.regCK_eq, VC.callQ, VC.tailQ, VC.goCall, VC.chStep]
    exact ⟨fits_i64_nat (by omega), SAME.intro (by kernel_rfl), m - 1, by omega, i + 1, .slice A5 (i + 1) c5, by omega, rfl, hBx.trans (st5.below hH), st5.hp⟩
  · obtain rfl : i = M.length := by omega
    have e7 : ((M.length : Int) < M.length) = False := eq_false (by omega)
    obtain ⟨g0, c0, rfl⟩ := own_some (hH.get 0 rfl : OwnK wx 0 55 2 M.length v _) r1
    have hR : Recs wx g0 M.length 2 (fun i => accL (lst M.length (fun i => M.getD i 0) f 0 i)) := Recs.of_own (hH.get 0 rfl : OwnK wx 0 55 2 M.length _ _) (hH.lt 0 rfl rfl).2 fun i hi j hj => accs_at hi hj
    have hH1 := hH.reword 0 rfl (o' := oRecs g0 M.length 2 (fun i => accL (lst M.length (fun i => M.getD i 0) f 0 i))) hR rfl
    have hH2 := (hH1.st_add (o := oOwn 25 1 0 nilS []) (Below.refl _ _) (OwnK.nil _ _ _ _) (fun g hg => by cases hg)).hp
    have hH3 : Hp w.heap.size ([oRecs g0 M.length 2 (fun i => accL (lst M.length (fun i => M.getD i 0) f 0 i))] ++ [oOwn 25 1 0 nilS []]) wx := hH2.pick [1, 0] (by decide) _ rfl
    clear hH2 hH1 hH hR
    simp -dsimp (maxSteps := 2000000) only [Fa.F11, e7, VC.Now, VC.vc, VC.lib, VC.mapN_drewN, VC.mapB_drewN, VC.regQ, VC.loopK, VC.reg, VC.opP, VC.opS, VC.opZ, VC.nomulB, VC.pv, VC.thenF, VC.blkF, VC.retF, VC.resV, VC.oneV, VC.evo, VC.bin, VC.binI, VC.cmpI, VC.arithI, VC.ldv, VC.slv, VC.pickP, VC.holds, VC.chainOf, VC.look, VC.junk, VC.put, VC.eff, VC.callee, VC.pureB, VC.rdK, VC.rdKs, VC.okKs, VC.eqKs, VC.fillL, VC.putL, VC.stW, VC.stOK, VC.mixF, VC.setAll, Nat.reduceAdd, Nat.reduceSub, Nat.reduceMul, if_true, if_false, ↓reduceIte, forall_const, implies_true, reduceCtorEq, ne_eq, Nat.reduceBNe, Nat.reduceBEq, IntKind.signed, Nat.reduceEqDiff, Nat.reduceLeDiff, Nat.reduceLT, eq_self, Int.reduceEq, Int.reduceLT, Int.reduceLE, Int.reduceAdd, Int.reduceSub, VC.regC_nil, VC.regC_cons, VC.regCK_eq, VC.callQ, VC.tailQ, VC.goCall, VC.chStep]
    refine loop_slots Fa.mix [27, 9] [11, 12, 28, 29, 30, 31, 32, 33, 34, 35, 36, 37, 38, 39, 40, 41, 42, 43, 44, 45, 46, 47, 48, 49, 50, 51, 52, 53, 54, 55, 56, 57, 58, 59, 60, 61, 62, 63, 64, 65, 66, 67, 68, 69, 70, 71, 72, 73, 74, 75, 76, 77, 78, 79, 80, 81, 82, 83, 84, 85, 86, 87, 88, 89, 90, 91, 92, 93, 94, 95, 96, 97, 98, 99, 100, 101, 102, 103, 104, 105, 106, 107, 108, 109, 110, 111, 112, 113, 114, 115, 116, 117, 118, 119, 120, 121, 122, 123, 124, 125, 126, 127, 128, 129, 130, 131, 132, 133, 134, 135, 136, 137] (fun m vs wx => ∃ (j : Nat) (vc : Value), j + m = np ∧ vs = [.int .i64 j, vc] ∧ Below w.heap.size w wx ∧
        Hp w.heap.size ([oRecs g0 M.length 2 (fun i => accL (lst M.length (fun i => M.getD i 0) f j i))] ++ [oOwn 25 1 j vc (lcodeL M.length (fun i => M.getD i 0) f j)]) wx) np (by kernel_rfl) rfl
      ⟨0, nilS, by omega, rfl, hBx, hH3⟩ ?_
    clear hH3 hBx
    rintro m2 vs u3 wx2 ⟨j, vc, hjm, rfl, hBx, hH⟩
    have hlk := lok (k := M.length) (m := fun i => M.getD i 0) (f := f) hmok j
    have hls := lcodeL_succ M.length (fun i => M.getD i 0) f j
    have hlst : lst M.length (fun i => M.getD i 0) f (j + 1) = lnext M.length (f j) (lst M.length (fun i => M.getD i 0) f j) := rfl
    generalize hle : lst M.length (fun i => M.getD i 0) f j = l at *
    obtain ⟨Ac, cc, rfl, _⟩ := id (hH.get 1 rfl : OwnK wx2 0 25 1 j vc _)
    by_cases hj : j < np
    · have e8 : ((j : Int) < np) = True := eq_true (by omega)
      obtain ⟨b, o, rfl, hb, hc⟩ := (hp.below hBx) (by omega)
      have s0 := hc j hj 0 _ rfl
      have s1 := hc j hj 1 _ rfl
      have s2 := hc j hj 2 _ rfl
      have s3 := hc j hj 3 _ rfl
      simp only [Nat.add_zero] at s0
      have hfj := hf j
      generalize hpj : f j = p at *
      obtain ⟨f1, f2, f3⟩ := boxSt wx2 [.int .i64 0, .int .i64 0, .int .i64 0, .int .i64 0] [.int .i64 p.fr, .int .i64 p.to, .int .i64 p.ser, .int .i64 p.n] 57 rfl (by intro v hv; simp at hv; rcases hv with rfl | rfl | rfl | rfl <;> rfl)
      (repeat rw [vc_seq]); refine vc_plain _ fun Q hQ => ?_; simp -dsimp (maxSteps := 2000000) only [Fa.F11, e8, VC.Now, VC.vc_skip, VC.vc_ret, VC.vc_exit, VC.vc_block, VC.vc_cond, VC.vc_region, VC.lib, VC.mapN_drewN, VC.mapB_drewN, VC.regQ, VC.loopK, VC.reg, VC.opP, VC.opS, VC.opZ, VC.nomulB, VC.pv, VC.thenF, VC.blkF, VC.retF, VC.resV, VC.oneV, VC.evo, VC.bin, VC.binI, VC.cmpI, VC.arithI, VC.ldv, VC.slv, VC.pickP, VC.holds, VC.chainOf, VC.look, VC.junk, VC.put, VC.eff, VC.callee, VC.pureB, VC.rdK, VC.rdKs, VC.okKs, VC.eqKs, VC.fillL, VC.putL, VC.stW, VC.stOK, VC.mixF, VC.setAll, Nat.reduceAdd, Nat.reduceSub, Nat.reduceMul, if_true, if_false, ↓reduceIte, forall_const, implies_true, reduceCtorEq, ne_eq, Nat.reduceBNe, Nat.reduceBEq, IntKind.signed, Nat.reduceEqDiff, Nat.reduceLeDiff, Nat.reduceLT, eq_self, Int.reduceEq, Int.reduceLT, Int.reduceLE, Int.reduceAdd, Int.reduceSub, VC.regC_nil, VC.regC_cons, VC.regCK_eq, VC.callQ, VC.tailQ, VC.goCall, VC.chStep]
      subst hQ; simp -dsimp (maxSteps := 2000000) only [VC.Now, VC.vc_skip, VC.vc_ret, VC.vc_exit, VC.vc_block, VC.vc_cond, VC.vc_region, VC.lib, VC.mapN_drewN, VC.mapB_drewN, VC.regQ, VC.loopK, VC.reg, VC.opP, VC.opS, VC.opZ, VC.nomulB, VC.pv, VC.thenF, VC.blkF, VC.retF, VC.resV, VC.oneV, VC.evo, VC.bin, VC.binI, VC.cmpI, VC.arithI, VC.ldv, VC.slv, VC.pickP, VC.holds, VC.chainOf, VC.look, VC.junk, VC.put, VC.eff, VC.callee, VC.pureB, VC.rdK, VC.rdKs, VC.okKs, VC.eqKs, VC.fillL, VC.putL, VC.stW, VC.stOK, VC.mixF, VC.setAll, Nat.reduceAdd, Nat.reduceSub, Nat.reduceMul, if_true, if_false, ↓reduceIte, forall_const, implies_true, reduceCtorEq, ne_eq, Nat.reduceBNe, Nat.reduceBEq, IntKind.signed, Nat.reduceEqDiff, Nat.reduceLeDiff, Nat.reduceLT, eq_self, Int.reduceEq, Int.reduceLT, Int.reduceLE, Int.reduceAdd, Int.reduceSub, VC.regC_nil, VC.regC_cons, VC.regCK_eq, VC.callQ, VC.tailQ, VC.goCall, VC.chStep]; (repeat rw [vc_seq]); refine vc_plain _ fun Q hQ => ?_; simp -dsimp (maxSteps := 2000000) only [Fa.F11, e8, VC.Now, VC.vc_skip, VC.vc_ret, VC.vc_exit, VC.vc_block, VC.vc_cond, VC.vc_region, VC.lib, VC.mapN_drewN, VC.mapB_drewN, VC.regQ, VC.loopK, VC.reg, VC.opP, VC.opS, VC.opZ, VC.nomulB, VC.pv, VC.thenF, VC.blkF, VC.retF, VC.resV, VC.oneV, VC.evo, VC.bin, VC.binI, VC.cmpI, VC.arithI, VC.ldv, VC.slv, VC.pickP, VC.holds, VC.chainOf, VC.look, VC.junk, VC.put, VC.eff, VC.callee, VC.pureB, VC.rdK, VC.rdKs, VC.okKs, VC.eqKs, VC.fillL, VC.putL, VC.stW, VC.stOK, VC.mixF, VC.setAll, Nat.reduceAdd, Nat.reduceSub, Nat.reduceMul, if_true, if_false, ↓reduceIte, forall_const, implies_true, reduceCtorEq, ne_eq, Nat.reduceBNe, Nat.reduceBEq, IntKind.signed, Nat.reduceEqDiff, Nat.reduceLeDiff, Nat.reduceLT, eq_self, Int.reduceEq, Int.reduceLT, Int.reduceLE, Int.reduceAdd, Int.reduceSub, VC.regC_nil, VC.regC_cons, VC.regCK_eq, VC.callQ, VC.tailQ, VC.goCall, VC.chStep]
      subst hQ
      simp -dsimp (maxSteps := 2000000) only [Fa.F11, VC.Now, VC.vc_skip, VC.vc_ret, VC.vc_exit, VC.vc_block, VC.vc_cond, VC.vc_region, VC.lib, VC.mapN_drewN, VC.mapB_drewN, VC.regQ, VC.loopK, VC.reg, VC.opP, VC.opS, VC.opZ, VC.nomulB, VC.pv, VC.thenF, VC.blkF, VC.retF, VC.resV, VC.oneV, VC.evo, VC.bin, VC.binI, VC.cmpI, VC.arithI, VC.ldv, VC.slv, VC.pickP, VC.holds, VC.chainOf, VC.look, VC.junk, VC.put, VC.eff, VC.callee, VC.pureB, VC.rdK, VC.rdKs, VC.okKs, VC.eqKs, VC.fillL, VC.putL, VC.stW, VC.stOK, VC.mixF, VC.setAll, Nat.reduceAdd, Nat.reduceSub, Nat.reduceMul, if_true, if_false, ↓reduceIte, forall_const, implies_true, reduceCtorEq, ne_eq, Nat.reduceBNe, Nat.reduceBEq, IntKind.signed, Nat.reduceEqDiff, Nat.reduceLeDiff, Nat.reduceLT, eq_self, Int.reduceEq, Int.reduceLT, Int.reduceLE, Int.reduceAdd, Int.reduceSub, VC.regC_nil, VC.regC_cons, VC.regCK_eq, VC.callQ, VC.tailQ, VC.goCall, VC.chStep]
      (repeat rw [vc_seq]); refine vc_plain _ fun Q hQ => ?_; simp -dsimp (maxSteps := 2000000) only [Fa.F11, VC.Now, VC.vc_skip, VC.vc_ret, VC.vc_exit, VC.vc_block, VC.vc_cond, VC.vc_region, VC.lib, VC.mapN_drewN, VC.mapB_drewN, VC.regQ, VC.loopK, VC.reg, VC.opP, VC.opS, VC.opZ, VC.nomulB, VC.pv, VC.thenF, VC.blkF, VC.retF, VC.resV, VC.oneV, VC.evo, VC.bin, VC.binI, VC.cmpI, VC.arithI, VC.ldv, VC.slv, VC.pickP, VC.holds, VC.chainOf, VC.look, VC.junk, VC.put, VC.eff, VC.callee, VC.pureB, VC.rdK, VC.rdKs, VC.okKs, VC.eqKs, VC.fillL, VC.putL, VC.stW, VC.stOK, VC.mixF, VC.setAll, Nat.reduceAdd, Nat.reduceSub, Nat.reduceMul, if_true, if_false, ↓reduceIte, forall_const, implies_true, reduceCtorEq, ne_eq, Nat.reduceBNe, Nat.reduceBEq, IntKind.signed, Nat.reduceEqDiff, Nat.reduceLeDiff, Nat.reduceLT, eq_self, Int.reduceEq, Int.reduceLT, Int.reduceLE, Int.reduceAdd, Int.reduceSub, VC.regC_nil, VC.regC_cons, VC.regCK_eq, VC.callQ, VC.tailQ, VC.goCall, VC.chStep]
      (repeat rw [vc_seq]); refine vc_plain _ fun Q2 hQ2 => ?_; simp -dsimp (maxSteps := 2000000) only [Fa.F11, rdI_of s0, s0, rdI_of s1, s1, rdI_of s2, s2, rdI_of s3, s3, hb, Int.toNat_natCast, VC.Now, VC.vc_skip, VC.vc_ret, VC.vc_exit, VC.vc_block, VC.vc_cond, VC.vc_region, VC.lib, VC.mapN_drewN, VC.mapB_drewN, VC.regQ, VC.loopK, VC.reg, VC.opP, VC.opS, VC.opZ, VC.nomulB, VC.pv, VC.thenF, VC.blkF, VC.retF, VC.resV, VC.oneV, VC.evo, VC.bin, VC.binI, VC.cmpI, VC.arithI, VC.ldv, VC.slv, VC.pickP, VC.holds, VC.chainOf, VC.look, VC.junk, VC.put, VC.eff, VC.callee, VC.pureB, VC.rdK, VC.rdKs, VC.okKs, VC.eqKs, VC.fillL, VC.putL, VC.mixF, VC.setAll, Nat.reduceAdd, Nat.reduceSub, Nat.reduceMul, if_true, if_false, ↓reduceIte, forall_const, implies_true, reduceCtorEq, ne_eq, Nat.reduceBNe, Nat.reduceBEq, IntKind.signed, Nat.reduceEqDiff, Nat.reduceLeDiff, Nat.reduceLT, eq_self, Int.reduceEq, Int.reduceLT, Int.reduceLE, Int.reduceAdd, Int.reduceSub, VC.regC_nil, VC.regC_cons, VC.regCK_eq, VC.callQ, VC.tailQ, VC.goCall, VC.chStep]
      refine ⟨by omega, f1, ?_⟩
      clear f1
      have hBy := hBx.trans (f3.mono hH.base)
      have hHy := hH.below f3
      have nsb : ¬ foot ([oRecs g0 M.length 2 (fun i => accL (l i))] ++ [oOwn 25 1 j (.slice Ac j cc) (lcodeL M.length (fun i => M.getD i 0) f j)]) wx2.heap.size := fun hf => absurd (hH.foot_lt hf).2 (Nat.lt_irrefl _)
      generalize stW (wx2.alloc (.cells #[.int .i64 0, .int .i64 0, .int .i64 0, .int .i64 0] 57)) ⟨wx2.heap.size, 0, none⟩ 0 [.int .i64 p.fr, .int .i64 p.to, .int .i64 p.ser, .int .i64 p.n] = wy at f2 hBy hHy ⊢
      clear f3 hBx hH
      generalize wx2.heap.size = sb at f2 nsb ⊢
      have z0 := f2.at (i := 0) rfl
      have z1 := f2.at (i := 1) rfl
      have z2 := f2.at (i := 2) rfl
      have z3 := f2.at (i := 3) rfl
      have hsl := f2.1
      subst hQ2; simp -dsimp (maxSteps := 2000000) only [VC.Now, VC.vc_skip, VC.vc_ret, VC.vc_exit, VC.vc_block, VC.vc_cond, VC.vc_region, VC.lib, VC.mapN_drewN, VC.mapB_drewN, VC.regQ, VC.loopK, VC.reg, VC.opP, VC.opS, VC.opZ, VC.nomulB, VC.pv, VC.thenF, VC.blkF, VC.retF, VC.resV, VC.oneV, VC.evo, VC.bin, VC.binI, VC.cmpI, VC.arithI, VC.ldv, VC.slv, VC.pickP, VC.holds, VC.chainOf, VC.look, VC.junk, VC.put, VC.eff, VC.callee, VC.pureB, VC.rdK, VC.rdKs, VC.okKs, VC.eqKs, VC.fillL, VC.putL, VC.stW, VC.stOK, VC.mixF, VC.setAll, Nat.reduceAdd, Nat.reduceSub, Nat.reduceMul, if_true, if_false, ↓reduceIte, forall_const, implies_true, reduceCtorEq, ne_eq, Nat.reduceBNe, Nat.reduceBEq, IntKind.signed, Nat.reduceEqDiff, Nat.reduceLeDiff, Nat.reduceLT, eq_self, Int.reduceEq, Int.reduceLT, Int.reduceLE, Int.reduceAdd, Int.reduceSub, VC.regC_nil, VC.regC_cons, VC.regCK_eq, VC.callQ, VC.tailQ, VC.goCall, VC.chStep]; (repeat rw [vc_seq]); refine vc_plain _ fun Q2 hQ2 => ?_; simp -dsimp (maxSteps := 2000000) only [Fa.F11, VC.Now, VC.vc_skip, VC.vc_ret, VC.vc_exit, VC.vc_block, VC.vc_cond, VC.vc_region, VC.lib, VC.mapN_drewN, VC.mapB_drewN, VC.regQ, VC.loopK, VC.reg, VC.opP, VC.opS, VC.opZ, VC.nomulB, VC.pv, VC.thenF, VC.blkF, VC.retF, VC.resV, VC.oneV, VC.evo, VC.bin, VC.binI, VC.cmpI, VC.arithI, VC.ldv, VC.slv, VC.pickP, VC.holds, VC.chainOf, VC.look, VC.junk, VC.put, VC.eff, VC.callee, VC.pureB, VC.rdK, VC.rdKs, VC.okKs, VC.eqKs, VC.fillL, VC.putL, VC.stW, VC.stOK, VC.mixF, VC.setAll, Nat.reduceAdd, Nat.reduceSub, Nat.reduceMul, if_true, if_false, ↓reduceIte, forall_const, implies_true, reduceCtorEq, ne_eq, Nat.reduceBNe, Nat.reduceBEq, IntKind.signed, Nat.reduceEqDiff, Nat.reduceLeDiff, Nat.reduceLT, eq_self, Int.reduceEq, Int.reduceLT, Int.reduceLE, Int.reduceAdd, Int.reduceSub, VC.regC_nil, VC.regC_cons, VC.regCK_eq, VC.callQ, VC.tailQ, VC.goCall, VC.chStep]
      subst hQ2
      simp -dsimp (maxSteps := 2000000) only [Fa.F11, VC.Now, VC.vc_skip, VC.vc_ret, VC.vc_exit, VC.vc_block, VC.vc_cond, VC.vc_region, VC.lib, VC.mapN_drewN, VC.mapB_drewN, VC.regQ, VC.loopK, VC.reg, VC.opP, VC.opS, VC.opZ, VC.nomulB, VC.pv, VC.thenF, VC.blkF, VC.retF, VC.resV, VC.oneV, VC.evo, VC.bin, VC.binI, VC.cmpI, VC.arithI, VC.ldv, VC.slv, VC.pickP, VC.holds, VC.chainOf, VC.look, VC.junk, VC.put, VC.eff, VC.callee, VC.pureB, VC.rdK, VC.rdKs, VC.okKs, VC.eqKs, VC.fillL, VC.putL, VC.stW, VC.stOK, VC.mixF, VC.setAll, Nat.reduceAdd, Nat.reduceSub, Nat.reduceMul, if_true, if_false, ↓reduceIte, forall_const, implies_true, reduceCtorEq, ne_eq, Nat.reduceBNe, Nat.reduceBEq, IntKind.signed, Nat.reduceEqDiff, Nat.reduceLeDiff, Nat.reduceLT, eq_self, Int.reduceEq, Int.reduceLT, Int.reduceLE, Int.reduceAdd, Int.reduceSub, VC.regC_nil, VC.regC_cons, VC.regCK_eq, VC.callQ, VC.tailQ, VC.goCall, VC.chStep]
      rw [vc_seq]
      refine vc_plain _ fun Q3 hQ3 => ?_
      have hJ : okJ ([12] ++ List.range' 31 102) [12] [31, 32, 33, 34, 35, 36, 37, 38, 39, 40, 41, 42, 43, 44, 45, 46, 47, 48, 49, 50, 51, 52, 53, 54, 55, 56, 57, 58, 59, 60, 61, 62, 63, 64, 65, 66, 67, 68, 69, 70, 71, 72, 73, 74, 75, 76, 77, 78, 79, 80, 81, 82, 83, 84, 85, 86, 87, 88, 89, 90, 91, 92, 93, 94, 95, 96, 97, 98, 99, 100, 101, 102, 103, 104, 105, 106, 107, 108, 109, 110, 111, 112, 113, 114, 115, 116, 117, 118, 119, 120, 121, 122, 123, 124, 125, 126, 127, 128, 129, 130, 131, 132] = true := by kernel_rfl
      refine vc_cut [12] [31, 32, 33, 34, 35, 36, 37, 38, 39, 40, 41, 42, 43, 44, 45, 46, 47, 48, 49, 50, 51, 52, 53, 54, 55, 56, 57, 58, 59, 60, 61, 62, 63, 64, 65, 66, 67, 68, 69, 70, 71, 72, 73, 74, 75, 76, 77, 78, 79, 80, 81, 82, 83, 84, 85, 86, 87, 88, 89, 90, 91, 92, 93, 94, 95, 96, 97, 98, 99, 100, 101, 102, 103, 104, 105, 106, 107, 108, 109, 110, 111, 112, 113, 114, 115, 116, 117, 118, 119, 120, 121, 122, 123, 124, 125, 126, 127, 128, 129, 130, 131, 132] (fun vs w' => vs = [.int .i64 (lcode M.length p l)] ∧ Below w.heap.size w w' ∧ Hp w.heap.size ([oRecs g0 M.length 2 (fun i => accL (lnext M.length p l i))] ++ [oOwn 25 1 j (.slice Ac j cc) (lcodeL M.length (fun i => M.getD i 0) f j)]) w') (fun vs u4 w4 hJ => ?rest) (fun hcut => ?main)
      case rest =>
        obtain ⟨rfl, hB4, hH4⟩ := hJ
        subst hQ3
        rw [mixF_walk]
        rotate_left
        · kernel_rfl
        simp -dsimp (maxSteps := 2000000) only [Fa.F11, walkJ, VC.Now, VC.vc, VC.lib, VC.mapN_drewN, VC.mapB_drewN, VC.regQ, VC.loopK, VC.reg, VC.opP, VC.opS, VC.opZ, VC.nomulB, VC.pv, VC.thenF, VC.blkF, VC.retF, VC.resV, VC.oneV, VC.evo, VC.bin, VC.binI, VC.cmpI, VC.arithI, VC.ldv, VC.slv, VC.pickP, VC.holds, VC.chainOf, VC.look, VC.junk, VC.put, VC.eff, VC.callee, VC.pureB, VC.rdK, VC.rdKs, VC.okKs, VC.eqKs, VC.fillL, VC.putL, VC.stW, VC.stOK, VC.mixF, VC.setAll, Nat.reduceAdd, Nat.reduceSub, Nat.reduceMul, if_true, if_false, ↓reduceIte, forall_const, implies_true, reduceCtorEq, ne_eq, Nat.reduceBNe, Nat.reduceBEq, IntKind.signed, Nat.reduceEqDiff, Nat.reduceLeDiff, Nat.reduceLT, eq_self, Int.reduceEq, Int.reduceLT, Int.reduceLE, Int.reduceAdd, Int.reduceSub, VC.regC_nil, VC.regC_cons, VC.regCK_eq, VC.callQ, VC.tailQ, VC.goCall, VC.chStep]
        refine OPW_appK (v := .slice Ac j cc) rfl Fa.apI37 rfl rfl rfl (by simp [Value.oneCell']) (hH4.get 1 rfl) (Nat.zero_le _) (by omega) (by decide) fun v6 w6 ho6 hg6 hst6 => ?_
        rw [← hls] at ho6
        have st6 := hH4.grown 1 rfl ho6 hg6 hst6
        obtain ⟨A6, c6, rfl, _⟩ := id ho6
        rw [VC.Now, VC.seqK_eq]
        simp -dsimp (maxSteps := 2000000) only [Fa.F11, VC.Now, VC.vc, VC.lib, VC.mapN_drewN, VC.mapB_drewN, VC.regQ, VC.loopK, VC.reg, VC.opP, VC.opS, VC.opZ, VC.nomulB, VC.pv, VC.thenF, VC.blkF, VC.retF, VC.resV, VC.oneV, VC.evo, VC.bin, VC.binI, VC.cmpI, VC.arithI, VC.ldv, VC.slv, VC.pickP, VC.holds, VC.chainOf, VC.look, VC.junk, VC.put, VC.eff, VC.callee, VC.pureB, VC.rdK, VC.rdKs, VC.okKs, VC.eqKs, VC.fillL, VC.putL, VC.stW, VC.stOK, VC.mixF, VC.setAll, Nat.reduceAdd, Nat.reduceSub, Nat.reduceMul, if_true, if_false, ↓reduceIte, forall_const, implies_true, reduceCtorEq, ne_eq, Nat.reduceBNe, Nat.reduceBEq, IntKind.signed, Nat.reduceEqDiff, Nat.reduceLeDiff, Nat.reduceLT, eq_self, Int.reduceEq, Int.reduceLT, Int.reduceLE, Int.reduceAdd, Int.reduceSub, VC.regC_nil, VC.regC_cons, VC.regCK_eq, VC.callQ, VC.tailQ, VC.goCall, VC.chStep]
        subst hQ
        simp -dsimp (maxSteps := 2000000) only [Fa.F11, VC.Now, VC.vc, VC.lib, VC.mapN_drewN, VC.mapB_drewN, VC.regQ, VC.loopK, VC.reg, VC.opP, VC.opS, VC.opZ, VC.nomulB, VC.pv, VC.thenF, VC.blkF, VC.retF, VC.resV, VC.oneV, VC.evo, VC.bin, VC.binI, VC.cmpI, VC.arithI, VC.ldv, VC.slv, VC.pickP, VC.holds, VC.chainOf, VC.look, VC.junk, VC.put, VC.eff, VC.callee, VC.pureB, VC.rdK, VC.rdKs, VC.okKs, VC.eqKs, VC.fillL, VC.putL, VC.stW, VC.stOK, VC.mixF, VC.setAll, Nat.reduceAdd, Nat.reduceSub, Nat.reduceMul, if_true, if_false, ↓reduceIte, forall_const, implies_true, reduceCtorEq, ne_eq, Nat.reduceBNe, Nat.reduceBEq, IntKind.signed, Nat.reduceEqDiff, Nat.reduceLeDiff, Nat.reduceLT, eq_self, Int.reduceEq, Int.reduceLT, Int.reduceLE, Int.reduceAdd, Int.reduceSub, VC.regC_nil, VC.regC_cons, VC.regCK_eq, VC.callQ, VC.tailQ, VC.goCall, VC.chStep]
        refine ⟨fits_i64_nat (by omega), SAME.intro (by kernel_rfl), m2 - 1, by omega, j + 1, .slice A6 (j + 1) c6, by omega, rfl, hB4.trans (st6.below hH4), ?_⟩
        rw [hlst]
        exact st6.hp
      rw [VC.Now]
      clear hQ3 hQ
      have hno : lcode M.length p l ≠ 0 → lnext M.length p l = l := lnext_bad
      by_cases q1 : p.fr < 0
      · have a1 := eq_true q1
        have hcd : lcode M.length p l = 2 := by unfold lcode; rw [if_pos (Or.inl (Or.inl q1))]
        simp -dsimp (maxSteps := 2000000) only [Fa.F11, rdI_of z0, z0, rdI_of z1, z1, rdI_of z3, z3, hsl, a1, undef, tu, uf, ul, ur, VC.Now, VC.vc, VC.lib, VC.mapN_drewN, VC.mapB_drewN, VC.regQ, VC.loopK, VC.reg, VC.opP, VC.opS, VC.opZ, VC.nomulB, VC.pv, VC.thenF, VC.blkF, VC.retF, VC.resV, VC.oneV, VC.evo, VC.bin, VC.binI, VC.cmpI, VC.arithI, VC.ldv, VC.slv, VC.pickP, VC.holds, VC.chainOf, VC.look, VC.junk, VC.put, VC.eff, VC.callee, VC.pureB, VC.rdK, VC.rdKs, VC.okKs, VC.eqKs, VC.fillL, VC.putL, VC.stW, VC.stOK, VC.mixF, VC.setAll, Nat.reduceAdd, Nat.reduceSub, Nat.reduceMul, if_true, if_false, ↓reduceIte, forall_const, implies_true, reduceCtorEq, ne_eq, Nat.reduceBNe, Nat.reduceBEq, IntKind.signed, Nat.reduceEqDiff, Nat.reduceLeDiff, Nat.reduceLT, eq_self, Int.reduceEq, Int.reduceLT, Int.reduceLE, Int.reduceAdd, Int.reduceSub, VC.regC_nil, VC.regC_cons, VC.regCK_eq, VC.callQ, VC.tailQ, VC.goCall, VC.chStep]
        intros
        exact hcut _ _ (SAME.walk hJ (by kernel_rfl)) ⟨by rw [hcd]; rfl, hBy, by rw [hno (by rw [hcd]; decide)]; exact hHy⟩
      have a1 := eq_false q1
      by_cases q2 : (M.length : Int) ≤ p.fr
      · have a2 := eq_true q2
        have hcd : lcode M.length p l = 2 := by unfold lcode; rw [if_pos (Or.inl (Or.inr q2))]
        simp -dsimp (maxSteps := 2000000) only [Fa.F11, rdI_of z0, z0, rdI_of z1, z1, rdI_of z3, z3, hsl, a1, a2, undef, tu, uf, ul, ur, VC.Now, VC.vc, VC.lib, VC.mapN_drewN, VC.mapB_drewN, VC.regQ, VC.loopK, VC.reg, VC.opP, VC.opS, VC.opZ, VC.nomulB, VC.pv, VC.thenF, VC.blkF, VC.retF, VC.resV, VC.oneV, VC.evo, VC.bin, VC.binI, VC.cmpI, VC.arithI, VC.ldv, VC.slv, VC.pickP, VC.holds, VC.chainOf, VC.look, VC.junk, VC.put, VC.eff, VC.callee, VC.pureB, VC.rdK, VC.rdKs, VC.okKs, VC.eqKs, VC.fillL, VC.putL, VC.stW, VC.stOK, VC.mixF, VC.setAll, Nat.reduceAdd, Nat.reduceSub, Nat.reduceMul, if_true, if_false, ↓reduceIte, forall_const, implies_true, reduceCtorEq, ne_eq, Nat.reduceBNe, Nat.reduceBEq, IntKind.signed, Nat.reduceEqDiff, Nat.reduceLeDiff, Nat.reduceLT, eq_self, Int.reduceEq, Int.reduceLT, Int.reduceLE, Int.reduceAdd, Int.reduceSub, VC.regC_nil, VC.regC_cons, VC.regCK_eq, VC.callQ, VC.tailQ, VC.goCall, VC.chStep]
        intros
        exact hcut _ _ (SAME.walk hJ (by kernel_rfl)) ⟨by rw [hcd]; rfl, hBy, by rw [hno (by rw [hcd]; decide)]; exact hHy⟩
      have a2 := eq_false q2
      by_cases q3 : p.to < 0
      · have a3 := eq_true q3
        have hcd : lcode M.length p l = 2 := by unfold lcode; rw [if_pos (Or.inr (Or.inl (Or.inl q3)))]
        simp -dsimp (maxSteps := 2000000) only [Fa.F11, rdI_of z0, z0, rdI_of z1, z1, rdI_of z3, z3, hsl, a1, a2, a3, undef, tu, uf, ul, ur, VC.Now, VC.vc, VC.lib, VC.mapN_drewN, VC.mapB_drewN, VC.regQ, VC.loopK, VC.reg, VC.opP, VC.opS, VC.opZ, VC.nomulB, VC.pv, VC.thenF, VC.blkF, VC.retF, VC.resV, VC.oneV, VC.evo, VC.bin, VC.binI, VC.cmpI, VC.arithI, VC.ldv, VC.slv, VC.pickP, VC.holds, VC.chainOf, VC.look, VC.junk, VC.put, VC.eff, VC.callee, VC.pureB, VC.rdK, VC.rdKs, VC.okKs, VC.eqKs, VC.fillL, VC.putL, VC.stW, VC.stOK, VC.mixF, VC.setAll, Nat.reduceAdd, Nat.reduceSub, Nat.reduceMul, if_true, if_false, ↓reduceIte, forall_const, implies_true, reduceCtorEq, ne_eq, Nat.reduceBNe, Nat.reduceBEq, IntKind.signed, Nat.reduceEqDiff, Nat.reduceLeDiff, Nat.reduceLT, eq_self, Int.reduceEq, Int.reduceLT, Int.reduceLE, Int.reduceAdd, Int.reduceSub, VC.regC_nil, VC.regC_cons, VC.regCK_eq, VC.callQ, VC.tailQ, VC.goCall, VC.chStep]
        intros
        exact hcut _ _ (SAME.walk hJ (by kernel_rfl)) ⟨by rw [hcd]; rfl, hBy, by rw [hno (by rw [hcd]; decide)]; exact hHy⟩
      have a3 := eq_false q3
      by_cases q4 : (M.length : Int) ≤ p.to
      · have a4 := eq_true q4
        have hcd : lcode M.length p l = 2 := by unfold lcode; rw [if_pos (Or.inr (Or.inl (Or.inr q4)))]
        simp -dsimp (maxSteps := 2000000) only [Fa.F11, rdI_of z0, z0, rdI_of z1, z1, rdI_of z3, z3, hsl, a1, a2, a3, a4, undef, tu, uf, ul, ur, VC.Now, VC.vc, VC.lib, VC.mapN_drewN, VC.mapB_drewN, VC.regQ, VC.loopK, VC.reg, VC.opP, VC.opS, VC.opZ, VC.nomulB, VC.pv, VC.thenF, VC.blkF, VC.retF, VC.resV, VC.oneV, VC.evo, VC.bin, VC.binI, VC.cmpI, VC.arithI, VC.ldv, VC.slv, VC.pickP, VC.holds, VC.chainOf, VC.look, VC.junk, VC.put, VC.eff, VC.callee, VC.pureB, VC.rdK, VC.rdKs, VC.okKs, VC.eqKs, VC.fillL, VC.putL, VC.stW, VC.stOK, VC.mixF, VC.setAll, Nat.reduceAdd, Nat.reduceSub, Nat.reduceMul, if_true, if_false, ↓reduceIte, forall_const, implies_true, reduceCtorEq, ne_eq, Nat.reduceBNe, Nat.reduceBEq, IntKind.signed, Nat.reduceEqDiff, Nat.reduceLeDiff, Nat.reduceLT, eq_self, Int.reduceEq, Int.reduceLT, Int.reduceLE, Int.reduceAdd, Int.reduceSub, VC.regC_nil, VC.regC_cons, VC.regCK_eq, VC.callQ, VC.tailQ, VC.goCall, VC.chStep]
        intros
        exact hcut _ _ (SAME.walk hJ (by kernel_rfl)) ⟨by rw [hcd]; rfl, hBy, by rw [hno (by rw [hcd]; decide)]; exact hHy⟩
      have a4 := eq_false q4
      by_cases q5 : p.n < 1
      · have a5 := eq_true q5
        have hcd : lcode M.length p l = 2 := by unfold lcode; rw [if_pos (Or.inr (Or.inr q5))]
        simp -dsimp (maxSteps := 2000000) only [Fa.F11, rdI_of z0, z0, rdI_of z1, z1, rdI_of z3, z3, hsl, a1, a2, a3, a4, a5, undef, tu, uf, ul, ur, VC.Now, VC.vc, VC.lib, VC.mapN_drewN, VC.mapB_drewN, VC.regQ, VC.loopK, VC.reg, VC.opP, VC.opS, VC.opZ, VC.nomulB, VC.pv, VC.thenF, VC.blkF, VC.retF, VC.resV, VC.oneV, VC.evo, VC.bin, VC.binI, VC.cmpI, VC.arithI, VC.ldv, VC.slv, VC.pickP, VC.holds, VC.chainOf, VC.look, VC.junk, VC.put, VC.eff, VC.callee, VC.pureB, VC.rdK, VC.rdKs, VC.okKs, VC.eqKs, VC.fillL, VC.putL, VC.stW, VC.stOK, VC.mixF, VC.setAll, Nat.reduceAdd, Nat.reduceSub, Nat.reduceMul, if_true, if_false, ↓reduceIte, forall_const, implies_true, reduceCtorEq, ne_eq, Nat.reduceBNe, Nat.reduceBEq, IntKind.signed, Nat.reduceEqDiff, Nat.reduceLeDiff, Nat.reduceLT, eq_self, Int.reduceEq, Int.reduceLT, Int.reduceLE, Int.reduceAdd, Int.reduceSub, VC.regC_nil, VC.regC_cons, VC.regCK_eq, VC.callQ, VC.tailQ, VC.goCall, VC.chStep]
        intros
        exact hcut _ _ (SAME.walk hJ (by kernel_rfl)) ⟨by rw [hcd]; rfl, hBy, by rw [hno (by rw [hcd]; decide)]; exact hHy⟩
      have a5 := eq_false q5
      obtain ⟨a, ha0⟩ : ∃ a : Nat, p.fr = a := ⟨p.fr.toNat, by omega⟩
      obtain ⟨b, hb0⟩ : ∃ b : Nat, p.to = b := ⟨p.to.toNat, by omega⟩
      have hak : a < M.length := by omega
      have hbk : b < M.length := by omega
      have hat : p.fr.toNat = a := by omega
      have hbt : p.to.toNat = b := by omega
      have hcl : lcode M.length p l = if p.ser ≠ (l a).s then 3 else if (l a).n < p.n then 5 else if p.fr ≠ p.to ∧ maxV - p.n < (l b).n then 7 else 0 := by
        unfold lcode; rw [if_neg (fun hh => by rcases hh with (hh | hh) | (hh | hh) | hh <;> omega), hat, hbt]
      rw [ha0] at z0 a1 a2
      rw [hb0] at z1 a3 a4
      have hR : Recs wy g0 M.length 2 (fun i => accL (l i)) := hHy.get 0 rfl
      have t0 := hR.at (i := a) (j := 0) hak (by omega) rfl
      have t1 := hR.at (i := a) (j := 1) hak (by omega) rfl
      have u0 := hR.at (i := b) (j := 0) hbk (by omega) rfl
      simp only [Nat.add_zero] at t0 u0
      have hgl := hR.1
      have hna := hlk.n a
      have hnb := hlk.n b
      have hsa := hlk.s a
      have hfn := of_fits_i64 hfj
      by_cases q6 : p.ser = (l a).s
      case neg =>
        have a6 := eq_false q6
        have hcd : lcode M.length p l = 3 := by rw [hcl, if_pos q6]
        simp -dsimp (maxSteps := 2000000) only [Fa.F11, rdI_of z0, z0, rdI_of z1, z1, rdI_of z2, z2, rdI_of z3, z3, hsl, rdI_of t0, t0, rdI_of t1, t1, rdI_of u0, u0, hgl, a1, a2, a3, a4, a5, a6, Int.toNat_natCast, Nat.zero_add, undef, tu, uf, ul, ur, VC.Now, VC.vc, VC.lib, VC.mapN_drewN, VC.mapB_drewN, VC.regQ, VC.loopK, VC.reg, VC.opP, VC.opS, VC.opZ, VC.nomulB, VC.pv, VC.thenF, VC.blkF, VC.retF, VC.resV, VC.oneV, VC.evo, VC.bin, VC.binI, VC.cmpI, VC.arithI, VC.ldv, VC.slv, VC.pickP, VC.holds, VC.chainOf, VC.look, VC.junk, VC.put, VC.eff, VC.callee, VC.pureB, VC.rdK, VC.rdKs, VC.okKs, VC.eqKs, VC.fillL, VC.putL, VC.stW, VC.stOK, VC.mixF, VC.setAll, Nat.reduceAdd, Nat.reduceSub, Nat.reduceMul, if_true, if_false, ↓reduceIte, forall_const, implies_true, reduceCtorEq, ne_eq, Nat.reduceBNe, Nat.reduceBEq, IntKind.signed, Nat.reduceEqDiff, Nat.reduceLeDiff, Nat.reduceLT, eq_self, Int.reduceEq, Int.reduceLT, Int.reduceLE, Int.reduceAdd, Int.reduceSub, VC.regC_nil, VC.regC_cons, VC.regCK_eq, VC.callQ, VC.tailQ, VC.goCall, VC.chStep]
        intro u5
        refine ⟨⟨by omega, by omega⟩, fun m5 => ?_⟩
        exact hcut _ _ (SAME.walk hJ (by kernel_rfl)) ⟨by rw [hcd]; rfl, below_drewN hBy _, by rw [hno (by rw [hcd]; decide)]; exact hHy.drewN _⟩
      have a6 := eq_true q6
      rw [if_neg (by simp [q6])] at hcl
      by_cases q7 : (l a).n < p.n
      · have a7 := eq_true q7
        have hcd : lcode M.length p l = 5 := by rw [hcl, if_pos q7]
        simp -dsimp (maxSteps := 2000000) only [Fa.F11, rdI_of z0, z0, rdI_of z1, z1, rdI_of z2, z2, rdI_of z3, z3, hsl, rdI_of t0, t0, rdI_of t1, t1, rdI_of u0, u0, hgl, a1, a2, a3, a4, a5, a6, a7, Int.toNat_natCast, Nat.zero_add, undef, tu, uf, ul, ur, VC.Now, VC.vc, VC.lib, VC.mapN_drewN, VC.mapB_drewN, VC.regQ, VC.loopK, VC.reg, VC.opP, VC.opS, VC.opZ, VC.nomulB, VC.pv, VC.thenF, VC.blkF, VC.retF, VC.resV, VC.oneV, VC.evo, VC.bin, VC.binI, VC.cmpI, VC.arithI, VC.ldv, VC.slv, VC.pickP, VC.holds, VC.chainOf, VC.look, VC.junk, VC.put, VC.eff, VC.callee, VC.pureB, VC.rdK, VC.rdKs, VC.okKs, VC.eqKs, VC.fillL, VC.putL, VC.stW, VC.stOK, VC.mixF, VC.setAll, Nat.reduceAdd, Nat.reduceSub, Nat.reduceMul, if_true, if_false, ↓reduceIte, forall_const, implies_true, reduceCtorEq, ne_eq, Nat.reduceBNe, Nat.reduceBEq, IntKind.signed, Nat.reduceEqDiff, Nat.reduceLeDiff, Nat.reduceLT, eq_self, Int.reduceEq, Int.reduceLT, Int.reduceLE, Int.reduceAdd, Int.reduceSub, VC.regC_nil, VC.regC_cons, VC.regCK_eq, VC.callQ, VC.tailQ, VC.goCall, VC.chStep]
        intro u5
        refine ⟨⟨by omega, by omega⟩, fun m5 => ⟨⟨by omega, by omega⟩, fun m6 => ?_⟩⟩
        exact hcut _ _ (SAME.walk hJ (by kernel_rfl)) ⟨by rw [hcd]; rfl, below_drewN hBy _, by rw [hno (by rw [hcd]; decide)]; exact hHy.drewN _⟩
      have a7 := eq_false q7
      rw [if_neg q7] at hcl
      by_cases q8 : p.fr ≠ p.to ∧ maxV - p.n < (l b).n
      · have hcd : lcode M.length p l = 7 := by rw [hcl, if_pos q8]
        have a8 : ((a : Int) = b) = False := eq_false (fun e => q8.1 (by rw [ha0, hb0, e]))
        have a9 : (1099511627776 - (l b).n < p.n) = True := eq_true (by have := q8.2; omega)
        simp -dsimp (maxSteps := 2000000) only [Fa.F11, rdI_of z0, z0, rdI_of z1, z1, rdI_of z2, z2, rdI_of z3, z3, hsl, rdI_of t0, t0, rdI_of t1, t1, rdI_of u0, u0, hgl, a1, a2, a3, a4, a5, a6, a7, a8, a9, Int.toNat_natCast, Nat.zero_add, undef, tu, uf, ul, ur, VC.Now, VC.vc, VC.lib, VC.mapN_drewN, VC.mapB_drewN, VC.regQ, VC.loopK, VC.reg, VC.opP, VC.opS, VC.opZ, VC.nomulB, VC.pv, VC.thenF, VC.blkF, VC.retF, VC.resV, VC.oneV, VC.evo, VC.bin, VC.binI, VC.cmpI, VC.arithI, VC.ldv, VC.slv, VC.pickP, VC.holds, VC.chainOf, VC.look, VC.junk, VC.put, VC.eff, VC.callee, VC.pureB, VC.rdK, VC.rdKs, VC.okKs, VC.eqKs, VC.fillL, VC.putL, VC.stW, VC.stOK, VC.mixF, VC.setAll, Nat.reduceAdd, Nat.reduceSub, Nat.reduceMul, if_true, if_false, ↓reduceIte, forall_const, implies_true, reduceCtorEq, ne_eq, Nat.reduceBNe, Nat.reduceBEq, IntKind.signed, Nat.reduceEqDiff, Nat.reduceLeDiff, Nat.reduceLT, eq_self, Int.reduceEq, Int.reduceLT, Int.reduceLE, Int.reduceAdd, Int.reduceSub, VC.regC_nil, VC.regC_cons, VC.regCK_eq, VC.callQ, VC.tailQ, VC.goCall, VC.chStep]
        intro u5
        refine ⟨⟨by omega, by omega⟩, fun m5 => ⟨⟨by omega, by omega⟩, fun m6 => ⟨⟨by omega, by omega⟩, fits_i64 (by omega) (by omega), fun u7 m7 => ?_⟩⟩⟩
        exact hcut _ _ (SAME.walk hJ (by kernel_rfl)) ⟨by rw [hcd]; rfl, below_drewN hBy _, by rw [hno (by rw [hcd]; decide)]; exact hHy.drewN _⟩
      have hcd : lcode M.length p l = 0 := by rw [hcl, if_neg q8]
      have hln : lnext M.length p l = lmove a b p.n l := by unfold lnext; rw [if_pos hcd, hat, hbt]
      rw [hcd, hln] at hcut
      by_cases hab : a = b
      · have a8 : ((a : Int) = b) = True := eq_true (by omega)
        simp -dsimp (maxSteps := 2000000) only [Fa.F11, rdI_of z0, z0, rdI_of z1, z1, rdI_of z2, z2, rdI_of z3, z3, hsl, rdI_of t0, t0, rdI_of t1, t1, rdI_of u0, u0, hgl, a1, a2, a3, a4, a5, a6, a7, a8, Int.toNat_natCast, Nat.zero_add, undef, tu, uf, ul, ur, VC.Now, VC.vc, VC.lib, VC.mapN_drewN, VC.mapB_drewN, VC.regQ, VC.loopK, VC.reg, VC.opP, VC.opS, VC.opZ, VC.nomulB, VC.pv, VC.thenF, VC.blkF, VC.retF, VC.resV, VC.oneV, VC.evo, VC.bin, VC.binI, VC.cmpI, VC.arithI, VC.ldv, VC.slv, VC.pickP, VC.holds, VC.chainOf, VC.look, VC.junk, VC.put, VC.eff, VC.callee, VC.pureB, VC.rdK, VC.rdKs, VC.okKs, VC.eqKs, VC.fillL, VC.putL, VC.stW, VC.stOK, VC.mixF, VC.setAll, Nat.reduceAdd, Nat.reduceSub, Nat.reduceMul, if_true, if_false, ↓reduceIte, forall_const, implies_true, reduceCtorEq, ne_eq, Nat.reduceBNe, Nat.reduceBEq, IntKind.signed, Nat.reduceEqDiff, Nat.reduceLeDiff, Nat.reduceLT, eq_self, Int.reduceEq, Int.reduceLT, Int.reduceLE, Int.reduceAdd, Int.reduceSub, VC.regC_nil, VC.regC_cons, VC.regCK_eq, VC.callQ, VC.tailQ, VC.goCall, VC.chStep]
        intro u5
        refine ⟨⟨by omega, by omega⟩, fun m5 => ⟨⟨by omega, by omega⟩, fun m6 u7 m7 => ?_⟩⟩
        have hM := hHy.drewN (m5 + m6 + m7)
        have f5 := f2.below (below_drewN (Below.refl _ _) (m5 + m6 + m7))
        have hBM := below_drewN hBy (m5 + m6 + m7)
        generalize wy.drewN (m5 + m6 + m7) = w5 at hM f5 hBM ⊢
        have hR5 : Recs w5 g0 M.length 2 (fun i => accL (l i)) := hM.get 0 rfl
        have t5 := hR5.at (i := a) (j := 0) hak (by omega) rfl
        have e5 := hR5.soft (i := a) (j := 0) hak (by omega)
        simp only [Nat.add_zero] at t5 e5
        have hg5 := hR5.1
        have y0 := f5.at (i := 0) rfl
        have y3 := f5.at (i := 3) rfl
        rw [ha0] at y0
        have hy5 := f5.1
        refine WP_held 14 (fun _ => False) (.take 0 (.take 1 (.take 2 (.take 3 (.take 4 (.take 5 (.take 6 (.take 7 (.take 8 (.take 9 (.take 10 (.take 11 (.one 12 (.take 13 (.one 14 .done))))))))))))))) Fa.mix (by kernel_rfl) rfl ?_
        simp -dsimp (maxSteps := 2000000) only [VC.heldF_done, VC.heldF_last, VC.planF_done, VC.planF_take, VC.planF_one, VC.planF_two, VC.planK_eq, VC.heldF_take, VC.heldF_one, VC.heldF_two, VC.heldF_twoL, VC.heldK_eq, VC.okRd, Fa.F11, rdI_of t5, t5, rdI_of y0, y0, rdI_of y3, y3, hg5, hy5, e5, Int.toNat_natCast, Nat.zero_add, VC.Now, VC.vc, VC.lib, VC.mapN_drewN, VC.mapB_drewN, VC.regQ, VC.loopK, VC.reg, VC.opP, VC.opS, VC.opZ, VC.nomulB, VC.pv, VC.thenF, VC.blkF, VC.retF, VC.resV, VC.oneV, VC.evo, VC.bin, VC.binI, VC.cmpI, VC.arithI, VC.ldv, VC.slv, VC.pickP, VC.holds, VC.chainOf, VC.look, VC.junk, VC.put, VC.eff, VC.callee, VC.pureB, VC.rdK, VC.rdKs, VC.okKs, VC.eqKs, VC.fillL, VC.putL, VC.stW, VC.stOK, VC.mixF, VC.setAll, Nat.reduceAdd, Nat.reduceSub, Nat.reduceMul, if_true, if_false, ↓reduceIte, forall_const, implies_true, reduceCtorEq, ne_eq, Nat.reduceBNe, Nat.reduceBEq, IntKind.signed, Nat.reduceEqDiff, Nat.reduceLeDiff, Nat.reduceLT, eq_self, Int.reduceEq, Int.reduceLT, Int.reduceLE, Int.reduceAdd, Int.reduceSub, VC.regC_nil, VC.regC_cons, VC.regCK_eq, VC.callQ, VC.tailQ, VC.goCall, VC.chStep]
        have ag5 : Agree (fun _ => False) w5 (w5.drewN 1) := Agree.of_below (below_drewN (Below.refl _ w5) 1)
        have st1 := (hM.drewN 1).setRec (en := accL) (P := l) 0 rfl (a := a) (j := 0) hak (by omega) rfl (v := .int .i64 ((l a).n - p.n)) (p := { l a with n := (l a).n - p.n }) rfl
        simp only [Nat.add_zero] at st1
        refine ⟨⟨by omega, by omega⟩, fits_i64 (by omega) (by omega), ⟨by omega, by omega⟩, ag5, ?_⟩
        have f6 := (f5.below (below_drewN (Below.refl _ _) 1)).agree st1.agree nsb
        have hB6 := (below_drewN hBM 1).trans (st1.below (hM.drewN 1))
        generalize (w5.drewN 1).setCell ⟨g0, a * 2, none⟩ (.int .i64 ((l a).n - p.n)) = w6 at st1 f6 hB6 ⊢
        clear hM f5 hBM t5 e5 hg5 y0 y3 hy5 ag5 hR5
        have hl1 : ∀ i, 0 ≤ (upd l a { l a with n := (l a).n - p.n } i).n ∧ (upd l a { l a with n := (l a).n - p.n } i).n ≤ maxV := fun i => updA (R := fun q => 0 ≤ q.n ∧ q.n ≤ maxV) hlk.n (by show 0 ≤ (l a).n - p.n ∧ (l a).n - p.n ≤ maxV; omega) i
        have hs1 : ∀ i, 0 ≤ (upd l a { l a with n := (l a).n - p.n } i).s ∧ (upd l a { l a with n := (l a).n - p.n } i).s ≤ j := fun i => updA (R := fun q => 0 ≤ q.s ∧ q.s ≤ j) (p := { l a with n := (l a).n - p.n }) hlk.s hsa i
        have hH6 : Hp w.heap.size ([oRecs g0 M.length 2 (fun i => accL ((upd l a { l a with n := (l a).n - p.n }) i))] ++ [oOwn 25 1 j (.slice Ac j cc) (lcodeL M.length (fun i => M.getD i 0) f j)]) w6 := st1.hp
        clear st1
        have hmv : lmove a b p.n l = upd (upd (upd l a { l a with n := (l a).n - p.n }) b { (upd l a { l a with n := (l a).n - p.n }) b with n := ((upd l a { l a with n := (l a).n - p.n }) b).n + p.n }) a { (upd (upd l a { l a with n := (l a).n - p.n }) b { (upd l a { l a with n := (l a).n - p.n }) b with n := ((upd l a { l a with n := (l a).n - p.n }) b).n + p.n }) a with s := ((upd (upd l a { l a with n := (l a).n - p.n }) b { (upd l a { l a with n := (l a).n - p.n }) b with n := ((upd l a { l a with n := (l a).n - p.n }) b).n + p.n }) a).s + 1 } := rfl
        rw [hmv] at hcut
        clear hmv
        generalize upd l a { l a with n := (l a).n - p.n } = l1 at hl1 hs1 hH6 hcut
        have hnb1 := hl1 b
        have hR6 : Recs w6 g0 M.length 2 (fun i => accL (l1 i)) := hH6.get 0 rfl
        have t6 := hR6.at (i := b) (j := 0) hbk (by omega) rfl
        have e6 := hR6.soft (i := b) (j := 0) hbk (by omega)
        simp only [Nat.add_zero] at t6 e6
        have hg6 := hR6.1
        have y1 := f6.at (i := 1) rfl
        have y3 := f6.at (i := 3) rfl
        rw [hb0] at y1
        have hy6 := f6.1
        refine WP_held 14 (fun _ => False) (.take 0 (.take 1 (.take 2 (.take 3 (.take 4 (.take 5 (.take 6 (.take 7 (.take 8 (.take 9 (.take 10 (.take 11 (.one 12 (.take 13 (.one 14 .done))))))))))))))) Fa.mix (by kernel_rfl) rfl ?_
        simp -dsimp (maxSteps := 2000000) only [VC.heldF_done, VC.heldF_last, VC.planF_done, VC.planF_take, VC.planF_one, VC.planF_two, VC.planK_eq, VC.heldF_take, VC.heldF_one, VC.heldF_two, VC.heldF_twoL, VC.heldK_eq, VC.okRd, Fa.F11, rdI_of t6, t6, rdI_of y1, y1, rdI_of y3, y3, hg6, hy6, e6, Int.toNat_natCast, Nat.zero_add, VC.Now, VC.vc, VC.lib, VC.mapN_drewN, VC.mapB_drewN, VC.regQ, VC.loopK, VC.reg, VC.opP, VC.opS, VC.opZ, VC.nomulB, VC.pv, VC.thenF, VC.blkF, VC.retF, VC.resV, VC.oneV, VC.evo, VC.bin, VC.binI, VC.cmpI, VC.arithI, VC.ldv, VC.slv, VC.pickP, VC.holds, VC.chainOf, VC.look, VC.junk, VC.put, VC.eff, VC.callee, VC.pureB, VC.rdK, VC.rdKs, VC.okKs, VC.eqKs, VC.fillL, VC.putL, VC.stW, VC.stOK, VC.mixF, VC.setAll, Nat.reduceAdd, Nat.reduceSub, Nat.reduceMul, if_true, if_false, ↓reduceIte, forall_const, implies_true, reduceCtorEq, ne_eq, Nat.reduceBNe, Nat.reduceBEq, IntKind.signed, Nat.reduceEqDiff, Nat.reduceLeDiff, Nat.reduceLT, eq_self, Int.reduceEq, Int.reduceLT, Int.reduceLE, Int.reduceAdd, Int.reduceSub, VC.regC_nil, VC.regC_cons, VC.regCK_eq, VC.callQ, VC.tailQ, VC.goCall, VC.chStep]
        have ag6 : Agree (fun _ => False) w6 (w6.drewN 1) := Agree.of_below (below_drewN (Below.refl _ w6) 1)
        have st2 := (hH6.drewN 1).setRec (en := accL) (P := l1) 0 rfl (a := b) (j := 0) hbk (by omega) rfl (v := .int .i64 ((l1 b).n + p.n)) (p := { l1 b with n := (l1 b).n + p.n }) rfl
        simp only [Nat.add_zero] at st2
        refine ⟨⟨by omega, by omega⟩, fits_i64 (by omega) (by omega), ⟨by omega, by omega⟩, ag6, ?_⟩
        have f7 := (f6.below (below_drewN (Below.refl _ _) 1)).agree st2.agree (fun hf => nsb (foot_congr (by rfl) hf))
        have hB7 := (below_drewN hB6 1).trans (st2.below (hH6.drewN 1))
        generalize (w6.drewN 1).setCell ⟨g0, b * 2, none⟩ (.int .i64 ((l1 b).n + p.n)) = w7 at st2 f7 hB7 ⊢
        have hs2 : ∀ i, 0 ≤ (upd l1 b { l1 b with n := (l1 b).n + p.n } i).s ∧ (upd l1 b { l1 b with n := (l1 b).n + p.n } i).s ≤ j := fun i => updA (R := fun q => 0 ≤ q.s ∧ q.s ≤ j) (p := { l1 b with n := (l1 b).n + p.n }) hs1 (hs1 b) i
        have hH7 : Hp w.heap.size ([oRecs g0 M.length 2 (fun i => accL ((upd l1 b { l1 b with n := (l1 b).n + p.n }) i))] ++ [oOwn 25 1 j (.slice Ac j cc) (lcodeL M.length (fun i => M.getD i 0) f j)]) w7 := st2.hp
        clear st2 hH6 hB6 f6 t6 e6 hg6 y1 y3 hy6 ag6 hR6
        generalize upd l1 b { l1 b with n := (l1 b).n + p.n } = l2 at hs2 hH7 hcut
        have hsa2 := hs2 a
        have hR7 : Recs w7 g0 M.length 2 (fun i => accL (l2 i)) := hH7.get 0 rfl
        have t7 := hR7.at (i := a) (j := 1) hak (by omega) rfl
        have e7' := hR7.soft (i := a) (j := 1) hak (by omega)
        have hg7 := hR7.1
        have y0 := f7.at (i := 0) rfl
        rw [ha0] at y0
        have hy7 := f7.1
        refine WP_held 12 (fun _ => False) (.take 0 (.take 1 (.take 2 (.take 3 (.take 4 (.take 5 (.take 6 (.take 7 (.take 8 (.take 9 (.one 10 (.take 11 (.one 12 .done))))))))))))) Fa.mix (by kernel_rfl) rfl ?_
        simp -dsimp (maxSteps := 2000000) only [VC.heldF_done, VC.heldF_last, VC.planF_done, VC.planF_take, VC.planF_one, VC.planF_two, VC.planK_eq, VC.heldF_take, VC.heldF_one, VC.heldF_two, VC.heldF_twoL, VC.heldK_eq, VC.okRd, Fa.F11, rdI_of t7, t7, rdI_of y0, y0, hg7, hy7, Int.toNat_natCast, Nat.zero_add, VC.Now, VC.vc, VC.lib, VC.mapN_drewN, VC.mapB_drewN, VC.regQ, VC.loopK, VC.reg, VC.opP, VC.opS, VC.opZ, VC.nomulB, VC.pv, VC.thenF, VC.blkF, VC.retF, VC.resV, VC.oneV, VC.evo, VC.bin, VC.binI, VC.cmpI, VC.arithI, VC.ldv, VC.slv, VC.pickP, VC.holds, VC.chainOf, VC.look, VC.junk, VC.put, VC.eff, VC.callee, VC.pureB, VC.rdK, VC.rdKs, VC.okKs, VC.eqKs, VC.fillL, VC.putL, VC.stW, VC.stOK, VC.mixF, VC.setAll, Nat.reduceAdd, Nat.reduceSub, Nat.reduceMul, if_true, if_false, ↓reduceIte, forall_const, implies_true, reduceCtorEq, ne_eq, Nat.reduceBNe, Nat.reduceBEq, IntKind.signed, Nat.reduceEqDiff, Nat.reduceLeDiff, Nat.reduceLT, eq_self, Int.reduceEq, Int.reduceLT, Int.reduceLE, Int.reduceAdd, Int.reduceSub, VC.regC_nil, VC.regC_cons, VC.regCK_eq, VC.callQ, VC.tailQ, VC.goCall, VC.chStep]
        have ag7 : Agree (fun _ => False) w7 (w7.drewN 1) := Agree.of_below (below_drewN (Below.refl _ w7) 1)
        have st3 := (hH7.drewN 1).setRec (en := accL) (P := l2) 0 rfl (a := a) (j := 1) hak (by omega) rfl (v := .int .i64 ((l2 a).s + 1)) (p := { l2 a with s := (l2 a).s + 1 }) rfl
        refine ⟨⟨by omega, by omega⟩, fits_i64 (by omega) (by omega), ⟨by omega, by omega⟩, ag7, e7', ?_⟩
        exact hcut _ _ (SAME.walk hJ (by kernel_rfl)) ⟨rfl, (below_drewN hB7 1).trans (st3.below (hH7.drewN 1)), st3.hp⟩
      · have a8 : ((a : Int) = b) = False := eq_false (by omega)
        have a9 : (1099511627776 - (l b).n < p.n) = False := eq_false (fun hh => q8 ⟨fun e => hab (by omega), by omega⟩)
        simp -dsimp (maxSteps := 2000000) only [Fa.F11, rdI_of z0, z0, rdI_of z1, z1, rdI_of z2, z2, rdI_of z3, z3, hsl, rdI_of t0, t0, rdI_of t1, t1, rdI_of u0, u0, hgl, a1, a2, a3, a4, a5, a6, a7, a8, a9, Int.toNat_natCast, Nat.zero_add, undef, tu, uf, ul, ur, VC.Now, VC.vc, VC.lib, VC.mapN_drewN, VC.mapB_drewN, VC.regQ, VC.loopK, VC.reg, VC.opP, VC.opS, VC.opZ, VC.nomulB, VC.pv, VC.thenF, VC.blkF, VC.retF, VC.resV, VC.oneV, VC.evo, VC.bin, VC.binI, VC.cmpI, VC.arithI, VC.ldv, VC.slv, VC.pickP, VC.holds, VC.chainOf, VC.look, VC.junk, VC.put, VC.eff, VC.callee, VC.pureB, VC.rdK, VC.rdKs, VC.okKs, VC.eqKs, VC.fillL, VC.putL, VC.stW, VC.stOK, VC.mixF, VC.setAll, Nat.reduceAdd, Nat.reduceSub, Nat.reduceMul, if_true, if_false, ↓reduceIte, forall_const, implies_true, reduceCtorEq, ne_eq, Nat.reduceBNe, Nat.reduceBEq, IntKind.signed, Nat.reduceEqDiff, Nat.reduceLeDiff, Nat.reduceLT, eq_self, Int.reduceEq, Int.reduceLT, Int.reduceLE, Int.reduceAdd, Int.reduceSub, VC.regC_nil, VC.regC_cons, VC.regCK_eq, VC.callQ, VC.tailQ, VC.goCall, VC.chStep]
        intro u5
        refine ⟨⟨by omega, by omega⟩, fun m5 => ⟨⟨by omega, by omega⟩, fun m6 => ⟨⟨by omega, by omega⟩, fits_i64 (by omega) (by omega), fun u7 m7 => ?_⟩⟩⟩
        have hM := hHy.drewN (m5 + m6 + m7)
        have f5 := f2.below (below_drewN (Below.refl _ _) (m5 + m6 + m7))
        have hBM := below_drewN hBy (m5 + m6 + m7)
        generalize wy.drewN (m5 + m6 + m7) = w5 at hM f5 hBM ⊢
        have hR5 : Recs w5 g0 M.length 2 (fun i => accL (l i)) := hM.get 0 rfl
        have t5 := hR5.at (i := a) (j := 0) hak (by omega) rfl
        have e5 := hR5.soft (i := a) (j := 0) hak (by omega)
        simp only [Nat.add_zero] at t5 e5
        have hg5 := hR5.1
        have y0 := f5.at (i := 0) rfl
        have y3 := f5.at (i := 3) rfl
        rw [ha0] at y0
        have hy5 := f5.1
        refine WP_held 14 (fun _ => False) (.take 0 (.take 1 (.take 2 (.take 3 (.take 4 (.take 5 (.take 6 (.take 7 (.take 8 (.take 9 (.take 10 (.take 11 (.one 12 (.take 13 (.one 14 .done))))))))))))))) Fa.mix (by kernel_rfl) rfl ?_
        simp -dsimp (maxSteps := 2000000) only [VC.heldF_done, VC.heldF_last, VC.planF_done, VC.planF_take, VC.planF_one, VC.planF_two, VC.planK_eq, VC.heldF_take, VC.heldF_one, VC.heldF_two, VC.heldF_twoL, VC.heldK_eq, VC.okRd, Fa.F11, rdI_of t5, t5, rdI_of y0, y0, rdI_of y3, y3, hg5, hy5, e5, Int.toNat_natCast, Nat.zero_add, VC.Now, VC.vc, VC.lib, VC.mapN_drewN, VC.mapB_drewN, VC.regQ, VC.loopK, VC.reg, VC.opP, VC.opS, VC.opZ, VC.nomulB, VC.pv, VC.thenF, VC.blkF, VC.retF, VC.resV, VC.oneV, VC.evo, VC.bin, VC.binI, VC.cmpI, VC.arithI, VC.ldv, VC.slv, VC.pickP, VC.holds, VC.chainOf, VC.look, VC.junk, VC.put, VC.eff, VC.callee, VC.pureB, VC.rdK, VC.rdKs, VC.okKs, VC.eqKs, VC.fillL, VC.putL, VC.stW, VC.stOK, VC.mixF, VC.setAll, Nat.reduceAdd, Nat.reduceSub, Nat.reduceMul, if_true, if_false, ↓reduceIte, forall_const, implies_true, reduceCtorEq, ne_eq, Nat.reduceBNe, Nat.reduceBEq, IntKind.signed, Nat.reduceEqDiff, Nat.reduceLeDiff, Nat.reduceLT, eq_self, Int.reduceEq, Int.reduceLT, Int.reduceLE, Int.reduceAdd, Int.reduceSub, VC.regC_nil, VC.regC_cons, VC.regCK_eq, VC.callQ, VC.tailQ, VC.goCall, VC.chStep]
        have ag5 : Agree (fun _ => False) w5 (w5.drewN 1) := Agree.of_below (below_drewN (Below.refl _ w5) 1)
        have st1 := (hM.drewN 1).setRec (en := accL) (P := l) 0 rfl (a := a) (j := 0) hak (by omega) rfl (v := .int .i64 ((l a).n - p.n)) (p := { l a with n := (l a).n - p.n }) rfl
        simp only [Nat.add_zero] at st1
        refine ⟨⟨by omega, by omega⟩, fits_i64 (by omega) (by omega), ⟨by omega, by omega⟩, ag5, ?_⟩
        have f6 := (f5.below (below_drewN (Below.refl _ _) 1)).agree st1.agree nsb
        have hB6 := (below_drewN hBM 1).trans (st1.below (hM.drewN 1))
        generalize (w5.drewN 1).setCell ⟨g0, a * 2, none⟩ (.int .i64 ((l a).n - p.n)) = w6 at st1 f6 hB6 ⊢
        clear hM f5 hBM t5 e5 hg5 y0 y3 hy5 ag5 hR5
        have hl1 : ∀ i, 0 ≤ (upd l a { l a with n := (l a).n - p.n } i).n ∧ (upd l a { l a with n := (l a).n - p.n } i).n ≤ maxV := fun i => updA (R := fun q => 0 ≤ q.n ∧ q.n ≤ maxV) hlk.n (by show 0 ≤ (l a).n - p.n ∧ (l a).n - p.n ≤ maxV; omega) i
        have hs1 : ∀ i, 0 ≤ (upd l a { l a with n := (l a).n - p.n } i).s ∧ (upd l a { l a with n := (l a).n - p.n } i).s ≤ j := fun i => updA (R := fun q => 0 ≤ q.s ∧ q.s ≤ j) (p := { l a with n := (l a).n - p.n }) hlk.s hsa i
        have hH6 : Hp w.heap.size ([oRecs g0 M.length 2 (fun i => accL ((upd l a { l a with n := (l a).n - p.n }) i))] ++ [oOwn 25 1 j (.slice Ac j cc) (lcodeL M.length (fun i => M.getD i 0) f j)]) w6 := st1.hp
        clear st1
        have hmv : lmove a b p.n l = upd (upd (upd l a { l a with n := (l a).n - p.n }) b { (upd l a { l a with n := (l a).n - p.n }) b with n := ((upd l a { l a with n := (l a).n - p.n }) b).n + p.n }) a { (upd (upd l a { l a with n := (l a).n - p.n }) b { (upd l a { l a with n := (l a).n - p.n }) b with n := ((upd l a { l a with n := (l a).n - p.n }) b).n + p.n }) a with s := ((upd (upd l a { l a with n := (l a).n - p.n }) b { (upd l a { l a with n := (l a).n - p.n }) b with n := ((upd l a { l a with n := (l a).n - p.n }) b).n + p.n }) a).s + 1 } := rfl
        rw [hmv] at hcut
        clear hmv
        generalize upd l a { l a with n := (l a).n - p.n } = l1 at hl1 hs1 hH6 hcut
        have hnb1 := hl1 b
        have hR6 : Recs w6 g0 M.length 2 (fun i => accL (l1 i)) := hH6.get 0 rfl
        have t6 := hR6.at (i := b) (j := 0) hbk (by omega) rfl
        have e6 := hR6.soft (i := b) (j := 0) hbk (by omega)
        simp only [Nat.add_zero] at t6 e6
        have hg6 := hR6.1
        have y1 := f6.at (i := 1) rfl
        have y3 := f6.at (i := 3) rfl
        rw [hb0] at y1
        have hy6 := f6.1
        refine WP_held 14 (fun _ => False) (.take 0 (.take 1 (.take 2 (.take 3 (.take 4 (.take 5 (.take 6 (.take 7 (.take 8 (.take 9 (.take 10 (.take 11 (.one 12 (.take 13 (.one 14 .done))))))))))))))) Fa.mix (by kernel_rfl) rfl ?_
        simp -dsimp (maxSteps := 2000000) only [VC.heldF_done, VC.heldF_last, VC.planF_done, VC.planF_take, VC.planF_one, VC.planF_two, VC.planK_eq, VC.heldF_take, VC.heldF_one, VC.heldF_two, VC.heldF_twoL, VC.heldK_eq, VC.okRd, Fa.F11, rdI_of t6, t6, rdI_of y1, y1, rdI_of y3, y3, hg6, hy6, e6, Int.toNat_natCast, Nat.zero_add, VC.Now, VC.vc, VC.lib, VC.mapN_drewN, VC.mapB_drewN, VC.regQ, VC.loopK, VC.reg, VC.opP, VC.opS, VC.opZ, VC.nomulB, VC.pv, VC.thenF, VC.blkF, VC.retF, VC.resV, VC.oneV, VC.evo, VC.bin, VC.binI, VC.cmpI, VC.arithI, VC.ldv, VC.slv, VC.pickP, VC.holds, VC.chainOf, VC.look, VC.junk, VC.put, VC.eff, VC.callee, VC.pureB, VC.rdK, VC.rdKs, VC.okKs, VC.eqKs, VC.fillL, VC.putL, VC.stW, VC.stOK, VC.mixF, VC.setAll, Nat.reduceAdd, Nat.reduceSub, Nat.reduceMul, if_true, if_false, ↓reduceIte, forall_const, implies_true, reduceCtorEq, ne_eq, Nat.reduceBNe, Nat.reduceBEq, IntKind.signed, Nat.reduceEqDiff, Nat.reduceLeDiff, Nat.reduceLT, eq_self, Int.reduceEq, Int.reduceLT, Int.reduceLE, Int.reduceAdd, Int.reduceSub, VC.regC_nil, VC.regC_cons, VC.regCK_eq, VC.callQ, VC.tailQ, VC.goCall, VC.chStep]
        have ag6 : Agree (fun _ => False) w6 (w6.drewN 1) := Agree.of_below (below_drewN (Below.refl _ w6) 1)
        have st2 := (hH6.drewN 1).setRec (en := accL) (P := l1) 0 rfl (a := b) (j := 0) hbk (by omega) rfl (v := .int .i64 ((l1 b).n + p.n)) (p := { l1 b with n := (l1 b).n + p.n }) rfl
        simp only [Nat.add_zero] at st2
        refine ⟨⟨by omega, by omega⟩, fits_i64 (by omega) (by omega), ⟨by omega, by omega⟩, ag6, ?_⟩
        have f7 := (f6.below (below_drewN (Below.refl _ _) 1)).agree st2.agree (fun hf => nsb (foot_congr (by rfl) hf))
        have hB7 := (below_drewN hB6 1).trans (st2.below (hH6.drewN 1))
        generalize (w6.drewN 1).setCell ⟨g0, b * 2, none⟩ (.int .i64 ((l1 b).n + p.n)) = w7 at st2 f7 hB7 ⊢
        have hs2 : ∀ i, 0 ≤ (upd l1 b { l1 b with n := (l1 b).n + p.n } i).s ∧ (upd l1 b { l1 b with n := (l1 b).n + p.n } i).s ≤ j := fun i => updA (R := fun q => 0 ≤ q.s ∧ q.s ≤ j) (p := { l1 b with n := (l1 b).n + p.n }) hs1 (hs1 b) i
        have hH7 : Hp w.heap.size ([oRecs g0 M.length 2 (fun i => accL ((upd l1 b { l1 b with n := (l1 b).n + p.n }) i))] ++ [oOwn 25 1 j (.slice Ac j cc) (lcodeL M.length (fun i => M.getD i 0) f j)]) w7 := st2.hp
        clear st2 hH6 hB6 f6 t6 e6 hg6 y1 y3 hy6 ag6 hR6
        generalize upd l1 b { l1 b with n := (l1 b).n + p.n } = l2 at hs2 hH7 hcut
        have hsa2 := hs2 a
        have hR7 : Recs w7 g0 M.length 2 (fun i => accL (l2 i)) := hH7.get 0 rfl
        have t7 := hR7.at (i := a) (j := 1) hak (by omega) rfl
        have e7' := hR7.soft (i := a) (j := 1) hak (by omega)
        have hg7 := hR7.1
        have y0 := f7.at (i := 0) rfl
        rw [ha0] at y0
        have hy7 := f7.1
        refine WP_held 12 (fun _ => False) (.take 0 (.take 1 (.take 2 (.take 3 (.take 4 (.take 5 (.take 6 (.take 7 (.take 8 (.take 9 (.one 10 (.take 11 (.one 12 .done))))))))))))) Fa.mix (by kernel_rfl) rfl ?_
        simp -dsimp (maxSteps := 2000000) only [VC.heldF_done, VC.heldF_last, VC.planF_done, VC.planF_take, VC.planF_one, VC.planF_two, VC.planK_eq, VC.heldF_take, VC.heldF_one, VC.heldF_two, VC.heldF_twoL, VC.heldK_eq, VC.okRd, Fa.F11, rdI_of t7, t7, rdI_of y0, y0, hg7, hy7, Int.toNat_natCast, Nat.zero_add, VC.Now, VC.vc, VC.lib, VC.mapN_drewN, VC.mapB_drewN, VC.regQ, VC.loopK, VC.reg, VC.opP, VC.opS, VC.opZ, VC.nomulB, VC.pv, VC.thenF, VC.blkF, VC.retF, VC.resV, VC.oneV, VC.evo, VC.bin, VC.binI, VC.cmpI, VC.arithI, VC.ldv, VC.slv, VC.pickP, VC.holds, VC.chainOf, VC.look, VC.junk, VC.put, VC.eff, VC.callee, VC.pureB, VC.rdK, VC.rdKs, VC.okKs, VC.eqKs, VC.fillL, VC.putL, VC.stW, VC.stOK, VC.mixF, VC.setAll, Nat.reduceAdd, Nat.reduceSub, Nat.reduceMul, if_true, if_false, ↓reduceIte, forall_const, implies_true, reduceCtorEq, ne_eq, Nat.reduceBNe, Nat.reduceBEq, IntKind.signed, Nat.reduceEqDiff, Nat.reduceLeDiff, Nat.reduceLT, eq_self, Int.reduceEq, Int.reduceLT, Int.reduceLE, Int.reduceAdd, Int.reduceSub, VC.regC_nil, VC.regC_cons, VC.regCK_eq, VC.callQ, VC.tailQ, VC.goCall, VC.chStep]
        have ag7 : Agree (fun _ => False) w7 (w7.drewN 1) := Agree.of_below (below_drewN (Below.refl _ w7) 1)
        have st3 := (hH7.drewN 1).setRec (en := accL) (P := l2) 0 rfl (a := a) (j := 1) hak (by omega) rfl (v := .int .i64 ((l2 a).s + 1)) (p := { l2 a with s := (l2 a).s + 1 }) rfl
        refine ⟨⟨by omega, by omega⟩, fits_i64 (by omega) (by omega), ⟨by omega, by omega⟩, ag7, e7', ?_⟩
        exact hcut _ _ (SAME.walk hJ (by kernel_rfl)) ⟨rfl, (below_drewN hB7 1).trans (st3.below (hH7.drewN 1)), st3.hp⟩
    · obtain rfl : j = np := by omega
      have e8 : ((j : Int) < j) = False := eq_false (by omega)
      simp -dsimp (maxSteps := 2000000) only [Fa.F11, e8, VC.Now, VC.vc, VC.lib, VC.mapN_drewN, VC.mapB_drewN, VC.regQ, VC.loopK, VC.reg, VC.opP, VC.opS, VC.opZ, VC.nomulB, VC.pv, VC.thenF, VC.blkF, VC.retF, VC.resV, VC.oneV, VC.evo, VC.bin, VC.binI, VC.cmpI, VC.arithI, VC.ldv, VC.slv, VC.pickP, VC.holds, VC.chainOf, VC.look, VC.junk, VC.put, VC.eff, VC.callee, VC.pureB, VC.rdK, VC.rdKs, VC.okKs, VC.eqKs, VC.fillL, VC.putL, VC.stW, VC.stOK, VC.mixF, VC.setAll, Nat.reduceAdd, Nat.reduceSub, Nat.reduceMul, if_true, if_false, ↓reduceIte, forall_const, implies_true, reduceCtorEq, ne_eq, Nat.reduceBNe, Nat.reduceBEq, IntKind.signed, Nat.reduceEqDiff, Nat.reduceLeDiff, Nat.reduceLT, eq_self, Int.reduceEq, Int.reduceLT, Int.reduceLE, Int.reduceAdd, Int.reduceSub, VC.regC_nil, VC.regC_cons, VC.regCK_eq, VC.callQ, VC.tailQ, VC.goCall, VC.chStep]
      have q1 := (hH.get 1 rfl : OwnK wx2 0 25 1 j (.slice Ac j cc) _)
      have e9 : lcodeL M.length (fun i => M.getD i 0) f j = ((List.range j).map (lcodes M.length (fun i => M.getD i 0) f)).map (Value.int .i64) := by unfold lcodeL; rw [List.map_map]; rfl
      rw [e9] at q1
      exact ⟨_, _, _, _, rfl, ⟨by rw [hle]; exact RdT.recs (hH.get 0 rfl : Recs wx2 g0 M.length 2 _) (fun _ _ => rfl), q1.rd.2, by simp⟩, hBx⟩
end Go.Proofs.YtelfmhiaafkimaaDoor
