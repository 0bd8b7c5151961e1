/- Transactions in an order: the program's whole search. -/
import Derived.Test.YtelfmhiaafkimaaOrd4
namespace Go.Proofs.Ytelfmhiaafkimaa
open Go Go.RowKit Go.VC
set_option linter.unusedSimpArgs false
set_option linter.unusedVariables false
set_option maxRecDepth 8000 in
set_option maxHeartbeats 8000000 in
theorem serial_any (A : Option Addr) (len c : Nat) (K T I : Nat → Int) (w : World) (hr : Rd3 w A len K T I) (hok : acCode K T I len = 0) (hc : len ≤ c) :
    Calls Try.prog 12 #[.slice A len c] w fun e w' => ∃ v b, e = .returned (.tuple #[v, .bool b, .int .i64 0]) ∧ OrdQ (orderL K T I len) v b w.heap.size w' ∧ Below w.heap.size w w' := by
  obtain ⟨hl, hall⟩ := acCode_ok hok
  have hT : ∀ j, j < len → 0 ≤ T j ∧ T j < 6 := fun j hj => by have := hall j hj; omega
  refine calls_vc (rs := [.tmp 2, .tmp 3, .tmp 4]) Fa.mix Try.func12 rfl Try.ntmps12 rfl (by kernel_rfl) (Nat.le_of_ble_eq_true rfl) ?_
  simp -dsimp (maxSteps := 2000000) only [Fa.F12, VC.Now, VC.vc, VC.lib, VC.mapN_drewN, VC.mapB_drewN, VC.regQ, VC.loopK, VC.reg, VC.opP, VC.opS, VC.opZ, VC.nomulB, VC.pv, VC.thenF, VC.blkF, VC.retF, VC.resV, VC.oneV, VC.evo, VC.bin, VC.binI, VC.cmpI, VC.arithI, VC.ldv, VC.slv, VC.pickP, VC.holds, VC.chainOf, VC.look, VC.junk, VC.put, VC.eff, VC.callee, VC.pureB, VC.rdK, VC.rdKs, VC.okKs, VC.eqKs, VC.fillL, VC.putL, VC.stW, VC.stOK, VC.mixF, VC.setAll, Nat.reduceAdd, Nat.reduceSub, Nat.reduceMul, if_true, if_false, ↓reduceIte, forall_const, implies_true, reduceCtorEq, ne_eq, Nat.reduceBNe, Nat.reduceBEq, IntKind.signed, Nat.reduceEqDiff, Nat.reduceLeDiff, Nat.reduceLT, eq_self, Int.reduceEq, Int.reduceLT, Int.reduceLE, Int.reduceAdd, Int.reduceSub, VC.regC_nil, VC.regC_cons, VC.regCK_eq, VC.callQ, VC.tailQ, VC.goCall, VC.chStep]
  refine CALL_of (serialCheck_any A len c K T I w hr) fun w1 hB1 => ?_
  rw [hok, VC.Now, VC.seqK_eq]
  simp -dsimp (maxSteps := 2000000) only [Fa.F12, VC.Now, VC.vc, VC.lib, VC.mapN_drewN, VC.mapB_drewN, VC.regQ, VC.loopK, VC.reg, VC.opP, VC.opS, VC.opZ, VC.nomulB, VC.pv, VC.thenF, VC.blkF, VC.retF, VC.resV, VC.oneV, VC.evo, VC.bin, VC.binI, VC.cmpI, VC.arithI, VC.ldv, VC.slv, VC.pickP, VC.holds, VC.chainOf, VC.look, VC.junk, VC.put, VC.eff, VC.callee, VC.pureB, VC.rdK, VC.rdKs, VC.okKs, VC.eqKs, VC.fillL, VC.putL, VC.stW, VC.stOK, VC.mixF, VC.setAll, Nat.reduceAdd, Nat.reduceSub, Nat.reduceMul, if_true, if_false, ↓reduceIte, forall_const, implies_true, reduceCtorEq, ne_eq, Nat.reduceBNe, Nat.reduceBEq, IntKind.signed, Nat.reduceEqDiff, Nat.reduceLeDiff, Nat.reduceLT, eq_self, Int.reduceEq, Int.reduceLT, Int.reduceLE, Int.reduceAdd, Int.reduceSub, VC.regC_nil, VC.regC_cons, VC.regCK_eq, VC.callQ, VC.tailQ, VC.goCall, VC.chStep]
  refine CALL_by (edges_any A len c K T I w1 (hr.below hB1) hl hT hc) ?_
  rintro _ w2 ⟨v, rfl, ⟨p, ib, cn, em, mb, rfl, hH, hp, he⟩, hB2⟩
  refine ⟨_, rfl, ?_⟩
  have hBB := hB1.trans (hB2.mono hB1.size)
  have hB0 := hB1.size
  generalize hbb : w1.heap.size = bb at hH hB0
  clear hB2 hB1 hbb
  have hcnt : cntP p = (allT T len).length := by rw [← cntP_all]; exact cntP_congr hp
  have hH1 := hH.free (M := [oOwn 3 1 0 (.slice none 0 0) []]) (fun o ho => by rw [List.mem_singleton.1 ho]; exact ⟨OwnK.nil _ _ _ _, rfl⟩)
  rw [VC.Now, VC.seqK_eq]
  simp -dsimp (maxSteps := 2000000) only [Fa.F12, VC.Now, VC.vc, VC.lib, VC.mapN_drewN, VC.mapB_drewN, VC.regQ, VC.loopK, VC.reg, VC.opP, VC.opS, VC.opZ, VC.nomulB, VC.pv, VC.thenF, VC.blkF, VC.retF, VC.resV, VC.oneV, VC.evo, VC.bin, VC.binI, VC.cmpI, VC.arithI, VC.ldv, VC.slv, VC.pickP, VC.holds, VC.chainOf, VC.look, VC.junk, VC.put, VC.eff, VC.callee, VC.pureB, VC.rdK, VC.rdKs, VC.okKs, VC.eqKs, VC.fillL, VC.putL, VC.stW, VC.stOK, VC.mixF, VC.setAll, Nat.reduceAdd, Nat.reduceSub, Nat.reduceMul, if_true, if_false, ↓reduceIte, forall_const, implies_true, reduceCtorEq, ne_eq, Nat.reduceBNe, Nat.reduceBEq, IntKind.signed, Nat.reduceEqDiff, Nat.reduceLeDiff, Nat.reduceLT, eq_self, Int.reduceEq, Int.reduceLT, Int.reduceLE, Int.reduceAdd, Int.reduceSub, VC.regC_nil, VC.regC_cons, VC.regCK_eq, VC.callQ, VC.tailQ, VC.goCall, VC.chStep]
  refine loop_slots Fa.mix [7] [2, 3, 4, 8, 9, 10, 12, 20, 21, 22, 23, 24, 25, 26, 27, 28, 29, 30, 31, 32, 33, 34, 35, 36, 37, 38, 39, 40, 41, 42, 43, 44, 45, 46, 47, 48, 49, 50, 51, 52, 53, 54, 55, 56, 57, 58] (fun m vs wx => ∃ (out : List Int) (vo : Value) (p : Nat → Bool) (cn : Nat → Nat) (em : Nat → Int → Option Value), vs = [vo] ∧ cntP p = m ∧ Below w.heap.size w wx ∧
      Hp bb (MObs p ib cn em mb ++ [oOwn 3 1 out.length vo (intsL out)]) wx ∧ (∀ t : Nat, t < 6 → p t = (presB T len t && !out.contains (t : Int))) ∧
      (∀ t : Nat, t < 6 → p t = true → ∀ u, em t u = oneO (edgeB K T I len t u && !out.contains u)) ∧ orderF K T I len m out = orderL K T I len ∧ out.length + m ≤ 6) (cntP p) (by kernel_rfl) rfl
    ⟨[], _, p, cn, em, rfl, rfl, hBB, hH1, fun t ht => by rw [hp t ht, show ([] : List Int).contains (t : Int) = false from rfl, Bool.not_false, Bool.and_true], fun t ht _ u => by rw [he t ht u, show ([] : List Int).contains u = false from rfl, Bool.not_false, Bool.and_true], by rw [hcnt]; rfl, by have := cntP_le p; simp; omega⟩ ?_
  clear hH hH1 hBB hcnt hp he
  rintro m vs u2 wx ⟨out, vo, p, cn, em, rfl, hcm, hBx, hH, hp, he, hord, hom⟩
  have hMo := MObs.out hH.left
  obtain ⟨l1, l2⟩ := hMo.lenB
  rw [hcm] at l2
  obtain ⟨Ao, co, eo, hro⟩ := ownRd (hH.get 7 rfl : OwnK _ 0 3 1 _ vo _)
  rw [List.length_map] at eo
  subst eo
  rcases m with _ | m
  · have e7 : (0 < ((0 : Nat) : Int)) = False := eq_false (by omega)
    have hor : orderL K T I len = some out := hord.symm
    simp -dsimp (maxSteps := 2000000) only [Fa.F12, l1, l2, e7, VC.Now, VC.vc, VC.lib, VC.mapN_drewN, VC.mapB_drewN, VC.regQ, VC.loopK, VC.reg, VC.opP, VC.opS, VC.opZ, VC.nomulB, VC.pv, VC.thenF, VC.blkF, VC.retF, VC.resV, VC.oneV, VC.evo, VC.bin, VC.binI, VC.cmpI, VC.arithI, VC.ldv, VC.slv, VC.pickP, VC.holds, VC.chainOf, VC.look, VC.junk, VC.put, VC.eff, VC.callee, VC.pureB, VC.rdK, VC.rdKs, VC.okKs, VC.eqKs, VC.fillL, VC.putL, VC.stW, VC.stOK, VC.mixF, VC.setAll, Nat.reduceAdd, Nat.reduceSub, Nat.reduceMul, if_true, if_false, ↓reduceIte, forall_const, implies_true, reduceCtorEq, ne_eq, Nat.reduceBNe, Nat.reduceBEq, IntKind.signed, Nat.reduceEqDiff, Nat.reduceLeDiff, Nat.reduceLT, eq_self, Int.reduceEq, Int.reduceLT, Int.reduceLE, Int.reduceAdd, Int.reduceSub, VC.regC_nil, VC.regC_cons, VC.regCK_eq, VC.callQ, VC.tailQ, VC.goCall, VC.chStep]
    rw [hor]
    exact ⟨_, _, rfl, ⟨rfl, Ao, co, rfl, hro, by omega⟩, hBx⟩
  have e7 : (0 < ((m + 1 : Nat) : Int)) = True := eq_true (by omega)
  clear hro
  simp -dsimp (maxSteps := 2000000) only [Fa.F12, l1, l2, e7, VC.Now, VC.vc, VC.lib, VC.mapN_drewN, VC.mapB_drewN, VC.regQ, VC.loopK, VC.reg, VC.opP, VC.opS, VC.opZ, VC.nomulB, VC.pv, VC.thenF, VC.blkF, VC.retF, VC.resV, VC.oneV, VC.evo, VC.bin, VC.binI, VC.cmpI, VC.arithI, VC.ldv, VC.slv, VC.pickP, VC.holds, VC.chainOf, VC.look, VC.junk, VC.put, VC.eff, VC.callee, VC.pureB, VC.rdK, VC.rdKs, VC.okKs, VC.eqKs, VC.fillL, VC.putL, VC.stW, VC.stOK, VC.mixF, VC.setAll, Nat.reduceAdd, Nat.reduceSub, Nat.reduceMul, if_true, if_false, ↓reduceIte, forall_const, implies_true, reduceCtorEq, ne_eq, Nat.reduceBNe, Nat.reduceBEq, IntKind.signed, Nat.reduceEqDiff, Nat.reduceLeDiff, Nat.reduceLT, eq_self, Int.reduceEq, Int.reduceLT, Int.reduceLE, Int.reduceAdd, Int.reduceSub, VC.regC_nil, VC.regC_cons, VC.regCK_eq, VC.callQ, VC.tailQ, VC.goCall, VC.chStep]
  refine OPW_rangeV hMo rfl (by kernel_rfl) rfl fun w3 hR hB3 hs3 => ?_
  rw [VC.Now, VC.seqK_eq]
  simp -dsimp (maxSteps := 2000000) only [Fa.F12, VC.Now, VC.vc, VC.lib, VC.mapN_drewN, VC.mapB_drewN, VC.regQ, VC.loopK, VC.reg, VC.opP, VC.opS, VC.opZ, VC.nomulB, VC.pv, VC.thenF, VC.blkF, VC.retF, VC.resV, VC.oneV, VC.evo, VC.bin, VC.binI, VC.cmpI, VC.arithI, VC.ldv, VC.slv, VC.pickP, VC.holds, VC.chainOf, VC.look, VC.junk, VC.put, VC.eff, VC.callee, VC.pureB, VC.rdK, VC.rdKs, VC.okKs, VC.eqKs, VC.fillL, VC.putL, VC.stW, VC.stOK, VC.mixF, VC.setAll, Nat.reduceAdd, Nat.reduceSub, Nat.reduceMul, if_true, if_false, ↓reduceIte, forall_const, implies_true, reduceCtorEq, ne_eq, Nat.reduceBNe, Nat.reduceBEq, IntKind.signed, Nat.reduceEqDiff, Nat.reduceLeDiff, Nat.reduceLT, eq_self, Int.reduceEq, Int.reduceLT, Int.reduceLE, Int.reduceAdd, Int.reduceSub, VC.regC_nil, VC.regC_cons, VC.regCK_eq, VC.callQ, VC.tailQ, VC.goCall, VC.chStep]
  have hbw := hH.base
  have hfr : ∀ g : Nat, foot (MObs p ib cn em mb ++ [oOwn 3 1 out.length (.slice Ao out.length co) (intsL out)]) g → g < wx.heap.size := fun g hg => (hH.foot_lt hg).2
  have hH3 := hH.below hB3
  have hBy := hBx.trans (hB3.mono (Nat.le_trans hB0 hbw))
  generalize wx.heap.size = rr at hR hfr hs3 hbw ⊢
  have hNX0 : NX K T I len out (fun x => (outM p ib x).isSome = true) (-1) := Or.inl ⟨rfl, fun t ht hn => by
    have hn : ¬ (outM p ib (t : Int)).isSome = true := hn
    rw [outM_at ht] at hn
    have hpf : p t = false := by
      cases hq : p t with
      | false => rfl
      | true => rw [hq] at hn; exact absurd rfl hn
    rw [hp t ht] at hpf
    unfold mayB
    rw [hpf, Bool.false_and]⟩
  refine loop_slots Fa.mix [8] [9, 10, 25, 26, 27, 28, 29, 30, 31, 32, 33, 34, 35, 36, 37, 38, 39, 40, 41, 42] (fun cnt vs wr => ∃ (left : Int → Prop) (nx : Int), vs = [.int .i64 nx] ∧ RangeV Try.prog EI wr mb rr (cntP p) (outM p ib) left cnt ∧ Below w.heap.size w wr ∧ Hp bb (MObs p ib cn em mb ++ [oOwn 3 1 out.length (.slice Ao out.length co) (intsL out)]) wr ∧ NX K T I len out left nx) (cntP p) (by kernel_rfl) rfl
    ⟨_, _, rfl, hR, hBy, hH3, hNX0⟩ ?_
  clear hH hBx hMo hR hB3 hH3 hBy hNX0 l1 l2 hs3
  rintro m2 vs u3 wr ⟨left, nx, rfl, hR, hBx, hH, hnx⟩
  simp -dsimp (maxSteps := 2000000) only [Fa.F12, VC.Now, VC.vc, VC.lib, VC.mapN_drewN, VC.mapB_drewN, VC.regQ, VC.loopK, VC.reg, VC.opP, VC.opS, VC.opZ, VC.nomulB, VC.pv, VC.thenF, VC.blkF, VC.retF, VC.resV, VC.oneV, VC.evo, VC.bin, VC.binI, VC.cmpI, VC.arithI, VC.ldv, VC.slv, VC.pickP, VC.holds, VC.chainOf, VC.look, VC.junk, VC.put, VC.eff, VC.callee, VC.pureB, VC.rdK, VC.rdKs, VC.okKs, VC.eqKs, VC.fillL, VC.putL, VC.stW, VC.stOK, VC.mixF, VC.setAll, Nat.reduceAdd, Nat.reduceSub, Nat.reduceMul, if_true, if_false, ↓reduceIte, forall_const, implies_true, reduceCtorEq, ne_eq, Nat.reduceBNe, Nat.reduceBEq, IntKind.signed, Nat.reduceEqDiff, Nat.reduceLeDiff, Nat.reduceLT, eq_self, Int.reduceEq, Int.reduceLT, Int.reduceLE, Int.reduceAdd, Int.reduceSub, VC.regC_nil, VC.regC_cons, VC.regCK_eq, VC.callQ, VC.tailQ, VC.goCall, VC.chStep]
  refine OPW_nextV hR rfl rfl (fun h0 hno => ?_) (fun x v w4 cnt' hx hlx hmx hR4 hlt hA4 hs4 hE => ?_)
  · have hnx2 := hnx.end' fun t ht => hno _ (EI_ok t ht)
    have hst : orderF K T I len (m + 1) out = if leastB (mayB K T I len out) 6 < 0 then none else orderF K T I len m (out ++ [leastB (mayB K T I len out) 6]) := rfl
    rw [hst, ← hnx2] at hord
    rw [VC.Now, VC.seqK_eq]
    by_cases hneg : nx < 0
    · have e8 := eq_true hneg
      rw [if_pos hneg] at hord
      simp -dsimp (maxSteps := 2000000) only [Fa.F12, e8, VC.Now, VC.vc, VC.lib, VC.mapN_drewN, VC.mapB_drewN, VC.regQ, VC.loopK, VC.reg, VC.opP, VC.opS, VC.opZ, VC.nomulB, VC.pv, VC.thenF, VC.blkF, VC.retF, VC.resV, VC.oneV, VC.evo, VC.bin, VC.binI, VC.cmpI, VC.arithI, VC.ldv, VC.slv, VC.pickP, VC.holds, VC.chainOf, VC.look, VC.junk, VC.put, VC.eff, VC.callee, VC.pureB, VC.rdK, VC.rdKs, VC.okKs, VC.eqKs, VC.fillL, VC.putL, VC.stW, VC.stOK, VC.mixF, VC.setAll, Nat.reduceAdd, Nat.reduceSub, Nat.reduceMul, if_true, if_false, ↓reduceIte, forall_const, implies_true, reduceCtorEq, ne_eq, Nat.reduceBNe, Nat.reduceBEq, IntKind.signed, Nat.reduceEqDiff, Nat.reduceLeDiff, Nat.reduceLT, eq_self, Int.reduceEq, Int.reduceLT, Int.reduceLE, Int.reduceAdd, Int.reduceSub, VC.regC_nil, VC.regC_cons, VC.regCK_eq, VC.callQ, VC.tailQ, VC.goCall, VC.chStep]
      rw [← hord]
      exact ⟨_, _, rfl, ⟨rfl, rfl⟩, hBx⟩
    have e8 := eq_false hneg
    rw [if_neg hneg] at hord
    rcases hnx with ⟨h1, _⟩ | ⟨t0, rfl, ht0, _, hmy, _⟩
    · omega
    have hpt : p t0 = true := by
      rw [hp t0 ht0]
      unfold mayB at hmy
      rw [Bool.and_eq_true] at hmy
      exact hmy.1
    simp -dsimp (maxSteps := 2000000) only [Fa.F12, e8, VC.Now, VC.vc, VC.lib, VC.mapN_drewN, VC.mapB_drewN, VC.regQ, VC.loopK, VC.reg, VC.opP, VC.opS, VC.opZ, VC.nomulB, VC.pv, VC.thenF, VC.blkF, VC.retF, VC.resV, VC.oneV, VC.evo, VC.bin, VC.binI, VC.cmpI, VC.arithI, VC.ldv, VC.slv, VC.pickP, VC.holds, VC.chainOf, VC.look, VC.junk, VC.put, VC.eff, VC.callee, VC.pureB, VC.rdK, VC.rdKs, VC.okKs, VC.eqKs, VC.fillL, VC.putL, VC.stW, VC.stOK, VC.mixF, VC.setAll, Nat.reduceAdd, Nat.reduceSub, Nat.reduceMul, if_true, if_false, ↓reduceIte, forall_const, implies_true, reduceCtorEq, ne_eq, Nat.reduceBNe, Nat.reduceBEq, IntKind.signed, Nat.reduceEqDiff, Nat.reduceLeDiff, Nat.reduceLT, eq_self, Int.reduceEq, Int.reduceLT, Int.reduceLE, Int.reduceAdd, Int.reduceSub, VC.regC_nil, VC.regC_cons, VC.regCK_eq, VC.callQ, VC.tailQ, VC.goCall, VC.chStep]
    refine OPW_appK rfl Fa.apI23 rfl rfl rfl (by simp [Value.oneCell']) (hH.get 7 rfl) (Nat.zero_le _) (by omega) (by decide) fun v5 w5 ho5 hg5 hst5 => ?_
    have hnl : intsL out ++ [.int .i64 (t0 : Int)] = intsL (out ++ [(t0 : Int)]) := by simp
    rw [hnl, show out.length + 1 = (out ++ [(t0 : Int)]).length by simp] at ho5
    have st5 := hH.grown 7 rfl ho5 hg5 hst5
    have hH5 : Hp bb (MObs p ib cn em mb ++ [oOwn 3 1 (out ++ [(t0 : Int)]).length v5 (intsL (out ++ [(t0 : Int)]))]) w5 := st5.hp
    have hB5 := hBx.trans ((st5.below hH).mono hB0)
    obtain ⟨A5, c5, rfl, _⟩ := id ho5
    rw [VC.Now, VC.seqK_eq]
    simp -dsimp (maxSteps := 2000000) only [Fa.F12, VC.Now, VC.vc, VC.lib, VC.mapN_drewN, VC.mapB_drewN, VC.regQ, VC.loopK, VC.reg, VC.opP, VC.opS, VC.opZ, VC.nomulB, VC.pv, VC.thenF, VC.blkF, VC.retF, VC.resV, VC.oneV, VC.evo, VC.bin, VC.binI, VC.cmpI, VC.arithI, VC.ldv, VC.slv, VC.pickP, VC.holds, VC.chainOf, VC.look, VC.junk, VC.put, VC.eff, VC.callee, VC.pureB, VC.rdK, VC.rdKs, VC.okKs, VC.eqKs, VC.fillL, VC.putL, VC.stW, VC.stOK, VC.mixF, VC.setAll, Nat.reduceAdd, Nat.reduceSub, Nat.reduceMul, if_true, if_false, ↓reduceIte, forall_const, implies_true, reduceCtorEq, ne_eq, Nat.reduceBNe, Nat.reduceBEq, IntKind.signed, Nat.reduceEqDiff, Nat.reduceLeDiff, Nat.reduceLT, eq_self, Int.reduceEq, Int.reduceLT, Int.reduceLE, Int.reduceAdd, Int.reduceSub, VC.regC_nil, VC.regC_cons, VC.regCK_eq, VC.callQ, VC.tailQ, VC.goCall, VC.chStep]
    refine OPW_delV (x := (t0 : Int)) (MObs.out hH5.left) rfl (by kernel_rfl) rfl rfl (EI_ok t0 ht0) fun w6 hM6 ht6 => ?_
    rw [outM_at ht0, if_pos hpt] at hM6
    have st6 := (MObs.less hH5.left ht0 hpt hM6 ht6).part hH5
    have hH6 := st6.hp
    have hB6 := hB5.trans ((st6.below hH5).mono hB0)
    have hcl := cntP_upd p ht0 false
    rw [hpt] at hcl
    have hcl : cntP (upd p t0 false) + 1 = cntP p := hcl
    rw [VC.Now, VC.seqK_eq]
    simp -dsimp (maxSteps := 2000000) only [Fa.F12, VC.Now, VC.vc, VC.lib, VC.mapN_drewN, VC.mapB_drewN, VC.regQ, VC.loopK, VC.reg, VC.opP, VC.opS, VC.opZ, VC.nomulB, VC.pv, VC.thenF, VC.blkF, VC.retF, VC.resV, VC.oneV, VC.evo, VC.bin, VC.binI, VC.cmpI, VC.arithI, VC.ldv, VC.slv, VC.pickP, VC.holds, VC.chainOf, VC.look, VC.junk, VC.put, VC.eff, VC.callee, VC.pureB, VC.rdK, VC.rdKs, VC.okKs, VC.eqKs, VC.fillL, VC.putL, VC.stW, VC.stOK, VC.mixF, VC.setAll, Nat.reduceAdd, Nat.reduceSub, Nat.reduceMul, if_true, if_false, ↓reduceIte, forall_const, implies_true, reduceCtorEq, ne_eq, Nat.reduceBNe, Nat.reduceBEq, IntKind.signed, Nat.reduceEqDiff, Nat.reduceLeDiff, Nat.reduceLT, eq_self, Int.reduceEq, Int.reduceLT, Int.reduceLE, Int.reduceAdd, Int.reduceSub, VC.regC_nil, VC.regC_cons, VC.regCK_eq, VC.callQ, VC.tailQ, VC.goCall, VC.chStep]
    refine OPW_rangeV (MObs.out hH6.left) rfl (by kernel_rfl) rfl fun w7 hR7 hB7 hs7 => ?_
    rw [VC.Now, VC.seqK_eq]
    simp -dsimp (maxSteps := 2000000) only [Fa.F12, VC.Now, VC.vc, VC.lib, VC.mapN_drewN, VC.mapB_drewN, VC.regQ, VC.loopK, VC.reg, VC.opP, VC.opS, VC.opZ, VC.nomulB, VC.pv, VC.thenF, VC.blkF, VC.retF, VC.resV, VC.oneV, VC.evo, VC.bin, VC.binI, VC.cmpI, VC.arithI, VC.ldv, VC.slv, VC.pickP, VC.holds, VC.chainOf, VC.look, VC.junk, VC.put, VC.eff, VC.callee, VC.pureB, VC.rdK, VC.rdKs, VC.okKs, VC.eqKs, VC.fillL, VC.putL, VC.stW, VC.stOK, VC.mixF, VC.setAll, Nat.reduceAdd, Nat.reduceSub, Nat.reduceMul, if_true, if_false, ↓reduceIte, forall_const, implies_true, reduceCtorEq, ne_eq, Nat.reduceBNe, Nat.reduceBEq, IntKind.signed, Nat.reduceEqDiff, Nat.reduceLeDiff, Nat.reduceLT, eq_self, Int.reduceEq, Int.reduceLT, Int.reduceLE, Int.reduceAdd, Int.reduceSub, VC.regC_nil, VC.regC_cons, VC.regCK_eq, VC.callQ, VC.tailQ, VC.goCall, VC.chStep]
    have hfr6 : ∀ g : Nat, foot (MObs (upd p t0 false) ib cn em mb ++ [oOwn 3 1 (out ++ [(t0 : Int)]).length (.slice A5 (out ++ [(t0 : Int)]).length c5) (intsL (out ++ [(t0 : Int)]))]) g → g < w6.heap.size := fun g hg => (hH6.foot_lt hg).2
    have hbw6 := hH6.base
    have hH7 := hH6.below hB7
    have hB8 := hB6.trans (hB7.mono (Nat.le_trans hB0 hbw6))
    clear hfr hR hH hH5 hH6 hBx hB5 hB6 st5 st6 ho5 hg5 hst5 hM6 ht6 hB7
    generalize w6.heap.size = r6 at hR7 hfr6 hbw6 hs7 ⊢
    have hp2 : ∀ t : Nat, t < 6 → upd p t0 false t = (presB T len t && !(out ++ [(t0 : Int)]).contains (t : Int)) := fun t ht => by
      rw [cont_snoc]
      by_cases e : t = t0
      · subst e; rw [upd_same, decide_eq_true rfl, Bool.or_true, Bool.not_true, Bool.and_false]
      · rw [upd_other e, hp t ht, decide_eq_false (by omega), Bool.or_false]
    have he2 : ∀ t : Nat, t < 6 → upd p t0 false t = true → ∀ u, em t u = oneO (edgeB K T I len t u && !out.contains u) := fun t ht h1 u => by
      by_cases e : t = t0
      · subst e; rw [upd_same] at h1; cases h1
      · rw [upd_other e] at h1; exact he t ht h1 u
    have hne : ∀ t : Nat, t < 6 → upd p t0 false t = true → ib t ≠ mb ∧ ib t < r6 := fun t ht h1 => by
      have g1 : (MObs (upd p t0 false) ib cn em mb ++ [oOwn 3 1 (out ++ [(t0 : Int)]).length (.slice A5 (out ++ [(t0 : Int)]).length c5) (intsL (out ++ [(t0 : Int)]))])[1 + t]? = some (oMap EI (ib t) (cn t) (em t)) := by
        rw [List.getElem?_append_left (by simp; omega)]
        have := fam_at (L := [oMap EI mb (cntP (upd p t0 false)) (outM (upd p t0 false) ib)]) (N := 6) (F := eO (upd p t0 false) ib cn em) (R := []) ht
        rw [eO_on h1] at this
        exact this
      exact ⟨fun e => hH7.ne 0 (1 + t) (by omega) rfl g1 mb rfl (by rw [← e]; rfl), hfr6 _ (foot_at g1 rfl)⟩
    have hmr : mb < r6 := hfr6 mb (foot_at (i := 0) rfl rfl)
    refine loop_slots Fa.mix [] [12, 53, 54, 55, 56, 57, 58] (fun cnt vs wr => ∃ (left : Int → Prop) (cn2 : Nat → Nat) (em2 : Nat → Int → Option Value), vs = [] ∧ RangeV Try.prog EI wr mb r6 (cntP (upd p t0 false)) (outM (upd p t0 false) ib) left cnt ∧ Below w.heap.size w wr ∧
        Hp bb (MObs (upd p t0 false) ib cn2 em2 mb ++ [oOwn 3 1 (out ++ [(t0 : Int)]).length (.slice A5 (out ++ [(t0 : Int)]).length c5) (intsL (out ++ [(t0 : Int)]))]) wr ∧
        ∀ t : Nat, t < 6 → upd p t0 false t = true → (left t → ∀ u, em2 t u = oneO (edgeB K T I len t u && !out.contains u)) ∧ (¬ left t → ∀ u, em2 t u = oneO (edgeB K T I len t u && !(out ++ [(t0 : Int)]).contains u))) (cntP (upd p t0 false)) (by kernel_rfl) rfl
      ⟨_, cn, em, rfl, hR7, hB8, hH7, fun t ht h1 => ⟨fun _ => he2 t ht h1, fun hn => absurd (by show (outM (upd p t0 false) ib (t : Int)).isSome = true; rw [outM_at ht, if_pos h1]; rfl) hn⟩⟩ ?_
    clear hR7 hH7 hB8
    rintro m3 vs u4 wr ⟨left, cn2, em2, rfl, hR, hBx, hH, he3⟩
    simp -dsimp (maxSteps := 2000000) only [Fa.F12, VC.Now, VC.vc, VC.lib, VC.mapN_drewN, VC.mapB_drewN, VC.regQ, VC.loopK, VC.reg, VC.opP, VC.opS, VC.opZ, VC.nomulB, VC.pv, VC.thenF, VC.blkF, VC.retF, VC.resV, VC.oneV, VC.evo, VC.bin, VC.binI, VC.cmpI, VC.arithI, VC.ldv, VC.slv, VC.pickP, VC.holds, VC.chainOf, VC.look, VC.junk, VC.put, VC.eff, VC.callee, VC.pureB, VC.rdK, VC.rdKs, VC.okKs, VC.eqKs, VC.fillL, VC.putL, VC.stW, VC.stOK, VC.mixF, VC.setAll, Nat.reduceAdd, Nat.reduceSub, Nat.reduceMul, if_true, if_false, ↓reduceIte, forall_const, implies_true, reduceCtorEq, ne_eq, Nat.reduceBNe, Nat.reduceBEq, IntKind.signed, Nat.reduceEqDiff, Nat.reduceLeDiff, Nat.reduceLT, eq_self, Int.reduceEq, Int.reduceLT, Int.reduceLE, Int.reduceAdd, Int.reduceSub, VC.regC_nil, VC.regC_cons, VC.regCK_eq, VC.callQ, VC.tailQ, VC.goCall, VC.chStep]
    refine OPW_nextV hR rfl rfl (fun h0 hno => ?_) (fun x v w4 cnt' hx hlx hmx hR4 hlt hA4 hs4 hE => ?_)
    · rw [VC.Now, VC.seqK_eq]
      simp -dsimp (maxSteps := 2000000) only [Fa.F12, VC.Now, VC.vc, VC.lib, VC.mapN_drewN, VC.mapB_drewN, VC.regQ, VC.loopK, VC.reg, VC.opP, VC.opS, VC.opZ, VC.nomulB, VC.pv, VC.thenF, VC.blkF, VC.retF, VC.resV, VC.oneV, VC.evo, VC.bin, VC.binI, VC.cmpI, VC.arithI, VC.ldv, VC.slv, VC.pickP, VC.holds, VC.chainOf, VC.look, VC.junk, VC.put, VC.eff, VC.callee, VC.pureB, VC.rdK, VC.rdKs, VC.okKs, VC.eqKs, VC.fillL, VC.putL, VC.stW, VC.stOK, VC.mixF, VC.setAll, Nat.reduceAdd, Nat.reduceSub, Nat.reduceMul, if_true, if_false, ↓reduceIte, forall_const, implies_true, reduceCtorEq, ne_eq, Nat.reduceBNe, Nat.reduceBEq, IntKind.signed, Nat.reduceEqDiff, Nat.reduceLeDiff, Nat.reduceLT, eq_self, Int.reduceEq, Int.reduceLT, Int.reduceLE, Int.reduceAdd, Int.reduceSub, VC.regC_nil, VC.regC_cons, VC.regCK_eq, VC.callQ, VC.tailQ, VC.goCall, VC.chStep]
      exact ⟨SAME.intro (by kernel_rfl), m, by omega, out ++ [(t0 : Int)], _, upd p t0 false, cn2, em2, rfl, by omega, hBx, hH, hp2, fun t ht h1 => (he3 t ht h1).2 (hno _ (EI_ok t ht)), hord, by simp; omega⟩
    · obtain ⟨t, rfl, ht, h1, rfl⟩ : ∃ t : Nat, x = t ∧ t < 6 ∧ upd p t0 false t = true ∧ v = .map (some (ib t)) := by
        unfold outM at hmx
        split at hmx
        · rename_i h
          refine ⟨x.toNat, by omega, by omega, h.2, ?_⟩
          cases hmx; rfl
        · cases hmx
      have hH4 := hH.agree hA4 (fun g hg e => by have := hfr6 g (foot_congr (L := MObs (upd p t0 false) ib cn2 em2 mb ++ [oOwn 3 1 (out ++ [(t0 : Int)]).length (.slice A5 (out ++ [(t0 : Int)]).length c5) (intsL (out ++ [(t0 : Int)]))]) (by simp [eO]; intro a _; split <;> rfl) hg); omega)
      have hB4 := hA4.to_below hBx (Nat.le_trans hB0 hH.base) fun i hi => by omega
      rw [VC.Now, VC.seqK_eq]
      simp -dsimp (maxSteps := 2000000) only [Fa.F12, VC.Now, VC.vc, VC.lib, VC.mapN_drewN, VC.mapB_drewN, VC.regQ, VC.loopK, VC.reg, VC.opP, VC.opS, VC.opZ, VC.nomulB, VC.pv, VC.thenF, VC.blkF, VC.retF, VC.resV, VC.oneV, VC.evo, VC.bin, VC.binI, VC.cmpI, VC.arithI, VC.ldv, VC.slv, VC.pickP, VC.holds, VC.chainOf, VC.look, VC.junk, VC.put, VC.eff, VC.callee, VC.pureB, VC.rdK, VC.rdKs, VC.okKs, VC.eqKs, VC.fillL, VC.putL, VC.stW, VC.stOK, VC.mixF, VC.setAll, Nat.reduceAdd, Nat.reduceSub, Nat.reduceMul, if_true, if_false, ↓reduceIte, forall_const, implies_true, reduceCtorEq, ne_eq, Nat.reduceBNe, Nat.reduceBEq, IntKind.signed, Nat.reduceEqDiff, Nat.reduceLeDiff, Nat.reduceLT, eq_self, Int.reduceEq, Int.reduceLT, Int.reduceLE, Int.reduceAdd, Int.reduceSub, VC.regC_nil, VC.regC_cons, VC.regCK_eq, VC.callQ, VC.tailQ, VC.goCall, VC.chStep]
      refine OPW_entryV hE rfl rfl ?_
      rw [VC.Now, VC.seqK_eq]
      simp -dsimp (maxSteps := 2000000) only [Fa.F12, VC.Now, VC.vc, VC.lib, VC.mapN_drewN, VC.mapB_drewN, VC.regQ, VC.loopK, VC.reg, VC.opP, VC.opS, VC.opZ, VC.nomulB, VC.pv, VC.thenF, VC.blkF, VC.retF, VC.resV, VC.oneV, VC.evo, VC.bin, VC.binI, VC.cmpI, VC.arithI, VC.ldv, VC.slv, VC.pickP, VC.holds, VC.chainOf, VC.look, VC.junk, VC.put, VC.eff, VC.callee, VC.pureB, VC.rdK, VC.rdKs, VC.okKs, VC.eqKs, VC.fillL, VC.putL, VC.stW, VC.stOK, VC.mixF, VC.setAll, Nat.reduceAdd, Nat.reduceSub, Nat.reduceMul, if_true, if_false, ↓reduceIte, forall_const, implies_true, reduceCtorEq, ne_eq, Nat.reduceBNe, Nat.reduceBEq, IntKind.signed, Nat.reduceEqDiff, Nat.reduceLeDiff, Nat.reduceLT, eq_self, Int.reduceEq, Int.reduceLT, Int.reduceLE, Int.reduceAdd, Int.reduceSub, VC.regC_nil, VC.regC_cons, VC.regCK_eq, VC.callQ, VC.tailQ, VC.goCall, VC.chStep]
      refine OPW_delV (x := (t0 : Int)) (MObs.inn hH4.left ht h1) rfl (by kernel_rfl) rfl rfl (EI_ok t0 ht0) fun w6 hM6 ht6 => ?_
      have st6 := (MObs.turn hH4.left ht h1 hM6 ht6).part hH4
      rw [VC.Now, VC.seqK_eq]
      simp -dsimp (maxSteps := 2000000) only [Fa.F12, VC.Now, VC.vc, VC.lib, VC.mapN_drewN, VC.mapB_drewN, VC.regQ, VC.loopK, VC.reg, VC.opP, VC.opS, VC.opZ, VC.nomulB, VC.pv, VC.thenF, VC.blkF, VC.retF, VC.resV, VC.oneV, VC.evo, VC.bin, VC.binI, VC.cmpI, VC.arithI, VC.ldv, VC.slv, VC.pickP, VC.holds, VC.chainOf, VC.look, VC.junk, VC.put, VC.eff, VC.callee, VC.pureB, VC.rdK, VC.rdKs, VC.okKs, VC.eqKs, VC.fillL, VC.putL, VC.stW, VC.stOK, VC.mixF, VC.setAll, Nat.reduceAdd, Nat.reduceSub, Nat.reduceMul, if_true, if_false, ↓reduceIte, forall_const, implies_true, reduceCtorEq, ne_eq, Nat.reduceBNe, Nat.reduceBEq, IntKind.signed, Nat.reduceEqDiff, Nat.reduceLeDiff, Nat.reduceLT, eq_self, Int.reduceEq, Int.reduceLT, Int.reduceLE, Int.reduceAdd, Int.reduceSub, VC.regC_nil, VC.regC_cons, VC.regCK_eq, VC.callQ, VC.tailQ, VC.goCall, VC.chStep]
      obtain ⟨n1, n2⟩ := hne t ht h1
      refine ⟨SAME.intro (by kernel_rfl), cnt', hlt, fun y => left y ∧ y ≠ (t : Int), _, _, hR4.agree (mapTurned_agree (X := fun j => j = ib t) ht6 rfl) (fun e => n1 e.symm) (fun e => by omega), hB4.trans ((st6.below hH4).mono hB0), st6.hp, fun s hs h2 => ?_⟩
      by_cases e : s = t
      · subst e
        refine ⟨fun hh => absurd rfl hh.2, fun _ u => ?_⟩
        rw [upd_same, cont_snoc]
        by_cases e2 : u = t0
        · subst e2; rw [delV_same, decide_eq_true rfl, Bool.or_true, Bool.not_true, Bool.and_false]; rfl
        · rw [delV_other e2, decide_eq_false e2, Bool.or_false]; exact (he3 s hs h2).1 hlx u
      · refine ⟨fun hh u => by rw [upd_other e]; exact (he3 s hs h2).1 hh.1 u, fun hh u => by rw [upd_other e]; exact (he3 s hs h2).2 (fun h3 => hh ⟨h3, by omega⟩) u⟩
  · obtain ⟨t, rfl, ht, h1, rfl⟩ : ∃ t : Nat, x = t ∧ t < 6 ∧ p t = true ∧ v = .map (some (ib t)) := by
      unfold outM at hmx
      split at hmx
      · rename_i h
        refine ⟨x.toNat, by omega, by omega, h.2, ?_⟩
        cases hmx; rfl
      · cases hmx
    have hH4 := hH.agree hA4 (fun g hg e => by have := hfr g hg; omega)
    have hB4 := hA4.to_below hBx (Nat.le_trans hB0 hH.base) fun i hi => by omega
    have hMi := MObs.inn hH4.left ht h1
    have hK : EI.K (t : Int) = .int .i64 t := rfl
    have hmz := may_zero (K := K) (I := I) (out := out) hMi (he t ht h1) (by rw [← hp t ht]; exact h1) hT
    obtain ⟨l1, l2⟩ := hMi.lenB
    rw [VC.Now, VC.seqK_eq]
    simp -dsimp (maxSteps := 2000000) only [Fa.F12, VC.Now, VC.vc, VC.lib, VC.mapN_drewN, VC.mapB_drewN, VC.regQ, VC.loopK, VC.reg, VC.opP, VC.opS, VC.opZ, VC.nomulB, VC.pv, VC.thenF, VC.blkF, VC.retF, VC.resV, VC.oneV, VC.evo, VC.bin, VC.binI, VC.cmpI, VC.arithI, VC.ldv, VC.slv, VC.pickP, VC.holds, VC.chainOf, VC.look, VC.junk, VC.put, VC.eff, VC.callee, VC.pureB, VC.rdK, VC.rdKs, VC.okKs, VC.eqKs, VC.fillL, VC.putL, VC.stW, VC.stOK, VC.mixF, VC.setAll, Nat.reduceAdd, Nat.reduceSub, Nat.reduceMul, if_true, if_false, ↓reduceIte, forall_const, implies_true, reduceCtorEq, ne_eq, Nat.reduceBNe, Nat.reduceBEq, IntKind.signed, Nat.reduceEqDiff, Nat.reduceLeDiff, Nat.reduceLT, eq_self, Int.reduceEq, Int.reduceLT, Int.reduceLE, Int.reduceAdd, Int.reduceSub, VC.regC_nil, VC.regC_cons, VC.regCK_eq, VC.callQ, VC.tailQ, VC.goCall, VC.chStep]
    refine OPW_entryV hE rfl rfl ?_
    rw [VC.Now, VC.seqK_eq]
    by_cases hz : cn t = 0
    · rw [decide_eq_true hz] at hmz
      have e8 : ((cn t : Int) = 0) = True := eq_true (by omega)
      have hnx2 := hnx.hit ht hlx hmz
      by_cases hn : nx < 0
      · have e9 := eq_true hn
        rw [if_pos (Or.inl hn)] at hnx2
        simp -dsimp (maxSteps := 2000000) only [Fa.F12, hK, l1, l2, e8, e9, undef, tu, uf, ul, ur, VC.Now, VC.vc, VC.lib, VC.mapN_drewN, VC.mapB_drewN, VC.regQ, VC.loopK, VC.reg, VC.opP, VC.opS, VC.opZ, VC.nomulB, VC.pv, VC.thenF, VC.blkF, VC.retF, VC.resV, VC.oneV, VC.evo, VC.bin, VC.binI, VC.cmpI, VC.arithI, VC.ldv, VC.slv, VC.pickP, VC.holds, VC.chainOf, VC.look, VC.junk, VC.put, VC.eff, VC.callee, VC.pureB, VC.rdK, VC.rdKs, VC.okKs, VC.eqKs, VC.fillL, VC.putL, VC.stW, VC.stOK, VC.mixF, VC.setAll, Nat.reduceAdd, Nat.reduceSub, Nat.reduceMul, if_true, if_false, ↓reduceIte, forall_const, implies_true, reduceCtorEq, ne_eq, Nat.reduceBNe, Nat.reduceBEq, IntKind.signed, Nat.reduceEqDiff, Nat.reduceLeDiff, Nat.reduceLT, eq_self, Int.reduceEq, Int.reduceLT, Int.reduceLE, Int.reduceAdd, Int.reduceSub, VC.regC_nil, VC.regC_cons, VC.regCK_eq, VC.callQ, VC.tailQ, VC.goCall, VC.chStep]
        intros
        exact ⟨SAME.intro (by kernel_rfl), cnt', hlt, _, _, rfl, hR4, hB4, hH4, hnx2⟩
      have e9 := eq_false hn
      by_cases hlx2 : (t : Int) < nx
      · have e10 := eq_true hlx2
        rw [if_pos (Or.inr hlx2)] at hnx2
        simp -dsimp (maxSteps := 2000000) only [Fa.F12, hK, l1, l2, e8, e9, e10, undef, tu, uf, ul, ur, VC.Now, VC.vc, VC.lib, VC.mapN_drewN, VC.mapB_drewN, VC.regQ, VC.loopK, VC.reg, VC.opP, VC.opS, VC.opZ, VC.nomulB, VC.pv, VC.thenF, VC.blkF, VC.retF, VC.resV, VC.oneV, VC.evo, VC.bin, VC.binI, VC.cmpI, VC.arithI, VC.ldv, VC.slv, VC.pickP, VC.holds, VC.chainOf, VC.look, VC.junk, VC.put, VC.eff, VC.callee, VC.pureB, VC.rdK, VC.rdKs, VC.okKs, VC.eqKs, VC.fillL, VC.putL, VC.stW, VC.stOK, VC.mixF, VC.setAll, Nat.reduceAdd, Nat.reduceSub, Nat.reduceMul, if_true, if_false, ↓reduceIte, forall_const, implies_true, reduceCtorEq, ne_eq, Nat.reduceBNe, Nat.reduceBEq, IntKind.signed, Nat.reduceEqDiff, Nat.reduceLeDiff, Nat.reduceLT, eq_self, Int.reduceEq, Int.reduceLT, Int.reduceLE, Int.reduceAdd, Int.reduceSub, VC.regC_nil, VC.regC_cons, VC.regCK_eq, VC.callQ, VC.tailQ, VC.goCall, VC.chStep]
        intros
        exact ⟨SAME.intro (by kernel_rfl), cnt', hlt, _, _, rfl, hR4, hB4, hH4, hnx2⟩
      · have e10 := eq_false hlx2
        rw [if_neg (fun hh => hh.elim hn hlx2)] at hnx2
        simp -dsimp (maxSteps := 2000000) only [Fa.F12, hK, l1, l2, e8, e9, e10, undef, tu, uf, ul, ur, VC.Now, VC.vc, VC.lib, VC.mapN_drewN, VC.mapB_drewN, VC.regQ, VC.loopK, VC.reg, VC.opP, VC.opS, VC.opZ, VC.nomulB, VC.pv, VC.thenF, VC.blkF, VC.retF, VC.resV, VC.oneV, VC.evo, VC.bin, VC.binI, VC.cmpI, VC.arithI, VC.ldv, VC.slv, VC.pickP, VC.holds, VC.chainOf, VC.look, VC.junk, VC.put, VC.eff, VC.callee, VC.pureB, VC.rdK, VC.rdKs, VC.okKs, VC.eqKs, VC.fillL, VC.putL, VC.stW, VC.stOK, VC.mixF, VC.setAll, Nat.reduceAdd, Nat.reduceSub, Nat.reduceMul, if_true, if_false, ↓reduceIte, forall_const, implies_true, reduceCtorEq, ne_eq, Nat.reduceBNe, Nat.reduceBEq, IntKind.signed, Nat.reduceEqDiff, Nat.reduceLeDiff, Nat.reduceLT, eq_self, Int.reduceEq, Int.reduceLT, Int.reduceLE, Int.reduceAdd, Int.reduceSub, VC.regC_nil, VC.regC_cons, VC.regCK_eq, VC.callQ, VC.tailQ, VC.goCall, VC.chStep]
        intros
        exact ⟨SAME.intro (by kernel_rfl), cnt', hlt, _, _, rfl, hR4, hB4, hH4, hnx2⟩
    · rw [decide_eq_false hz] at hmz
      have e8 : ((cn t : Int) = 0) = False := eq_false (by omega)
      simp -dsimp (maxSteps := 2000000) only [Fa.F12, hK, l1, l2, e8, undef, tu, uf, ul, ur, VC.Now, VC.vc, VC.lib, VC.mapN_drewN, VC.mapB_drewN, VC.regQ, VC.loopK, VC.reg, VC.opP, VC.opS, VC.opZ, VC.nomulB, VC.pv, VC.thenF, VC.blkF, VC.retF, VC.resV, VC.oneV, VC.evo, VC.bin, VC.binI, VC.cmpI, VC.arithI, VC.ldv, VC.slv, VC.pickP, VC.holds, VC.chainOf, VC.look, VC.junk, VC.put, VC.eff, VC.callee, VC.pureB, VC.rdK, VC.rdKs, VC.okKs, VC.eqKs, VC.fillL, VC.putL, VC.stW, VC.stOK, VC.mixF, VC.setAll, Nat.reduceAdd, Nat.reduceSub, Nat.reduceMul, if_true, if_false, ↓reduceIte, forall_const, implies_true, reduceCtorEq, ne_eq, Nat.reduceBNe, Nat.reduceBEq, IntKind.signed, Nat.reduceEqDiff, Nat.reduceLeDiff, Nat.reduceLT, eq_self, Int.reduceEq, Int.reduceLT, Int.reduceLE, Int.reduceAdd, Int.reduceSub, VC.regC_nil, VC.regC_cons, VC.regCK_eq, VC.callQ, VC.tailQ, VC.goCall, VC.chStep]
      intros
      exact ⟨SAME.intro (by kernel_rfl), cnt', hlt, _, _, rfl, hR4, hB4, hH4, hnx.skip hlx hmz⟩
end Go.Proofs.Ytelfmhiaafkimaa
