/- Transactions in an order: the document's walk. -/
import Derived.Test.YtelfmhiaafkimaaOrd5
import Derived.Test.YtelfmhiaafkimaaHp2
namespace Go.Proofs.Ytelfmhiaafkimaa
open Go Go.RowKit Go.VC
set_option linter.unusedSimpArgs false
set_option linter.unusedVariables false
noncomputable abbrev S2 (va : Value) (la : List Int) (vo : Value) (lo : List Int) : List Ob := [oOwn 3 1 la.length va (intsL la), oOwn 3 1 lo.length vo (intsL lo)]
set_option maxRecDepth 8000 in
set_option maxHeartbeats 8000000 in
theorem serialR_any (A : Option Addr) (len c : Nat) (K T I : Nat → Int) (w : World) (hr : Rd3 w A len K T I) (hl : len ≤ 60) (hK : ∀ j, j < len → 1 ≤ K j ∧ K j ≤ 4) (hT : ∀ j, j < len → 0 ≤ T j ∧ T j < 6) :
    Calls Try.prog 14 #[.slice A len c] w fun e w' => ∃ v b, e = .returned (.tuple #[v, .bool b]) ∧ OrdQ (orderL K T I len) v b w.heap.size w' ∧ Below w.heap.size w w' := by
  have hH0 : Hp w.heap.size (S2 (.slice none 0 0) [] (.slice none 0 0) []) w := by
    have h1 := (Hp.nil (B := w.heap.size) (Nat.le_refl _)).free (M := S2 (.slice none 0 0) [] (.slice none 0 0) []) (fun o ho => by
      simp only [List.mem_cons, List.not_mem_nil, or_false] at ho
      rcases ho with rfl | rfl <;> exact ⟨OwnK.nil _ _ _ _, rfl⟩)
    exact h1
  refine calls_vc (rs := [.tmp 2, .tmp 3]) Fa.mix Try.func14 rfl Try.ntmps14 rfl (by kernel_rfl) (Nat.le_of_ble_eq_true rfl) ?_
  simp -dsimp (maxSteps := 2000000) only [Fa.F14, VC.Now, VC.vc, VC.lib, VC.mapN_drewN, VC.mapB_drewN, VC.regQ, VC.loopK, VC.reg, VC.opP, VC.opS, VC.opZ, VC.nomulB, VC.pv, VC.thenF, VC.blkF, VC.retF, VC.resV, VC.oneV, VC.evo, VC.bin, VC.binI, VC.cmpI, VC.arithI, VC.ldv, VC.slv, VC.pickP, VC.holds, VC.chainOf, VC.look, VC.junk, VC.put, VC.eff, VC.callee, VC.pureB, VC.rdK, VC.rdKs, VC.okKs, VC.eqKs, VC.fillL, VC.putL, VC.stW, VC.stOK, VC.mixF, VC.setAll, Nat.reduceAdd, Nat.reduceSub, Nat.reduceMul, if_true, if_false, ↓reduceIte, forall_const, implies_true, reduceCtorEq, ne_eq, Nat.reduceBNe, Nat.reduceBEq, IntKind.signed, Nat.reduceEqDiff, Nat.reduceLeDiff, Nat.reduceLT, eq_self, Int.reduceEq, Int.reduceLT, Int.reduceLE, Int.reduceAdd, Int.reduceSub, VC.regC_nil, VC.regC_cons, VC.regCK_eq, VC.callQ, VC.tailQ, VC.goCall, VC.chStep]
  refine loop_slots Fa.mix [5, 4] [7, 15, 16, 17, 18, 19, 20, 21, 22, 23, 24, 25, 26, 27, 28, 29, 30, 31, 32, 33, 34, 35, 36, 37, 38, 39] (fun m vs wx => ∃ (t : Nat) (va : Value), t + m = 6 ∧ vs = [.int .i64 t, va] ∧ Below w.heap.size w wx ∧ Hp w.heap.size (S2 va (allP T len t) (.slice none 0 0) []) wx) 6 (by kernel_rfl) rfl
    ⟨0, _, by omega, rfl, Below.refl _ _, hH0⟩ ?_
  clear hH0
  rintro m vs u2 wx ⟨t, va, htm, rfl, hBx, hH⟩
  by_cases ht : t < 6
  · have e7 : ((t : Int) < 6) = True := eq_true (by omega)
    have hal := allP_len T len t
    simp -dsimp (maxSteps := 2000000) only [Fa.F14, e7, VC.Now, VC.vc, VC.lib, VC.mapN_drewN, VC.mapB_drewN, VC.regQ, VC.loopK, VC.reg, VC.opP, VC.opS, VC.opZ, VC.nomulB, VC.pv, VC.thenF, VC.blkF, VC.retF, VC.resV, VC.oneV, VC.evo, VC.bin, VC.binI, VC.cmpI, VC.arithI, VC.ldv, VC.slv, VC.pickP, VC.holds, VC.chainOf, VC.look, VC.junk, VC.put, VC.eff, VC.callee, VC.pureB, VC.rdK, VC.rdKs, VC.okKs, VC.eqKs, VC.fillL, VC.putL, VC.stW, VC.stOK, VC.mixF, VC.setAll, Nat.reduceAdd, Nat.reduceSub, Nat.reduceMul, if_true, if_false, ↓reduceIte, forall_const, implies_true, reduceCtorEq, ne_eq, Nat.reduceBNe, Nat.reduceBEq, IntKind.signed, Nat.reduceEqDiff, Nat.reduceLeDiff, Nat.reduceLT, eq_self, Int.reduceEq, Int.reduceLT, Int.reduceLE, Int.reduceAdd, Int.reduceSub, VC.regC_nil, VC.regC_cons, VC.regCK_eq, VC.callQ, VC.tailQ, VC.goCall, VC.chStep]
    refine loop_slots Fa.mix [21, 4] [7, 22, 23, 24, 25, 26, 27, 28, 29, 30, 31, 32, 33, 34, 35, 36, 37, 38, 39] (fun m vs wx => ∃ (i : Nat) (va : Value), i + m = len ∧ vs = [.int .i64 i, va] ∧ Below w.heap.size w wx ∧ Hp w.heap.size (S2 va (allQ T len t i) (.slice none 0 0) []) wx) len (by kernel_rfl) rfl
      ⟨0, va, by omega, rfl, hBx, hH⟩ ?_
    clear hBx hH
    rintro m2 vs u3 wx ⟨i, va, him, rfl, hBx, hH⟩
    by_cases hi : i < len
    · have e8 : ((i : Int) < len) = True := eq_true (by omega)
      obtain ⟨b, o, rfl, hb, hc3⟩ := (hr.below hBx) (by omega)
      obtain ⟨h1, h2, h3, _⟩ := hc3 i hi
      have hql := allQ_len T len t i
      have hBs : Below wx.heap.size wx (wx.alloc (.cells #[.int .i64 (K i), .int .i64 (T i), .int .i64 (I i)] 99)) := (Below.refl _ _).alloc (Nat.le_refl _) _
      have hH2 := hH.below hBs
      have hB2 := hBx.trans (hBs.mono hH.base)
      have hps : presB T (i + 1) (t : Int) = (presB T i (t : Int) || decide (T i = t)) := presB_succ
      by_cases q : T i = t
      · have e9 := eq_true q
        obtain ⟨Aa, ca, ea, hra⟩ := ownRd (hH2.get 0 rfl : OwnK _ 0 3 1 _ va _)
        rw [List.length_map] at ea
        simp -dsimp (maxSteps := 2000000) only [Fa.F14, e8, e9, rdI_of h1, h1, rdI_of h2, h2, rdI_of h3, h3, hb, Int.toNat_natCast, VC.Now, VC.vc, VC.lib, VC.mapN_drewN, VC.mapB_drewN, VC.regQ, VC.loopK, VC.reg, VC.opP, VC.opS, VC.opZ, VC.nomulB, VC.pv, VC.thenF, VC.blkF, VC.retF, VC.resV, VC.oneV, VC.evo, VC.bin, VC.binI, VC.cmpI, VC.arithI, VC.ldv, VC.slv, VC.pickP, VC.holds, VC.chainOf, VC.look, VC.junk, VC.put, VC.eff, VC.callee, VC.pureB, VC.rdK, VC.rdKs, VC.okKs, VC.eqKs, VC.fillL, VC.putL, VC.stW, VC.stOK, VC.mixF, VC.setAll, Nat.reduceAdd, Nat.reduceSub, Nat.reduceMul, if_true, if_false, ↓reduceIte, forall_const, implies_true, reduceCtorEq, ne_eq, Nat.reduceBNe, Nat.reduceBEq, IntKind.signed, Nat.reduceEqDiff, Nat.reduceLeDiff, Nat.reduceLT, eq_self, Int.reduceEq, Int.reduceLT, Int.reduceLE, Int.reduceAdd, Int.reduceSub, VC.regC_nil, VC.regC_cons, VC.regCK_eq, VC.callQ, VC.tailQ, VC.goCall, VC.chStep]
        refine ⟨by omega, ?_⟩
        rw [ea]
        refine CALL_of (has_any Aa ca (allQ T len t i) (t : Int) _ hra (by omega)) fun w3 hw3 => ?_
        subst hw3
        rw [VC.Now, VC.seqK_eq]
        rw [q, decide_eq_true rfl, Bool.or_true] at hps
        by_cases q2 : presB T i (t : Int) = true
        · have hQ1 : allQ T len t i = allP T len t ++ [(t : Int)] := if_pos q2
          have hin : decide ((t : Int) ∈ allQ T len t i) = true := decide_eq_true (by rw [hQ1]; simp)
          have hQ2 : allQ T len t (i + 1) = allQ T len t i := by rw [hQ1]; exact if_pos hps
          simp -dsimp (maxSteps := 2000000) only [Fa.F14, hin, VC.Now, VC.vc, VC.lib, VC.mapN_drewN, VC.mapB_drewN, VC.regQ, VC.loopK, VC.reg, VC.opP, VC.opS, VC.opZ, VC.nomulB, VC.pv, VC.thenF, VC.blkF, VC.retF, VC.resV, VC.oneV, VC.evo, VC.bin, VC.binI, VC.cmpI, VC.arithI, VC.ldv, VC.slv, VC.pickP, VC.holds, VC.chainOf, VC.look, VC.junk, VC.put, VC.eff, VC.callee, VC.pureB, VC.rdK, VC.rdKs, VC.okKs, VC.eqKs, VC.fillL, VC.putL, VC.stW, VC.stOK, VC.mixF, VC.setAll, Nat.reduceAdd, Nat.reduceSub, Nat.reduceMul, if_true, if_false, ↓reduceIte, forall_const, implies_true, reduceCtorEq, ne_eq, Nat.reduceBNe, Nat.reduceBEq, IntKind.signed, Nat.reduceEqDiff, Nat.reduceLeDiff, Nat.reduceLT, eq_self, Int.reduceEq, Int.reduceLT, Int.reduceLE, Int.reduceAdd, Int.reduceSub, VC.regC_nil, VC.regC_cons, VC.regCK_eq, VC.callQ, VC.tailQ, VC.goCall, VC.chStep]
          refine ⟨fits_i64_nat (by omega), SAME.intro (by kernel_rfl), m2 - 1, by omega, i + 1, va, by omega, by rw [ea]; rfl, hB2, by rw [hQ2]; exact hH2⟩
        · have hQ1 : allQ T len t i = allP T len t := if_neg q2
          have hin : decide ((t : Int) ∈ allQ T len t i) = false := decide_eq_false (by rw [hQ1]; exact allP_not T len t)
          have hQ2 : allQ T len t (i + 1) = allQ T len t i ++ [(t : Int)] := by rw [hQ1]; exact if_pos hps
          simp -dsimp (maxSteps := 2000000) only [Fa.F14, hin, VC.Now, VC.vc, VC.lib, VC.mapN_drewN, VC.mapB_drewN, VC.regQ, VC.loopK, VC.reg, VC.opP, VC.opS, VC.opZ, VC.nomulB, VC.pv, VC.thenF, VC.blkF, VC.retF, VC.resV, VC.oneV, VC.evo, VC.bin, VC.binI, VC.cmpI, VC.arithI, VC.ldv, VC.slv, VC.pickP, VC.holds, VC.chainOf, VC.look, VC.junk, VC.put, VC.eff, VC.callee, VC.pureB, VC.rdK, VC.rdKs, VC.okKs, VC.eqKs, VC.fillL, VC.putL, VC.stW, VC.stOK, VC.mixF, VC.setAll, Nat.reduceAdd, Nat.reduceSub, Nat.reduceMul, if_true, if_false, ↓reduceIte, forall_const, implies_true, reduceCtorEq, ne_eq, Nat.reduceBNe, Nat.reduceBEq, IntKind.signed, Nat.reduceEqDiff, Nat.reduceLeDiff, Nat.reduceLT, eq_self, Int.reduceEq, Int.reduceLT, Int.reduceLE, Int.reduceAdd, Int.reduceSub, VC.regC_nil, VC.regC_cons, VC.regCK_eq, VC.callQ, VC.tailQ, VC.goCall, VC.chStep]
          refine OPW_appN (v := va) (G := wx.heap.size + 1) (by simp) rfl Fa.apI23 ea.symm rfl rfl (by simp [Value.oneCell']) (hH2.get 0 rfl) (Nat.zero_le _) (by omega) (by decide) fun v5 w5 ho5 hg5 hst5 => ?_
          have hnl : intsL (allQ T len t i) ++ [.int .i64 (t : Int)] = intsL (allQ T len t (i + 1)) := by rw [hQ2]; simp
          rw [hnl, show (allQ T len t i).length + 1 = (allQ T len t (i + 1)).length by rw [hQ2]; simp] at ho5
          have st6 := hH2.grown 0 rfl ho5 hg5 hst5
          rw [VC.Now, VC.seqK_eq]
          simp -dsimp (maxSteps := 2000000) only [Fa.F14, VC.Now, VC.vc, VC.lib, VC.mapN_drewN, VC.mapB_drewN, VC.regQ, VC.loopK, VC.reg, VC.opP, VC.opS, VC.opZ, VC.nomulB, VC.pv, VC.thenF, VC.blkF, VC.retF, VC.resV, VC.oneV, VC.evo, VC.bin, VC.binI, VC.cmpI, VC.arithI, VC.ldv, VC.slv, VC.pickP, VC.holds, VC.chainOf, VC.look, VC.junk, VC.put, VC.eff, VC.callee, VC.pureB, VC.rdK, VC.rdKs, VC.okKs, VC.eqKs, VC.fillL, VC.putL, VC.stW, VC.stOK, VC.mixF, VC.setAll, Nat.reduceAdd, Nat.reduceSub, Nat.reduceMul, if_true, if_false, ↓reduceIte, forall_const, implies_true, reduceCtorEq, ne_eq, Nat.reduceBNe, Nat.reduceBEq, IntKind.signed, Nat.reduceEqDiff, Nat.reduceLeDiff, Nat.reduceLT, eq_self, Int.reduceEq, Int.reduceLT, Int.reduceLE, Int.reduceAdd, Int.reduceSub, VC.regC_nil, VC.regC_cons, VC.regCK_eq, VC.callQ, VC.tailQ, VC.goCall, VC.chStep]
          exact ⟨fits_i64_nat (by omega), SAME.intro (by kernel_rfl), m2 - 1, by omega, i + 1, v5, by omega, rfl, hB2.trans (st6.below hH2), st6.hp⟩
      · have e9 := eq_false q
        rw [decide_eq_false q, Bool.or_false] at hps
        have hQ2 : allQ T len t (i + 1) = allQ T len t i := by unfold allQ; rw [hps]
        simp -dsimp (maxSteps := 2000000) only [Fa.F14, e8, e9, rdI_of h1, h1, rdI_of h2, h2, rdI_of h3, h3, hb, Int.toNat_natCast, undef, tu, uf, ul, ur, VC.Now, VC.vc, VC.lib, VC.mapN_drewN, VC.mapB_drewN, VC.regQ, VC.loopK, VC.reg, VC.opP, VC.opS, VC.opZ, VC.nomulB, VC.pv, VC.thenF, VC.blkF, VC.retF, VC.resV, VC.oneV, VC.evo, VC.bin, VC.binI, VC.cmpI, VC.arithI, VC.ldv, VC.slv, VC.pickP, VC.holds, VC.chainOf, VC.look, VC.junk, VC.put, VC.eff, VC.callee, VC.pureB, VC.rdK, VC.rdKs, VC.okKs, VC.eqKs, VC.fillL, VC.putL, VC.stW, VC.stOK, VC.mixF, VC.setAll, Nat.reduceAdd, Nat.reduceSub, Nat.reduceMul, if_true, if_false, ↓reduceIte, forall_const, implies_true, reduceCtorEq, ne_eq, Nat.reduceBNe, Nat.reduceBEq, IntKind.signed, Nat.reduceEqDiff, Nat.reduceLeDiff, Nat.reduceLT, eq_self, Int.reduceEq, Int.reduceLT, Int.reduceLE, Int.reduceAdd, Int.reduceSub, VC.regC_nil, VC.regC_cons, VC.regCK_eq, VC.callQ, VC.tailQ, VC.goCall, VC.chStep]
        refine ⟨by omega, fits_i64_nat (by omega), SAME.intro (by kernel_rfl), m2 - 1, by omega, i + 1, va, by omega, rfl, hB2, by rw [hQ2]; exact hH2⟩
    · obtain rfl : i = len := by omega
      have e8 : ((i : Int) < i) = False := eq_false (by omega)
      have hQ2 : allQ T i t i = allP T i (t + 1) := (allP_succ T i t).symm
      rw [hQ2] at hH
      simp -dsimp (maxSteps := 2000000) only [Fa.F14, e8, VC.Now, VC.vc, VC.lib, VC.mapN_drewN, VC.mapB_drewN, VC.regQ, VC.loopK, VC.reg, VC.opP, VC.opS, VC.opZ, VC.nomulB, VC.pv, VC.thenF, VC.blkF, VC.retF, VC.resV, VC.oneV, VC.evo, VC.bin, VC.binI, VC.cmpI, VC.arithI, VC.ldv, VC.slv, VC.pickP, VC.holds, VC.chainOf, VC.look, VC.junk, VC.put, VC.eff, VC.callee, VC.pureB, VC.rdK, VC.rdKs, VC.okKs, VC.eqKs, VC.fillL, VC.putL, VC.stW, VC.stOK, VC.mixF, VC.setAll, Nat.reduceAdd, Nat.reduceSub, Nat.reduceMul, if_true, if_false, ↓reduceIte, forall_const, implies_true, reduceCtorEq, ne_eq, Nat.reduceBNe, Nat.reduceBEq, IntKind.signed, Nat.reduceEqDiff, Nat.reduceLeDiff, Nat.reduceLT, eq_self, Int.reduceEq, Int.reduceLT, Int.reduceLE, Int.reduceAdd, Int.reduceSub, VC.regC_nil, VC.regC_cons, VC.regCK_eq, VC.callQ, VC.tailQ, VC.goCall, VC.chStep]
      exact ⟨fits_i64_nat (by omega), SAME.intro (by kernel_rfl), m - 1, by omega, t + 1, va, by omega, rfl, hBx, hH⟩
  · obtain rfl : t = 6 := by omega
    have e7 : (((6 : Nat) : Int) < 6) = False := eq_false (by omega)
    rw [allP_six] at hH
    have hal : (allT T len).length ≤ 6 := by rw [← allP_six]; exact allP_len T len 6
    have hap : ∀ x ∈ allT T len, presB T len x = true := fun x hx => by
      obtain ⟨k, rfl, _, h⟩ := mem_allT.1 hx; exact h
    obtain ⟨Aa, ca, ea, hra0⟩ := ownRd (hH.get 0 rfl : OwnK _ 0 3 1 _ va _)
    rw [List.length_map] at ea
    clear hra0
    subst ea
    generalize hal0 : (allT T len) = all at *
    have hord : orderL K T I len = orderF K T I len all.length [] := by unfold orderL; rw [hal0]
    simp -dsimp (maxSteps := 2000000) only [Fa.F14, e7, VC.Now, VC.vc, VC.lib, VC.mapN_drewN, VC.mapB_drewN, VC.regQ, VC.loopK, VC.reg, VC.opP, VC.opS, VC.opZ, VC.nomulB, VC.pv, VC.thenF, VC.blkF, VC.retF, VC.resV, VC.oneV, VC.evo, VC.bin, VC.binI, VC.cmpI, VC.arithI, VC.ldv, VC.slv, VC.pickP, VC.holds, VC.chainOf, VC.look, VC.junk, VC.put, VC.eff, VC.callee, VC.pureB, VC.rdK, VC.rdKs, VC.okKs, VC.eqKs, VC.fillL, VC.putL, VC.stW, VC.stOK, VC.mixF, VC.setAll, Nat.reduceAdd, Nat.reduceSub, Nat.reduceMul, if_true, if_false, ↓reduceIte, forall_const, implies_true, reduceCtorEq, ne_eq, Nat.reduceBNe, Nat.reduceBEq, IntKind.signed, Nat.reduceEqDiff, Nat.reduceLeDiff, Nat.reduceLT, eq_self, Int.reduceEq, Int.reduceLT, Int.reduceLE, Int.reduceAdd, Int.reduceSub, VC.regC_nil, VC.regC_cons, VC.regCK_eq, VC.callQ, VC.tailQ, VC.goCall, VC.chStep]
    refine loop_slots Fa.mix [8] [2, 3, 9, 10, 11, 12, 13, 14, 40, 41, 42, 43, 44, 45, 46, 47, 48, 49, 50, 51, 52, 53, 54, 55, 56, 57, 58, 59, 60, 61, 62, 63, 64, 65, 66, 67, 68, 69, 70, 71, 72, 73, 74, 75, 76, 77, 78, 79, 80, 81, 82, 83, 84, 85, 86, 87, 88, 89, 90, 91, 92, 93, 94, 95, 96, 97, 98, 99, 100, 101, 102, 103, 104, 105, 106] (fun m vs wx => ∃ (out : List Int) (vo : Value), out.length + m = all.length ∧ vs = [vo] ∧ Below w.heap.size w wx ∧ Hp w.heap.size (S2 (.slice Aa all.length ca) all vo out) wx ∧ orderF K T I len m out = orderL K T I len) all.length (by kernel_rfl) rfl
      ⟨[], _, by simp, rfl, hBx, hH, hord.symm⟩ ?_
    clear hBx hH hord
    rintro m2 vs u3 wx ⟨out, vo, hom, rfl, hBx, hH, hord⟩
    obtain ⟨Ao, co, eo, _⟩ := ownRd (hH.get 1 rfl : OwnK _ 0 3 1 _ vo _)
    rw [List.length_map] at eo
    subst eo
    by_cases hm0 : m2 = 0
    · subst hm0
      have e8 : ((out.length : Int) < all.length) = False := eq_false (by omega)
      have hor : orderL K T I len = some out := hord.symm
      simp -dsimp (maxSteps := 2000000) only [Fa.F14, e8, VC.Now, VC.vc, VC.lib, VC.mapN_drewN, VC.mapB_drewN, VC.regQ, VC.loopK, VC.reg, VC.opP, VC.opS, VC.opZ, VC.nomulB, VC.pv, VC.thenF, VC.blkF, VC.retF, VC.resV, VC.oneV, VC.evo, VC.bin, VC.binI, VC.cmpI, VC.arithI, VC.ldv, VC.slv, VC.pickP, VC.holds, VC.chainOf, VC.look, VC.junk, VC.put, VC.eff, VC.callee, VC.pureB, VC.rdK, VC.rdKs, VC.okKs, VC.eqKs, VC.fillL, VC.putL, VC.stW, VC.stOK, VC.mixF, VC.setAll, Nat.reduceAdd, Nat.reduceSub, Nat.reduceMul, if_true, if_false, ↓reduceIte, forall_const, implies_true, reduceCtorEq, ne_eq, Nat.reduceBNe, Nat.reduceBEq, IntKind.signed, Nat.reduceEqDiff, Nat.reduceLeDiff, Nat.reduceLT, eq_self, Int.reduceEq, Int.reduceLT, Int.reduceLE, Int.reduceAdd, Int.reduceSub, VC.regC_nil, VC.regC_cons, VC.regCK_eq, VC.callQ, VC.tailQ, VC.goCall, VC.chStep]
      rw [hor]
      obtain ⟨Ao2, co2, eo2, hro⟩ := ownRd (hH.get 1 rfl : OwnK _ 0 3 1 _ (.slice Ao out.length co) _)
      simp only [Value.slice.injEq] at eo2
      obtain ⟨rfl, _, rfl⟩ := eo2
      exact ⟨_, _, rfl, ⟨rfl, Ao, co, rfl, hro, by omega⟩, hBx⟩
    have e8 : ((out.length : Int) < all.length) = True := eq_true (by omega)
    simp -dsimp (maxSteps := 2000000) only [Fa.F14, e8, VC.Now, VC.vc, VC.lib, VC.mapN_drewN, VC.mapB_drewN, VC.regQ, VC.loopK, VC.reg, VC.opP, VC.opS, VC.opZ, VC.nomulB, VC.pv, VC.thenF, VC.blkF, VC.retF, VC.resV, VC.oneV, VC.evo, VC.bin, VC.binI, VC.cmpI, VC.arithI, VC.ldv, VC.slv, VC.pickP, VC.holds, VC.chainOf, VC.look, VC.junk, VC.put, VC.eff, VC.callee, VC.pureB, VC.rdK, VC.rdKs, VC.okKs, VC.eqKs, VC.fillL, VC.putL, VC.stW, VC.stOK, VC.mixF, VC.setAll, Nat.reduceAdd, Nat.reduceSub, Nat.reduceMul, if_true, if_false, ↓reduceIte, forall_const, implies_true, reduceCtorEq, ne_eq, Nat.reduceBNe, Nat.reduceBEq, IntKind.signed, Nat.reduceEqDiff, Nat.reduceLeDiff, Nat.reduceLT, eq_self, Int.reduceEq, Int.reduceLT, Int.reduceLE, Int.reduceAdd, Int.reduceSub, VC.regC_nil, VC.regC_cons, VC.regCK_eq, VC.callQ, VC.tailQ, VC.goCall, VC.chStep]
    refine ⟨fits_i64 (by omega) (by omega), ?_⟩
    refine loop_slots Fa.mix [9, 10] [11, 12, 13, 14, 48, 49, 50, 51, 52, 53, 54, 55, 56, 57, 58, 59, 60, 61, 62, 63, 64, 65, 66, 67, 68, 69, 70, 71, 72, 73, 74, 75, 76, 77, 78, 79, 80, 81, 82, 83, 84, 85, 86, 87, 88, 89, 90, 91, 92, 93, 94, 95, 96, 97, 98, 99, 100] (fun m vs wx => m ≤ all.length ∧ vs = [.int .i64 (downB (mayB K T I len out) (all.drop m)), .int .i64 ((m : Int) - 1)] ∧ Below w.heap.size w wx ∧ Hp w.heap.size (S2 (.slice Aa all.length ca) all (.slice Ao out.length co) out) wx) all.length (by kernel_rfl) rfl
      ⟨Nat.le_refl _, by rw [List.drop_length]; rfl, hBx, hH⟩ ?_
    clear hBx hH
    rintro m3 vs u4 wx ⟨hm3, rfl, hBx, hH⟩
    rcases m3 with _ | q
    · have e9 : (0 ≤ ((0 : Nat) : Int) - 1) = False := eq_false (by omega)
      have hdn : downB (mayB K T I len out) (all.drop 0) = leastB (mayB K T I len out) 6 := by rw [List.drop_zero, ← hal0]; exact downB_eq
      rw [hdn]
      obtain ⟨m4, rfl⟩ : ∃ m4, m2 = m4 + 1 := ⟨m2 - 1, by omega⟩
      have hst : orderF K T I len (m4 + 1) out = if leastB (mayB K T I len out) 6 < 0 then none else orderF K T I len m4 (out ++ [leastB (mayB K T I len out) 6]) := rfl
      rw [hst] at hord
      generalize leastB (mayB K T I len out) 6 = x at *
      by_cases hx : x < 0
      · have e10 := eq_true hx
        rw [if_pos hx] at hord
        simp -dsimp (maxSteps := 2000000) only [Fa.F14, e9, e10, VC.Now, VC.vc, VC.lib, VC.mapN_drewN, VC.mapB_drewN, VC.regQ, VC.loopK, VC.reg, VC.opP, VC.opS, VC.opZ, VC.nomulB, VC.pv, VC.thenF, VC.blkF, VC.retF, VC.resV, VC.oneV, VC.evo, VC.bin, VC.binI, VC.cmpI, VC.arithI, VC.ldv, VC.slv, VC.pickP, VC.holds, VC.chainOf, VC.look, VC.junk, VC.put, VC.eff, VC.callee, VC.pureB, VC.rdK, VC.rdKs, VC.okKs, VC.eqKs, VC.fillL, VC.putL, VC.stW, VC.stOK, VC.mixF, VC.setAll, Nat.reduceAdd, Nat.reduceSub, Nat.reduceMul, if_true, if_false, ↓reduceIte, forall_const, implies_true, reduceCtorEq, ne_eq, Nat.reduceBNe, Nat.reduceBEq, IntKind.signed, Nat.reduceEqDiff, Nat.reduceLeDiff, Nat.reduceLT, eq_self, Int.reduceEq, Int.reduceLT, Int.reduceLE, Int.reduceAdd, Int.reduceSub, VC.regC_nil, VC.regC_cons, VC.regCK_eq, VC.callQ, VC.tailQ, VC.goCall, VC.chStep]
        rw [← hord]
        exact ⟨_, _, rfl, ⟨rfl, rfl⟩, hBx⟩
      · have e10 := eq_false hx
        rw [if_neg hx] at hord
        simp -dsimp (maxSteps := 2000000) only [Fa.F14, e9, e10, VC.Now, VC.vc, VC.lib, VC.mapN_drewN, VC.mapB_drewN, VC.regQ, VC.loopK, VC.reg, VC.opP, VC.opS, VC.opZ, VC.nomulB, VC.pv, VC.thenF, VC.blkF, VC.retF, VC.resV, VC.oneV, VC.evo, VC.bin, VC.binI, VC.cmpI, VC.arithI, VC.ldv, VC.slv, VC.pickP, VC.holds, VC.chainOf, VC.look, VC.junk, VC.put, VC.eff, VC.callee, VC.pureB, VC.rdK, VC.rdKs, VC.okKs, VC.eqKs, VC.fillL, VC.putL, VC.stW, VC.stOK, VC.mixF, VC.setAll, Nat.reduceAdd, Nat.reduceSub, Nat.reduceMul, if_true, if_false, ↓reduceIte, forall_const, implies_true, reduceCtorEq, ne_eq, Nat.reduceBNe, Nat.reduceBEq, IntKind.signed, Nat.reduceEqDiff, Nat.reduceLeDiff, Nat.reduceLT, eq_self, Int.reduceEq, Int.reduceLT, Int.reduceLE, Int.reduceAdd, Int.reduceSub, VC.regC_nil, VC.regC_cons, VC.regCK_eq, VC.callQ, VC.tailQ, VC.goCall, VC.chStep]
        refine OPW_appK rfl Fa.apI23 rfl rfl rfl (by simp [Value.oneCell']) (hH.get 1 rfl) (Nat.zero_le _) (by omega) (by decide) fun v5 w5 ho5 hg5 hst5 => ?_
        have hnl : intsL out ++ [.int .i64 x] = intsL (out ++ [x]) := by simp
        rw [hnl, show out.length + 1 = (out ++ [x]).length by simp] at ho5
        have st6 := hH.grown 1 rfl ho5 hg5 hst5
        rw [VC.Now, VC.seqK_eq]
        simp -dsimp (maxSteps := 2000000) only [Fa.F14, VC.Now, VC.vc, VC.lib, VC.mapN_drewN, VC.mapB_drewN, VC.regQ, VC.loopK, VC.reg, VC.opP, VC.opS, VC.opZ, VC.nomulB, VC.pv, VC.thenF, VC.blkF, VC.retF, VC.resV, VC.oneV, VC.evo, VC.bin, VC.binI, VC.cmpI, VC.arithI, VC.ldv, VC.slv, VC.pickP, VC.holds, VC.chainOf, VC.look, VC.junk, VC.put, VC.eff, VC.callee, VC.pureB, VC.rdK, VC.rdKs, VC.okKs, VC.eqKs, VC.fillL, VC.putL, VC.stW, VC.stOK, VC.mixF, VC.setAll, Nat.reduceAdd, Nat.reduceSub, Nat.reduceMul, if_true, if_false, ↓reduceIte, forall_const, implies_true, reduceCtorEq, ne_eq, Nat.reduceBNe, Nat.reduceBEq, IntKind.signed, Nat.reduceEqDiff, Nat.reduceLeDiff, Nat.reduceLT, eq_self, Int.reduceEq, Int.reduceLT, Int.reduceLE, Int.reduceAdd, Int.reduceSub, VC.regC_nil, VC.regC_cons, VC.regCK_eq, VC.callQ, VC.tailQ, VC.goCall, VC.chStep]
        exact ⟨SAME.intro (by kernel_rfl), m4, by omega, out ++ [x], v5, by simp; omega, rfl, hBx.trans (st6.below hH), st6.hp, hord⟩
    · have hq : q < all.length := by omega
      have et : ((q + 1 : Nat) : Int) - 1 = (q : Int) := by omega
      rw [et]
      have e9 : (0 ≤ (q : Int)) = True := eq_true (by omega)
      obtain ⟨Aa2, ca2, ea2, hra⟩ := ownRd (hH.get 0 rfl : OwnK _ 0 3 1 _ (.slice Aa all.length ca) _)
      simp only [Value.slice.injEq] at ea2
      obtain ⟨rfl, _, rfl⟩ := ea2
      obtain ⟨ba, oa, rfl, hba, hca⟩ := hra (by simp; omega)
      have h0 := hca q (by simpa using hq)
      rw [List.getElem?_map, List.getElem?_eq_getElem hq] at h0
      obtain ⟨Ao2, co2, eo2, hro⟩ := ownRd (hH.get 1 rfl : OwnK _ 0 3 1 _ (.slice Ao out.length co) _)
      simp only [Value.slice.injEq] at eo2
      obtain ⟨rfl, _, rfl⟩ := eo2
      have hdn : downB (mayB K T I len out) (all.drop q) = if mayB K T I len out all[q] = true then all[q] else downB (mayB K T I len out) (all.drop (q + 1)) := by rw [List.drop_eq_getElem_cons hq]; rfl
      have hpt : presB T len all[q] = true := hap _ (List.getElem_mem hq)
      have hfm := free_may (K := K) (I := I) (out := out) hT hpt
      generalize all[q] = t at *
      have h0 : wx.cell? ⟨ba, oa + q, none⟩ = some (.int .i64 t) := h0
      simp -dsimp (maxSteps := 2000000) only [Fa.F14, e9, rdI_of h0, h0, hba, Int.toNat_natCast, VC.Now, VC.vc, VC.lib, VC.mapN_drewN, VC.mapB_drewN, VC.regQ, VC.loopK, VC.reg, VC.opP, VC.opS, VC.opZ, VC.nomulB, VC.pv, VC.thenF, VC.blkF, VC.retF, VC.resV, VC.oneV, VC.evo, VC.bin, VC.binI, VC.cmpI, VC.arithI, VC.ldv, VC.slv, VC.pickP, VC.holds, VC.chainOf, VC.look, VC.junk, VC.put, VC.eff, VC.callee, VC.pureB, VC.rdK, VC.rdKs, VC.okKs, VC.eqKs, VC.fillL, VC.putL, VC.stW, VC.stOK, VC.mixF, VC.setAll, Nat.reduceAdd, Nat.reduceSub, Nat.reduceMul, if_true, if_false, ↓reduceIte, forall_const, implies_true, reduceCtorEq, ne_eq, Nat.reduceBNe, Nat.reduceBEq, IntKind.signed, Nat.reduceEqDiff, Nat.reduceLeDiff, Nat.reduceLT, eq_self, Int.reduceEq, Int.reduceLT, Int.reduceLE, Int.reduceAdd, Int.reduceSub, VC.regC_nil, VC.regC_cons, VC.regCK_eq, VC.callQ, VC.tailQ, VC.goCall, VC.chStep]
      refine ⟨by omega, ?_⟩
      refine CALL_of (has_any Ao co out t _ hro (by omega)) fun w3 hw3 => ?_
      subst hw3
      rw [VC.Now, VC.seqK_eq]
      simp -dsimp (maxSteps := 2000000) only [Fa.F14, VC.Now, VC.vc, VC.lib, VC.mapN_drewN, VC.mapB_drewN, VC.regQ, VC.loopK, VC.reg, VC.opP, VC.opS, VC.opZ, VC.nomulB, VC.pv, VC.thenF, VC.blkF, VC.retF, VC.resV, VC.oneV, VC.evo, VC.bin, VC.binI, VC.cmpI, VC.arithI, VC.ldv, VC.slv, VC.pickP, VC.holds, VC.chainOf, VC.look, VC.junk, VC.put, VC.eff, VC.callee, VC.pureB, VC.rdK, VC.rdKs, VC.okKs, VC.eqKs, VC.fillL, VC.putL, VC.stW, VC.stOK, VC.mixF, VC.setAll, Nat.reduceAdd, Nat.reduceSub, Nat.reduceMul, if_true, if_false, ↓reduceIte, forall_const, implies_true, reduceCtorEq, ne_eq, Nat.reduceBNe, Nat.reduceBEq, IntKind.signed, Nat.reduceEqDiff, Nat.reduceLeDiff, Nat.reduceLT, eq_self, Int.reduceEq, Int.reduceLT, Int.reduceLE, Int.reduceAdd, Int.reduceSub, VC.regC_nil, VC.regC_cons, VC.regCK_eq, VC.callQ, VC.tailQ, VC.goCall, VC.chStep]
      refine loop_slots Fa.mix [13, 12] [14, 60, 61, 62, 63, 64, 65, 66, 67, 68, 69, 70, 71, 72, 73, 74, 75, 76, 77, 78, 79, 80, 81, 82, 83, 84, 85, 86, 87, 88, 89, 90, 91, 92, 93, 94, 95, 96, 97, 98] (fun m vs wx => ∃ i : Nat, i + m = len ∧ vs = [.int .i64 i, .bool (!decide (t ∈ out) && freeB K T I out t i)] ∧ Below w.heap.size w wx ∧ Hp w.heap.size (S2 (.slice (some ⟨ba, oa, none⟩) all.length ca) all (.slice Ao out.length co) out) wx) len (by kernel_rfl) rfl
        ⟨0, by omega, by rw [show freeB K T I out t 0 = true from rfl, Bool.and_true]; rfl, hBx, hH⟩ ?_
      clear hBx hH hro hca h0 hba
      rintro m4 vs u5 wx ⟨i, him, rfl, hBx, hH⟩
      by_cases hi : i < len
      · have e10 : ((i : Int) < len) = True := eq_true (by omega)
        simp -dsimp (maxSteps := 2000000) only [Fa.F14, e10, VC.Now, VC.vc, VC.lib, VC.mapN_drewN, VC.mapB_drewN, VC.regQ, VC.loopK, VC.reg, VC.opP, VC.opS, VC.opZ, VC.nomulB, VC.pv, VC.thenF, VC.blkF, VC.retF, VC.resV, VC.oneV, VC.evo, VC.bin, VC.binI, VC.cmpI, VC.arithI, VC.ldv, VC.slv, VC.pickP, VC.holds, VC.chainOf, VC.look, VC.junk, VC.put, VC.eff, VC.callee, VC.pureB, VC.rdK, VC.rdKs, VC.okKs, VC.eqKs, VC.fillL, VC.putL, VC.stW, VC.stOK, VC.mixF, VC.setAll, Nat.reduceAdd, Nat.reduceSub, Nat.reduceMul, if_true, if_false, ↓reduceIte, forall_const, implies_true, reduceCtorEq, ne_eq, Nat.reduceBNe, Nat.reduceBEq, IntKind.signed, Nat.reduceEqDiff, Nat.reduceLeDiff, Nat.reduceLT, eq_self, Int.reduceEq, Int.reduceLT, Int.reduceLE, Int.reduceAdd, Int.reduceSub, VC.regC_nil, VC.regC_cons, VC.regCK_eq, VC.callQ, VC.tailQ, VC.goCall, VC.chStep]
        refine loop_slots Fa.mix [14, 12] [66, 67, 68, 69, 70, 71, 72, 73, 74, 75, 76, 77, 78, 79, 80, 81, 82, 83, 84, 85, 86, 87, 88, 89, 90, 91, 92, 93, 94, 95, 96, 97, 98] (fun m vs wx => ∃ j : Nat, j + m = i ∧ vs = [.int .i64 j, .bool (!decide (t ∈ out) && freeB K T I out t i && rowB K T I out t i j)] ∧ Below w.heap.size w wx ∧ Hp w.heap.size (S2 (.slice (some ⟨ba, oa, none⟩) all.length ca) all (.slice Ao out.length co) out) wx) i (by kernel_rfl) rfl
          ⟨0, by omega, by rw [show rowB K T I out t i 0 = true from rfl, Bool.and_true]; rfl, hBx, hH⟩ ?_
        clear hBx hH
        rintro m5 vs u6 wx ⟨j, hjm, rfl, hBx, hH⟩
        by_cases hj : j < i
        · have e11 : ((j : Int) < i) = True := eq_true (by omega)
          obtain ⟨b, o, rfl, hb, hc3⟩ := (hr.below hBx) (by omega)
          obtain ⟨i1, i2, i3, _⟩ := hc3 i hi
          obtain ⟨j1, j2, j3, _⟩ := hc3 j (by omega)
          obtain ⟨Ao2, co2, eo2, hro⟩ := ownRd (hH.get 1 rfl : OwnK _ 0 3 1 _ (.slice Ao out.length co) _)
          simp only [Value.slice.injEq] at eo2
          obtain ⟨rfl, _, rfl⟩ := eo2
          have hrs : rowB K T I out t i (j + 1) = (rowB K T I out t i j && !blkB K T I out t i j) := rowB_succ
          generalize hfl : (!decide (t ∈ out) && freeB K T I out t i) = fl
          simp -dsimp (maxSteps := 2000000) only [Fa.F14, e11, VC.Now, VC.vc, VC.lib, VC.mapN_drewN, VC.mapB_drewN, VC.regQ, VC.loopK, VC.reg, VC.opP, VC.opS, VC.opZ, VC.nomulB, VC.pv, VC.thenF, VC.blkF, VC.retF, VC.resV, VC.oneV, VC.evo, VC.bin, VC.binI, VC.cmpI, VC.arithI, VC.ldv, VC.slv, VC.pickP, VC.holds, VC.chainOf, VC.look, VC.junk, VC.put, VC.eff, VC.callee, VC.pureB, VC.rdK, VC.rdKs, VC.okKs, VC.eqKs, VC.fillL, VC.putL, VC.stW, VC.stOK, VC.mixF, VC.setAll, Nat.reduceAdd, Nat.reduceSub, Nat.reduceMul, if_true, if_false, ↓reduceIte, forall_const, implies_true, reduceCtorEq, ne_eq, Nat.reduceBNe, Nat.reduceBEq, IntKind.signed, Nat.reduceEqDiff, Nat.reduceLeDiff, Nat.reduceLT, eq_self, Int.reduceEq, Int.reduceLT, Int.reduceLE, Int.reduceAdd, Int.reduceSub, VC.regC_nil, VC.regC_cons, VC.regCK_eq, VC.callQ, VC.tailQ, VC.goCall, VC.chStep]
          refine WP_calls Fa.mix (by kernel_rfl) (by kernel_rfl) rfl ?_
          have hcl0 : decide (clP (K j) (T j) (I j) (K i) (T i) (I i)) = clashB K T I j i := by unfold clashB; exact decide_eq_decide.2 Iff.rfl
          by_cases q1 : T i = t
          case neg =>
            have e12 := eq_false q1
            have hbk : blkB K T I out t i j = false := by unfold blkB; rw [decide_eq_false q1, Bool.false_and]
            rw [hbk, Bool.not_false, Bool.and_true] at hrs
            simp -dsimp (maxSteps := 2000000) only [Fa.F14, e12, rdI_of i2, i2, hb, Int.toNat_natCast, undef, tu, uf, ul, ur, VC.Now, VC.vc_skip, VC.vc_ret, VC.vc_exit, VC.vc_block, VC.vc_cond, VC.vc_region, VC.lib, VC.mapN_drewN, VC.mapB_drewN, VC.regQ, VC.loopK, VC.reg, VC.opP, VC.opS, VC.opZ, VC.nomulB, VC.pv, VC.thenF, VC.blkF, VC.retF, VC.resV, VC.oneV, VC.evo, VC.bin, VC.binI, VC.cmpI, VC.arithI, VC.ldv, VC.slv, VC.pickP, VC.holds, VC.chainOf, VC.look, VC.junk, VC.put, VC.eff, VC.callee, VC.pureB, VC.rdK, VC.rdKs, VC.okKs, VC.eqKs, VC.fillL, VC.putL, VC.stW, VC.stOK, VC.mixF, VC.setAll, Nat.reduceAdd, Nat.reduceSub, Nat.reduceMul, if_true, if_false, ↓reduceIte, forall_const, implies_true, reduceCtorEq, ne_eq, Nat.reduceBNe, Nat.reduceBEq, IntKind.signed, Nat.reduceEqDiff, Nat.reduceLeDiff, Nat.reduceLT, eq_self, Int.reduceEq, Int.reduceLT, Int.reduceLE, Int.reduceAdd, Int.reduceSub, VC.regC_nil, VC.regC_cons, VC.regCK_eq, VC.callQ, VC.tailQ, VC.goCall, VC.chStep]
            refine ⟨by omega, ?_⟩
            refine CALLQ_of (v := .bool true) (fun h => h.elim) ?_
            simp -dsimp (maxSteps := 2000000) only [Fa.F14, e12, rdI_of i2, i2, hb, Int.toNat_natCast, undef, tu, uf, ul, ur, VC.Now, VC.vc_skip, VC.vc_ret, VC.vc_exit, VC.vc_block, VC.vc_cond, VC.vc_region, VC.lib, VC.mapN_drewN, VC.mapB_drewN, VC.regQ, VC.loopK, VC.reg, VC.opP, VC.opS, VC.opZ, VC.nomulB, VC.pv, VC.thenF, VC.blkF, VC.retF, VC.resV, VC.oneV, VC.evo, VC.bin, VC.binI, VC.cmpI, VC.arithI, VC.ldv, VC.slv, VC.pickP, VC.holds, VC.chainOf, VC.look, VC.junk, VC.put, VC.eff, VC.callee, VC.pureB, VC.rdK, VC.rdKs, VC.okKs, VC.eqKs, VC.fillL, VC.putL, VC.stW, VC.stOK, VC.mixF, VC.setAll, Nat.reduceAdd, Nat.reduceSub, Nat.reduceMul, if_true, if_false, ↓reduceIte, forall_const, implies_true, reduceCtorEq, ne_eq, Nat.reduceBNe, Nat.reduceBEq, IntKind.signed, Nat.reduceEqDiff, Nat.reduceLeDiff, Nat.reduceLT, eq_self, Int.reduceEq, Int.reduceLT, Int.reduceLE, Int.reduceAdd, Int.reduceSub, VC.regC_nil, VC.regC_cons, VC.regCK_eq, VC.callQ, VC.tailQ, VC.goCall, VC.chStep]
            refine CALLQ_of (v := .bool true) (fun h => h.elim) ?_
            simp -dsimp (maxSteps := 2000000) only [Fa.F14, e12, rdI_of i2, i2, hb, Int.toNat_natCast, undef, tu, uf, ul, ur, VC.Now, VC.vc_skip, VC.vc_ret, VC.vc_exit, VC.vc_block, VC.vc_cond, VC.vc_region, VC.lib, VC.mapN_drewN, VC.mapB_drewN, VC.regQ, VC.loopK, VC.reg, VC.opP, VC.opS, VC.opZ, VC.nomulB, VC.pv, VC.thenF, VC.blkF, VC.retF, VC.resV, VC.oneV, VC.evo, VC.bin, VC.binI, VC.cmpI, VC.arithI, VC.ldv, VC.slv, VC.pickP, VC.holds, VC.chainOf, VC.look, VC.junk, VC.put, VC.eff, VC.callee, VC.pureB, VC.rdK, VC.rdKs, VC.okKs, VC.eqKs, VC.fillL, VC.putL, VC.stW, VC.stOK, VC.mixF, VC.setAll, Nat.reduceAdd, Nat.reduceSub, Nat.reduceMul, if_true, if_false, ↓reduceIte, forall_const, implies_true, reduceCtorEq, ne_eq, Nat.reduceBNe, Nat.reduceBEq, IntKind.signed, Nat.reduceEqDiff, Nat.reduceLeDiff, Nat.reduceLT, eq_self, Int.reduceEq, Int.reduceLT, Int.reduceLE, Int.reduceAdd, Int.reduceSub, VC.regC_nil, VC.regC_cons, VC.regCK_eq, VC.callQ, VC.tailQ, VC.goCall, VC.chStep]
            intro u9 w9 hB9
            try simp -dsimp (maxSteps := 2000000) only [Fa.F14, VC.Now, VC.vc, VC.lib, VC.mapN_drewN, VC.mapB_drewN, VC.regQ, VC.loopK, VC.reg, VC.opP, VC.opS, VC.opZ, VC.nomulB, VC.pv, VC.thenF, VC.blkF, VC.retF, VC.resV, VC.oneV, VC.evo, VC.bin, VC.binI, VC.cmpI, VC.arithI, VC.ldv, VC.slv, VC.pickP, VC.holds, VC.chainOf, VC.look, VC.junk, VC.put, VC.eff, VC.callee, VC.pureB, VC.rdK, VC.rdKs, VC.okKs, VC.eqKs, VC.fillL, VC.putL, VC.stW, VC.stOK, VC.mixF, VC.setAll, Nat.reduceAdd, Nat.reduceSub, Nat.reduceMul, if_true, if_false, ↓reduceIte, forall_const, implies_true, reduceCtorEq, ne_eq, Nat.reduceBNe, Nat.reduceBEq, IntKind.signed, Nat.reduceEqDiff, Nat.reduceLeDiff, Nat.reduceLT, eq_self, Int.reduceEq, Int.reduceLT, Int.reduceLE, Int.reduceAdd, Int.reduceSub, VC.regC_nil, VC.regC_cons, VC.regCK_eq, VC.callQ, VC.tailQ, VC.goCall, VC.chStep]
            exact ⟨fits_i64_nat (by omega), SAME.intro (by kernel_rfl), m5 - 1, by omega, j + 1, by omega, by rw [hrs]; rfl, hBx.trans (hB9.mono hH.base), hH.below hB9⟩
          have e12 := eq_true q1
          simp -dsimp (maxSteps := 2000000) only [Fa.F14, e12, rdI_of i1, i1, rdI_of i2, i2, rdI_of i3, i3, rdI_of j1, j1, rdI_of j2, j2, rdI_of j3, j3, hb, Int.toNat_natCast, undef, tu, uf, ul, ur, VC.Now, VC.vc_skip, VC.vc_ret, VC.vc_exit, VC.vc_block, VC.vc_cond, VC.vc_region, VC.lib, VC.mapN_drewN, VC.mapB_drewN, VC.regQ, VC.loopK, VC.reg, VC.opP, VC.opS, VC.opZ, VC.nomulB, VC.pv, VC.thenF, VC.blkF, VC.retF, VC.resV, VC.oneV, VC.evo, VC.bin, VC.binI, VC.cmpI, VC.arithI, VC.ldv, VC.slv, VC.pickP, VC.holds, VC.chainOf, VC.look, VC.junk, VC.put, VC.eff, VC.callee, VC.pureB, VC.rdK, VC.rdKs, VC.okKs, VC.eqKs, VC.fillL, VC.putL, VC.stW, VC.stOK, VC.mixF, VC.setAll, Nat.reduceAdd, Nat.reduceSub, Nat.reduceMul, if_true, if_false, ↓reduceIte, forall_const, implies_true, reduceCtorEq, ne_eq, Nat.reduceBNe, Nat.reduceBEq, IntKind.signed, Nat.reduceEqDiff, Nat.reduceLeDiff, Nat.reduceLT, eq_self, Int.reduceEq, Int.reduceLT, Int.reduceLE, Int.reduceAdd, Int.reduceSub, VC.regC_nil, VC.regC_cons, VC.regCK_eq, VC.callQ, VC.tailQ, VC.goCall, VC.chStep]
          refine ⟨by omega, by omega, by omega, ?_⟩
          have hjl : j < len := by omega
          cases hcl : clashB K T I j i with
          | false =>
            have hbk : blkB K T I out t i j = false := by unfold blkB; rw [hcl, Bool.false_and, Bool.and_false]
            rw [hbk, Bool.not_false, Bool.and_true] at hrs
            refine CALLQ_of (v := .bool false) (fun _ wr _ => by rw [← hcl, ← hcl0]; exact clashR_any (K j) (T j) (I j) (K i) (T i) (I i) wr (hK j hjl) (hK i hi)) ?_
            simp -dsimp (maxSteps := 2000000) only [Fa.F14, e12, rdI_of i1, i1, rdI_of i2, i2, rdI_of i3, i3, rdI_of j1, j1, rdI_of j2, j2, rdI_of j3, j3, hb, Int.toNat_natCast, undef, tu, uf, ul, ur, VC.Now, VC.vc_skip, VC.vc_ret, VC.vc_exit, VC.vc_block, VC.vc_cond, VC.vc_region, VC.lib, VC.mapN_drewN, VC.mapB_drewN, VC.regQ, VC.loopK, VC.reg, VC.opP, VC.opS, VC.opZ, VC.nomulB, VC.pv, VC.thenF, VC.blkF, VC.retF, VC.resV, VC.oneV, VC.evo, VC.bin, VC.binI, VC.cmpI, VC.arithI, VC.ldv, VC.slv, VC.pickP, VC.holds, VC.chainOf, VC.look, VC.junk, VC.put, VC.eff, VC.callee, VC.pureB, VC.rdK, VC.rdKs, VC.okKs, VC.eqKs, VC.fillL, VC.putL, VC.stW, VC.stOK, VC.mixF, VC.setAll, Nat.reduceAdd, Nat.reduceSub, Nat.reduceMul, if_true, if_false, ↓reduceIte, forall_const, implies_true, reduceCtorEq, ne_eq, Nat.reduceBNe, Nat.reduceBEq, IntKind.signed, Nat.reduceEqDiff, Nat.reduceLeDiff, Nat.reduceLT, eq_self, Int.reduceEq, Int.reduceLT, Int.reduceLE, Int.reduceAdd, Int.reduceSub, VC.regC_nil, VC.regC_cons, VC.regCK_eq, VC.callQ, VC.tailQ, VC.goCall, VC.chStep]
            refine CALLQ_of (v := .bool true) (fun h => h.elim) ?_
            simp -dsimp (maxSteps := 2000000) only [Fa.F14, e12, rdI_of i1, i1, rdI_of i2, i2, rdI_of i3, i3, rdI_of j1, j1, rdI_of j2, j2, rdI_of j3, j3, hb, Int.toNat_natCast, undef, tu, uf, ul, ur, VC.Now, VC.vc_skip, VC.vc_ret, VC.vc_exit, VC.vc_block, VC.vc_cond, VC.vc_region, VC.lib, VC.mapN_drewN, VC.mapB_drewN, VC.regQ, VC.loopK, VC.reg, VC.opP, VC.opS, VC.opZ, VC.nomulB, VC.pv, VC.thenF, VC.blkF, VC.retF, VC.resV, VC.oneV, VC.evo, VC.bin, VC.binI, VC.cmpI, VC.arithI, VC.ldv, VC.slv, VC.pickP, VC.holds, VC.chainOf, VC.look, VC.junk, VC.put, VC.eff, VC.callee, VC.pureB, VC.rdK, VC.rdKs, VC.okKs, VC.eqKs, VC.fillL, VC.putL, VC.stW, VC.stOK, VC.mixF, VC.setAll, Nat.reduceAdd, Nat.reduceSub, Nat.reduceMul, if_true, if_false, ↓reduceIte, forall_const, implies_true, reduceCtorEq, ne_eq, Nat.reduceBNe, Nat.reduceBEq, IntKind.signed, Nat.reduceEqDiff, Nat.reduceLeDiff, Nat.reduceLT, eq_self, Int.reduceEq, Int.reduceLT, Int.reduceLE, Int.reduceAdd, Int.reduceSub, VC.regC_nil, VC.regC_cons, VC.regCK_eq, VC.callQ, VC.tailQ, VC.goCall, VC.chStep]
            intro u9 w9 hB9
            try simp -dsimp (maxSteps := 2000000) only [Fa.F14, VC.Now, VC.vc, VC.lib, VC.mapN_drewN, VC.mapB_drewN, VC.regQ, VC.loopK, VC.reg, VC.opP, VC.opS, VC.opZ, VC.nomulB, VC.pv, VC.thenF, VC.blkF, VC.retF, VC.resV, VC.oneV, VC.evo, VC.bin, VC.binI, VC.cmpI, VC.arithI, VC.ldv, VC.slv, VC.pickP, VC.holds, VC.chainOf, VC.look, VC.junk, VC.put, VC.eff, VC.callee, VC.pureB, VC.rdK, VC.rdKs, VC.okKs, VC.eqKs, VC.fillL, VC.putL, VC.stW, VC.stOK, VC.mixF, VC.setAll, Nat.reduceAdd, Nat.reduceSub, Nat.reduceMul, if_true, if_false, ↓reduceIte, forall_const, implies_true, reduceCtorEq, ne_eq, Nat.reduceBNe, Nat.reduceBEq, IntKind.signed, Nat.reduceEqDiff, Nat.reduceLeDiff, Nat.reduceLT, eq_self, Int.reduceEq, Int.reduceLT, Int.reduceLE, Int.reduceAdd, Int.reduceSub, VC.regC_nil, VC.regC_cons, VC.regCK_eq, VC.callQ, VC.tailQ, VC.goCall, VC.chStep]
            exact ⟨fits_i64_nat (by omega), SAME.intro (by kernel_rfl), m5 - 1, by omega, j + 1, by omega, by rw [hrs]; rfl, hBx.trans (hB9.mono hH.base), hH.below hB9⟩
          | true =>
            have hbk : blkB K T I out t i j = !decide (T j ∈ out) := by unfold blkB; rw [hcl, decide_eq_true q1, Bool.true_and, Bool.true_and]
            rw [hbk, Bool.not_not] at hrs
            refine CALLQ_of (v := .bool true) (fun _ wr _ => by rw [← hcl, ← hcl0]; exact clashR_any (K j) (T j) (I j) (K i) (T i) (I i) wr (hK j hjl) (hK i hi)) ?_
            simp -dsimp (maxSteps := 2000000) only [Fa.F14, e12, rdI_of i1, i1, rdI_of i2, i2, rdI_of i3, i3, rdI_of j1, j1, rdI_of j2, j2, rdI_of j3, j3, hb, Int.toNat_natCast, undef, tu, uf, ul, ur, VC.Now, VC.vc_skip, VC.vc_ret, VC.vc_exit, VC.vc_block, VC.vc_cond, VC.vc_region, VC.lib, VC.mapN_drewN, VC.mapB_drewN, VC.regQ, VC.loopK, VC.reg, VC.opP, VC.opS, VC.opZ, VC.nomulB, VC.pv, VC.thenF, VC.blkF, VC.retF, VC.resV, VC.oneV, VC.evo, VC.bin, VC.binI, VC.cmpI, VC.arithI, VC.ldv, VC.slv, VC.pickP, VC.holds, VC.chainOf, VC.look, VC.junk, VC.put, VC.eff, VC.callee, VC.pureB, VC.rdK, VC.rdKs, VC.okKs, VC.eqKs, VC.fillL, VC.putL, VC.stW, VC.stOK, VC.mixF, VC.setAll, Nat.reduceAdd, Nat.reduceSub, Nat.reduceMul, if_true, if_false, ↓reduceIte, forall_const, implies_true, reduceCtorEq, ne_eq, Nat.reduceBNe, Nat.reduceBEq, IntKind.signed, Nat.reduceEqDiff, Nat.reduceLeDiff, Nat.reduceLT, eq_self, Int.reduceEq, Int.reduceLT, Int.reduceLE, Int.reduceAdd, Int.reduceSub, VC.regC_nil, VC.regC_cons, VC.regCK_eq, VC.callQ, VC.tailQ, VC.goCall, VC.chStep]
            refine ⟨by omega, ?_⟩
            cases hin : decide (T j ∈ out) with
            | false =>
              rw [hin, Bool.and_false] at hrs
              refine CALLQ_of (v := .bool false) (fun _ wr hBw => by
                rw [← hin]
                exact (has_any Ao co out (T j) wr (hro.below hBw) (by omega)).mono fun e w' h => ⟨h.1, by rw [h.2]; exact Below.refl _ _⟩) ?_
              simp -dsimp (maxSteps := 2000000) only [Fa.F14, e12, rdI_of i1, i1, rdI_of i2, i2, rdI_of i3, i3, rdI_of j1, j1, rdI_of j2, j2, rdI_of j3, j3, hb, Int.toNat_natCast, undef, tu, uf, ul, ur, VC.Now, VC.vc_skip, VC.vc_ret, VC.vc_exit, VC.vc_block, VC.vc_cond, VC.vc_region, VC.lib, VC.mapN_drewN, VC.mapB_drewN, VC.regQ, VC.loopK, VC.reg, VC.opP, VC.opS, VC.opZ, VC.nomulB, VC.pv, VC.thenF, VC.blkF, VC.retF, VC.resV, VC.oneV, VC.evo, VC.bin, VC.binI, VC.cmpI, VC.arithI, VC.ldv, VC.slv, VC.pickP, VC.holds, VC.chainOf, VC.look, VC.junk, VC.put, VC.eff, VC.callee, VC.pureB, VC.rdK, VC.rdKs, VC.okKs, VC.eqKs, VC.fillL, VC.putL, VC.stW, VC.stOK, VC.mixF, VC.setAll, Nat.reduceAdd, Nat.reduceSub, Nat.reduceMul, if_true, if_false, ↓reduceIte, forall_const, implies_true, reduceCtorEq, ne_eq, Nat.reduceBNe, Nat.reduceBEq, IntKind.signed, Nat.reduceEqDiff, Nat.reduceLeDiff, Nat.reduceLT, eq_self, Int.reduceEq, Int.reduceLT, Int.reduceLE, Int.reduceAdd, Int.reduceSub, VC.regC_nil, VC.regC_cons, VC.regCK_eq, VC.callQ, VC.tailQ, VC.goCall, VC.chStep]
              intro u9 w9 hB9
              try simp -dsimp (maxSteps := 2000000) only [Fa.F14, VC.Now, VC.vc, VC.lib, VC.mapN_drewN, VC.mapB_drewN, VC.regQ, VC.loopK, VC.reg, VC.opP, VC.opS, VC.opZ, VC.nomulB, VC.pv, VC.thenF, VC.blkF, VC.retF, VC.resV, VC.oneV, VC.evo, VC.bin, VC.binI, VC.cmpI, VC.arithI, VC.ldv, VC.slv, VC.pickP, VC.holds, VC.chainOf, VC.look, VC.junk, VC.put, VC.eff, VC.callee, VC.pureB, VC.rdK, VC.rdKs, VC.okKs, VC.eqKs, VC.fillL, VC.putL, VC.stW, VC.stOK, VC.mixF, VC.setAll, Nat.reduceAdd, Nat.reduceSub, Nat.reduceMul, if_true, if_false, ↓reduceIte, forall_const, implies_true, reduceCtorEq, ne_eq, Nat.reduceBNe, Nat.reduceBEq, IntKind.signed, Nat.reduceEqDiff, Nat.reduceLeDiff, Nat.reduceLT, eq_self, Int.reduceEq, Int.reduceLT, Int.reduceLE, Int.reduceAdd, Int.reduceSub, VC.regC_nil, VC.regC_cons, VC.regCK_eq, VC.callQ, VC.tailQ, VC.goCall, VC.chStep]
              exact ⟨fits_i64_nat (by omega), SAME.intro (by kernel_rfl), m5 - 1, by omega, j + 1, by omega, by rw [hrs, Bool.and_false]; rfl, hBx.trans (hB9.mono hH.base), hH.below hB9⟩
            | true =>
              rw [hin, Bool.and_true] at hrs
              refine CALLQ_of (v := .bool true) (fun _ wr hBw => by
                rw [← hin]
                exact (has_any Ao co out (T j) wr (hro.below hBw) (by omega)).mono fun e w' h => ⟨h.1, by rw [h.2]; exact Below.refl _ _⟩) ?_
              simp -dsimp (maxSteps := 2000000) only [Fa.F14, e12, rdI_of i1, i1, rdI_of i2, i2, rdI_of i3, i3, rdI_of j1, j1, rdI_of j2, j2, rdI_of j3, j3, hb, Int.toNat_natCast, undef, tu, uf, ul, ur, VC.Now, VC.vc_skip, VC.vc_ret, VC.vc_exit, VC.vc_block, VC.vc_cond, VC.vc_region, VC.lib, VC.mapN_drewN, VC.mapB_drewN, VC.regQ, VC.loopK, VC.reg, VC.opP, VC.opS, VC.opZ, VC.nomulB, VC.pv, VC.thenF, VC.blkF, VC.retF, VC.resV, VC.oneV, VC.evo, VC.bin, VC.binI, VC.cmpI, VC.arithI, VC.ldv, VC.slv, VC.pickP, VC.holds, VC.chainOf, VC.look, VC.junk, VC.put, VC.eff, VC.callee, VC.pureB, VC.rdK, VC.rdKs, VC.okKs, VC.eqKs, VC.fillL, VC.putL, VC.stW, VC.stOK, VC.mixF, VC.setAll, Nat.reduceAdd, Nat.reduceSub, Nat.reduceMul, if_true, if_false, ↓reduceIte, forall_const, implies_true, reduceCtorEq, ne_eq, Nat.reduceBNe, Nat.reduceBEq, IntKind.signed, Nat.reduceEqDiff, Nat.reduceLeDiff, Nat.reduceLT, eq_self, Int.reduceEq, Int.reduceLT, Int.reduceLE, Int.reduceAdd, Int.reduceSub, VC.regC_nil, VC.regC_cons, VC.regCK_eq, VC.callQ, VC.tailQ, VC.goCall, VC.chStep]
              intro u9 w9 hB9
              try simp -dsimp (maxSteps := 2000000) only [Fa.F14, VC.Now, VC.vc, VC.lib, VC.mapN_drewN, VC.mapB_drewN, VC.regQ, VC.loopK, VC.reg, VC.opP, VC.opS, VC.opZ, VC.nomulB, VC.pv, VC.thenF, VC.blkF, VC.retF, VC.resV, VC.oneV, VC.evo, VC.bin, VC.binI, VC.cmpI, VC.arithI, VC.ldv, VC.slv, VC.pickP, VC.holds, VC.chainOf, VC.look, VC.junk, VC.put, VC.eff, VC.callee, VC.pureB, VC.rdK, VC.rdKs, VC.okKs, VC.eqKs, VC.fillL, VC.putL, VC.stW, VC.stOK, VC.mixF, VC.setAll, Nat.reduceAdd, Nat.reduceSub, Nat.reduceMul, if_true, if_false, ↓reduceIte, forall_const, implies_true, reduceCtorEq, ne_eq, Nat.reduceBNe, Nat.reduceBEq, IntKind.signed, Nat.reduceEqDiff, Nat.reduceLeDiff, Nat.reduceLT, eq_self, Int.reduceEq, Int.reduceLT, Int.reduceLE, Int.reduceAdd, Int.reduceSub, VC.regC_nil, VC.regC_cons, VC.regCK_eq, VC.callQ, VC.tailQ, VC.goCall, VC.chStep]
              exact ⟨fits_i64_nat (by omega), SAME.intro (by kernel_rfl), m5 - 1, by omega, j + 1, by omega, by rw [hrs]; rfl, hBx.trans (hB9.mono hH.base), hH.below hB9⟩
        · obtain rfl : j = i := by omega
          have e11 : ((j : Int) < j) = False := eq_false (by omega)
          simp -dsimp (maxSteps := 2000000) only [Fa.F14, e11, VC.Now, VC.vc, VC.lib, VC.mapN_drewN, VC.mapB_drewN, VC.regQ, VC.loopK, VC.reg, VC.opP, VC.opS, VC.opZ, VC.nomulB, VC.pv, VC.thenF, VC.blkF, VC.retF, VC.resV, VC.oneV, VC.evo, VC.bin, VC.binI, VC.cmpI, VC.arithI, VC.ldv, VC.slv, VC.pickP, VC.holds, VC.chainOf, VC.look, VC.junk, VC.put, VC.eff, VC.callee, VC.pureB, VC.rdK, VC.rdKs, VC.okKs, VC.eqKs, VC.fillL, VC.putL, VC.stW, VC.stOK, VC.mixF, VC.setAll, Nat.reduceAdd, Nat.reduceSub, Nat.reduceMul, if_true, if_false, ↓reduceIte, forall_const, implies_true, reduceCtorEq, ne_eq, Nat.reduceBNe, Nat.reduceBEq, IntKind.signed, Nat.reduceEqDiff, Nat.reduceLeDiff, Nat.reduceLT, eq_self, Int.reduceEq, Int.reduceLT, Int.reduceLE, Int.reduceAdd, Int.reduceSub, VC.regC_nil, VC.regC_cons, VC.regCK_eq, VC.callQ, VC.tailQ, VC.goCall, VC.chStep]
          exact ⟨fits_i64_nat (by omega), SAME.intro (by kernel_rfl), m4 - 1, by omega, j + 1, by omega, by rw [freeB_succ, Bool.and_assoc]; rfl, hBx, hH⟩
      · obtain rfl : i = len := by omega
        have e10 : ((i : Int) < i) = False := eq_false (by omega)
        rw [hfm]
        by_cases hmy : mayB K T I i out t = true
        · rw [if_pos hmy] at hdn
          rw [hmy]
          simp -dsimp (maxSteps := 2000000) only [Fa.F14, e10, VC.Now, VC.vc, VC.lib, VC.mapN_drewN, VC.mapB_drewN, VC.regQ, VC.loopK, VC.reg, VC.opP, VC.opS, VC.opZ, VC.nomulB, VC.pv, VC.thenF, VC.blkF, VC.retF, VC.resV, VC.oneV, VC.evo, VC.bin, VC.binI, VC.cmpI, VC.arithI, VC.ldv, VC.slv, VC.pickP, VC.holds, VC.chainOf, VC.look, VC.junk, VC.put, VC.eff, VC.callee, VC.pureB, VC.rdK, VC.rdKs, VC.okKs, VC.eqKs, VC.fillL, VC.putL, VC.stW, VC.stOK, VC.mixF, VC.setAll, Nat.reduceAdd, Nat.reduceSub, Nat.reduceMul, if_true, if_false, ↓reduceIte, forall_const, implies_true, reduceCtorEq, ne_eq, Nat.reduceBNe, Nat.reduceBEq, IntKind.signed, Nat.reduceEqDiff, Nat.reduceLeDiff, Nat.reduceLT, eq_self, Int.reduceEq, Int.reduceLT, Int.reduceLE, Int.reduceAdd, Int.reduceSub, VC.regC_nil, VC.regC_cons, VC.regCK_eq, VC.callQ, VC.tailQ, VC.goCall, VC.chStep]
          exact ⟨fits_i64 (by omega) (by omega), SAME.intro (by kernel_rfl), q, by omega, by omega, by rw [hdn], hBx, hH⟩
        · rw [if_neg hmy] at hdn
          rw [show mayB K T I i out t = false by simpa using hmy]
          simp -dsimp (maxSteps := 2000000) only [Fa.F14, e10, VC.Now, VC.vc, VC.lib, VC.mapN_drewN, VC.mapB_drewN, VC.regQ, VC.loopK, VC.reg, VC.opP, VC.opS, VC.opZ, VC.nomulB, VC.pv, VC.thenF, VC.blkF, VC.retF, VC.resV, VC.oneV, VC.evo, VC.bin, VC.binI, VC.cmpI, VC.arithI, VC.ldv, VC.slv, VC.pickP, VC.holds, VC.chainOf, VC.look, VC.junk, VC.put, VC.eff, VC.callee, VC.pureB, VC.rdK, VC.rdKs, VC.okKs, VC.eqKs, VC.fillL, VC.putL, VC.stW, VC.stOK, VC.mixF, VC.setAll, Nat.reduceAdd, Nat.reduceSub, Nat.reduceMul, if_true, if_false, ↓reduceIte, forall_const, implies_true, reduceCtorEq, ne_eq, Nat.reduceBNe, Nat.reduceBEq, IntKind.signed, Nat.reduceEqDiff, Nat.reduceLeDiff, Nat.reduceLT, eq_self, Int.reduceEq, Int.reduceLT, Int.reduceLE, Int.reduceAdd, Int.reduceSub, VC.regC_nil, VC.regC_cons, VC.regCK_eq, VC.callQ, VC.tailQ, VC.goCall, VC.chStep]
          exact ⟨fits_i64 (by omega) (by omega), SAME.intro (by kernel_rfl), q, by omega, by omega, by rw [hdn], hBx, hH⟩
end Go.Proofs.Ytelfmhiaafkimaa
