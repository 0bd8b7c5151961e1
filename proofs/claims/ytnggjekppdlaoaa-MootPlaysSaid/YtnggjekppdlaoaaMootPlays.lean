/- MootPlays: the law. -/
import Derived.Test.YtnggjekppdlaoaaMootSame
import Derived.Test.YtnggjekppdlaoaaBits2
namespace Go.Proofs.Ytnggjekppdlaoaa
open Go Go.RowKit Go.VC
set_option linter.unusedSimpArgs false
set_option linter.unusedVariables false

def moCode (n f : Int) (liars len : Nat) : Int :=
  if n < 1 ∨ 7 < n ∨ 120 < len then 1 else if f < 0 ∨ n ≤ 3 * f then 3 else if liars < 2 ^ n.toNat then 0 else 2

set_option maxRecDepth 8000 in
set_option maxHeartbeats 1000000 in
theorem mootCheck_any (n f : Int) (liars len : Nat) (w : World) (fn : fits .i64 n) (ff : fits .i64 f) (hL : liars < 4294967296) :
    Calls Try.prog 16 #[.int .i64 n, .int .i64 f, .int .u32 liars, .int .i64 len] w fun e w' => e = .returned (.int .i64 (moCode n f liars len)) ∧ Below w.heap.size w w' := by
  by_cases h1 : n < 1 ∨ 7 < n ∨ 120 < len
  · have hcode : moCode n f liars len = 1 := by unfold moCode; rw [if_pos h1]
    rw [hcode]
    by_cases q1 : n < 1
    · have e1 := eq_true q1
      refine calls_vc (rs := [.tmp 8]) Fa.mix Try.func16 rfl Try.ntmps16 rfl (by kernel_rfl) (Nat.le_of_ble_eq_true rfl) ?_
      simp -dsimp only [Fa.F16, e1, undef, tu, uf, ul, ur, VC.Now, VC.vc, VC.lib, VC.regQ, VC.loopK, VC.reg, VC.opP, VC.pv, VC.thenF, VC.blkF, VC.retF, VC.resV, VC.oneV, VC.evo, VC.bin, VC.binI, VC.cmpI, VC.arithI, VC.ldv, VC.slv, VC.pickP, VC.holds, VC.chainOf, VC.look, VC.junk, VC.put, VC.eff, VC.callee, VC.pureB, VC.rdK, VC.rdKs, VC.okKs, VC.eqKs, VC.fillL, VC.putL, VC.stW, VC.stOK, VC.mixF, VC.setAll, Nat.reduceAdd, Nat.reduceSub, Nat.reduceMul, if_true, if_false, ↓reduceIte, forall_const, implies_true, reduceCtorEq, ne_eq, Nat.reduceBNe, Nat.reduceBEq, IntKind.signed, Nat.reduceEqDiff, Nat.reduceLeDiff, Nat.reduceLT, eq_self, Int.reduceEq, Int.reduceLT, Int.reduceLE, Int.reduceAdd, Int.reduceSub, VC.regC_nil, VC.regC_cons, VC.regCK_eq, VC.callQ, VC.tailQ, VC.goCall, VC.chStep]
      exact Below.refl _ _
    have e1 := eq_false q1
    by_cases q2 : 7 < n
    · have e2 := eq_true q2
      refine calls_vc (rs := [.tmp 8]) Fa.mix Try.func16 rfl Try.ntmps16 rfl (by kernel_rfl) (Nat.le_of_ble_eq_true rfl) ?_
      simp -dsimp only [Fa.F16, e1, e2, undef, tu, uf, ul, ur, VC.Now, VC.vc, VC.lib, VC.regQ, VC.loopK, VC.reg, VC.opP, VC.pv, VC.thenF, VC.blkF, VC.retF, VC.resV, VC.oneV, VC.evo, VC.bin, VC.binI, VC.cmpI, VC.arithI, VC.ldv, VC.slv, VC.pickP, VC.holds, VC.chainOf, VC.look, VC.junk, VC.put, VC.eff, VC.callee, VC.pureB, VC.rdK, VC.rdKs, VC.okKs, VC.eqKs, VC.fillL, VC.putL, VC.stW, VC.stOK, VC.mixF, VC.setAll, Nat.reduceAdd, Nat.reduceSub, Nat.reduceMul, if_true, if_false, ↓reduceIte, forall_const, implies_true, reduceCtorEq, ne_eq, Nat.reduceBNe, Nat.reduceBEq, IntKind.signed, Nat.reduceEqDiff, Nat.reduceLeDiff, Nat.reduceLT, eq_self, Int.reduceEq, Int.reduceLT, Int.reduceLE, Int.reduceAdd, Int.reduceSub, VC.regC_nil, VC.regC_cons, VC.regCK_eq, VC.callQ, VC.tailQ, VC.goCall, VC.chStep]
      exact Below.refl _ _
    have e2 := eq_false q2
    have e3 : ((120 : Int) < len) = True := eq_true (by omega)
    refine calls_vc (rs := [.tmp 8]) Fa.mix Try.func16 rfl Try.ntmps16 rfl (by kernel_rfl) (Nat.le_of_ble_eq_true rfl) ?_
    simp -dsimp only [Fa.F16, e1, e2, e3, undef, tu, uf, ul, ur, VC.Now, VC.vc, VC.lib, VC.regQ, VC.loopK, VC.reg, VC.opP, VC.pv, VC.thenF, VC.blkF, VC.retF, VC.resV, VC.oneV, VC.evo, VC.bin, VC.binI, VC.cmpI, VC.arithI, VC.ldv, VC.slv, VC.pickP, VC.holds, VC.chainOf, VC.look, VC.junk, VC.put, VC.eff, VC.callee, VC.pureB, VC.rdK, VC.rdKs, VC.okKs, VC.eqKs, VC.fillL, VC.putL, VC.stW, VC.stOK, VC.mixF, VC.setAll, Nat.reduceAdd, Nat.reduceSub, Nat.reduceMul, if_true, if_false, ↓reduceIte, forall_const, implies_true, reduceCtorEq, ne_eq, Nat.reduceBNe, Nat.reduceBEq, IntKind.signed, Nat.reduceEqDiff, Nat.reduceLeDiff, Nat.reduceLT, eq_self, Int.reduceEq, Int.reduceLT, Int.reduceLE, Int.reduceAdd, Int.reduceSub, VC.regC_nil, VC.regC_cons, VC.regCK_eq, VC.callQ, VC.tailQ, VC.goCall, VC.chStep]
    exact Below.refl _ _
  have e1 : (n < 1) = False := eq_false (by omega)
  have e2 : (7 < n) = False := eq_false (by omega)
  have e3 : ((120 : Int) < len) = False := eq_false (by omega)
  by_cases h2 : f < 0 ∨ n ≤ 3 * f
  · have hcode : moCode n f liars len = 3 := by unfold moCode; rw [if_neg h1, if_pos h2]
    rw [hcode]
    by_cases q4 : f < 0
    · have e4 := eq_true q4
      refine calls_vc (rs := [.tmp 8]) Fa.mix Try.func16 rfl Try.ntmps16 rfl (by kernel_rfl) (Nat.le_of_ble_eq_true rfl) ?_
      simp -dsimp only [Fa.F16, e1, e2, e3, e4, undef, tu, uf, ul, ur, VC.Now, VC.vc, VC.lib, VC.regQ, VC.loopK, VC.reg, VC.opP, VC.pv, VC.thenF, VC.blkF, VC.retF, VC.resV, VC.oneV, VC.evo, VC.bin, VC.binI, VC.cmpI, VC.arithI, VC.ldv, VC.slv, VC.pickP, VC.holds, VC.chainOf, VC.look, VC.junk, VC.put, VC.eff, VC.callee, VC.pureB, VC.rdK, VC.rdKs, VC.okKs, VC.eqKs, VC.fillL, VC.putL, VC.stW, VC.stOK, VC.mixF, VC.setAll, Nat.reduceAdd, Nat.reduceSub, Nat.reduceMul, if_true, if_false, ↓reduceIte, forall_const, implies_true, reduceCtorEq, ne_eq, Nat.reduceBNe, Nat.reduceBEq, IntKind.signed, Nat.reduceEqDiff, Nat.reduceLeDiff, Nat.reduceLT, eq_self, Int.reduceEq, Int.reduceLT, Int.reduceLE, Int.reduceAdd, Int.reduceSub, VC.regC_nil, VC.regC_cons, VC.regCK_eq, VC.callQ, VC.tailQ, VC.goCall, VC.chStep]
      exact Below.refl _ _
    have e4 := eq_false q4
    by_cases q5 : 2 < f
    · have e5 := eq_true q5
      refine calls_vc (rs := [.tmp 8]) Fa.mix Try.func16 rfl Try.ntmps16 rfl (by kernel_rfl) (Nat.le_of_ble_eq_true rfl) ?_
      simp -dsimp only [Fa.F16, e1, e2, e3, e4, e5, undef, tu, uf, ul, ur, VC.Now, VC.vc, VC.lib, VC.regQ, VC.loopK, VC.reg, VC.opP, VC.pv, VC.thenF, VC.blkF, VC.retF, VC.resV, VC.oneV, VC.evo, VC.bin, VC.binI, VC.cmpI, VC.arithI, VC.ldv, VC.slv, VC.pickP, VC.holds, VC.chainOf, VC.look, VC.junk, VC.put, VC.eff, VC.callee, VC.pureB, VC.rdK, VC.rdKs, VC.okKs, VC.eqKs, VC.fillL, VC.putL, VC.stW, VC.stOK, VC.mixF, VC.setAll, Nat.reduceAdd, Nat.reduceSub, Nat.reduceMul, if_true, if_false, ↓reduceIte, forall_const, implies_true, reduceCtorEq, ne_eq, Nat.reduceBNe, Nat.reduceBEq, IntKind.signed, Nat.reduceEqDiff, Nat.reduceLeDiff, Nat.reduceLT, eq_self, Int.reduceEq, Int.reduceLT, Int.reduceLE, Int.reduceAdd, Int.reduceSub, VC.regC_nil, VC.regC_cons, VC.regCK_eq, VC.callQ, VC.tailQ, VC.goCall, VC.chStep]
      exact Below.refl _ _
    have e5 := eq_false q5
    have e6 : (n ≤ 3 * f) = True := eq_true (by omega)
    refine calls_vc (rs := [.tmp 8]) Fa.mix Try.func16 rfl Try.ntmps16 rfl (by kernel_rfl) (Nat.le_of_ble_eq_true rfl) ?_
    simp -dsimp only [Fa.F16, e1, e2, e3, e4, e5, e6, undef, tu, uf, ul, ur, VC.Now, VC.vc, VC.lib, VC.regQ, VC.loopK, VC.reg, VC.opP, VC.pv, VC.thenF, VC.blkF, VC.retF, VC.resV, VC.oneV, VC.evo, VC.bin, VC.binI, VC.cmpI, VC.arithI, VC.ldv, VC.slv, VC.pickP, VC.holds, VC.chainOf, VC.look, VC.junk, VC.put, VC.eff, VC.callee, VC.pureB, VC.rdK, VC.rdKs, VC.okKs, VC.eqKs, VC.fillL, VC.putL, VC.stW, VC.stOK, VC.mixF, VC.setAll, Nat.reduceAdd, Nat.reduceSub, Nat.reduceMul, if_true, if_false, ↓reduceIte, forall_const, implies_true, reduceCtorEq, ne_eq, Nat.reduceBNe, Nat.reduceBEq, IntKind.signed, Nat.reduceEqDiff, Nat.reduceLeDiff, Nat.reduceLT, eq_self, Int.reduceEq, Int.reduceLT, Int.reduceLE, Int.reduceAdd, Int.reduceSub, VC.regC_nil, VC.regC_cons, VC.regCK_eq, VC.callQ, VC.tailQ, VC.goCall, VC.chStep]
    exact ⟨fits_i64 (by omega) (by omega), Below.refl _ _⟩
  have e4 : (f < 0) = False := eq_false (by omega)
  have e5 : (2 < f) = False := eq_false (by omega)
  have e6 : (n ≤ 3 * f) = False := eq_false (by omega)
  obtain ⟨N, rfl⟩ : ∃ N : Nat, n = N := ⟨n.toNat, by omega⟩
  have hcode : moCode N f liars len = if liars < 2 ^ N then 0 else 2 := by unfold moCode; rw [if_neg h1, if_neg h2]; rfl
  refine calls_vc (rs := [.tmp 8]) Fa.mix Try.func16 rfl Try.ntmps16 rfl (by kernel_rfl) (Nat.le_of_ble_eq_true rfl) ?_
  simp -dsimp only [Fa.F16, e1, e2, e3, e4, e5, e6, undef, tu, uf, ul, ur, VC.Now, VC.vc, VC.lib, VC.regQ, VC.loopK, VC.reg, VC.opP, VC.pv, VC.thenF, VC.blkF, VC.retF, VC.resV, VC.oneV, VC.evo, VC.bin, VC.binI, VC.cmpI, VC.arithI, VC.ldv, VC.slv, VC.pickP, VC.holds, VC.chainOf, VC.look, VC.junk, VC.put, VC.eff, VC.callee, VC.pureB, VC.rdK, VC.rdKs, VC.okKs, VC.eqKs, VC.fillL, VC.putL, VC.stW, VC.stOK, VC.mixF, VC.setAll, Nat.reduceAdd, Nat.reduceSub, Nat.reduceMul, if_true, if_false, ↓reduceIte, forall_const, implies_true, reduceCtorEq, ne_eq, Nat.reduceBNe, Nat.reduceBEq, IntKind.signed, Nat.reduceEqDiff, Nat.reduceLeDiff, Nat.reduceLT, eq_self, Int.reduceEq, Int.reduceLT, Int.reduceLE, Int.reduceAdd, Int.reduceSub, VC.regC_nil, VC.regC_cons, VC.regCK_eq, VC.callQ, VC.tailQ, VC.goCall, VC.chStep]
  refine fun u => ⟨fits_i64 (by omega) (by omega), fun u1 => ?_⟩
  refine CALL_of (outside_any liars N w hL (by omega)) fun w1 hw1 => ?_
  subst hw1
  by_cases h3 : liars < 2 ^ N
  · rw [if_pos h3] at hcode
    simp -dsimp only [Fa.F16, h3, VC.Now, VC.vc, VC.lib, VC.regQ, VC.loopK, VC.reg, VC.opP, VC.pv, VC.thenF, VC.blkF, VC.retF, VC.resV, VC.oneV, VC.evo, VC.bin, VC.binI, VC.cmpI, VC.arithI, VC.ldv, VC.slv, VC.pickP, VC.holds, VC.chainOf, VC.look, VC.junk, VC.put, VC.eff, VC.callee, VC.pureB, VC.rdK, VC.rdKs, VC.okKs, VC.eqKs, VC.fillL, VC.putL, VC.stW, VC.stOK, VC.mixF, VC.setAll, Nat.reduceAdd, Nat.reduceSub, Nat.reduceMul, if_true, if_false, ↓reduceIte, forall_const, implies_true, reduceCtorEq, ne_eq, Nat.reduceBNe, Nat.reduceBEq, IntKind.signed, Nat.reduceEqDiff, Nat.reduceLeDiff, Nat.reduceLT, eq_self, Int.reduceEq, Int.reduceLT, Int.reduceLE, Int.reduceAdd, Int.reduceSub, VC.regC_nil, VC.regC_cons, VC.regCK_eq, VC.callQ, VC.tailQ, VC.goCall, VC.chStep]
    exact ⟨by rw [hcode], Below.refl _ _⟩
  · rw [if_neg h3] at hcode
    simp -dsimp only [Fa.F16, h3, VC.Now, VC.vc, VC.lib, VC.regQ, VC.loopK, VC.reg, VC.opP, VC.pv, VC.thenF, VC.blkF, VC.retF, VC.resV, VC.oneV, VC.evo, VC.bin, VC.binI, VC.cmpI, VC.arithI, VC.ldv, VC.slv, VC.pickP, VC.holds, VC.chainOf, VC.look, VC.junk, VC.put, VC.eff, VC.callee, VC.pureB, VC.rdK, VC.rdKs, VC.okKs, VC.eqKs, VC.fillL, VC.putL, VC.stW, VC.stOK, VC.mixF, VC.setAll, Nat.reduceAdd, Nat.reduceSub, Nat.reduceMul, if_true, if_false, ↓reduceIte, forall_const, implies_true, reduceCtorEq, ne_eq, Nat.reduceBNe, Nat.reduceBEq, IntKind.signed, Nat.reduceEqDiff, Nat.reduceLeDiff, Nat.reduceLT, eq_self, Int.reduceEq, Int.reduceLT, Int.reduceLE, Int.reduceAdd, Int.reduceSub, VC.regC_nil, VC.regC_cons, VC.regCK_eq, VC.callQ, VC.tailQ, VC.goCall, VC.chStep]
    exact ⟨by rw [hcode], Below.refl _ _⟩

theorem one4 {v : Value} (hv : v ∈ [nilS, nilS, nilS, nilS]) : v.oneCell' = true := by simp at hv; rw [hv]; rfl
set_option maxRecDepth 8000 in
set_option maxHeartbeats 4000000 in
theorem mplay_bad (A : Option Addr) (n f : Int) (liars len cap : Nat) (w : World) (fn : fits .i64 n) (ff : fits .i64 f) (hL : liars < 4294967296) (hc : ¬ moCode n f liars len = 0) :
    Calls Try.prog 15 #[.int .i64 n, .int .i64 f, .int .u32 liars, .slice A len cap] w fun e w' => e = .returned (.tuple #[.agg #[nilS, nilS, nilS, nilS], .int .i64 (moCode n f liars len)]) ∧ Below w.heap.size w w' := by
  have hb0 := Box.new w [nilS, nilS, nilS, nilS] 47
  have hB0 := below_box (Below.refl w.heap.size w) (.cells #[nilS, nilS, nilS, nilS] 47)
  obtain ⟨ok, hb1⟩ := hb0.stAll (vs := [nilS, nilS, nilS, nilS]) rfl (fun v hv => one4 hv)
  have hag := (stW_agree (X := fun j => j = w.heap.size) (g := w.heap.size) rfl [nilS, nilS, nilS, nilS] (w.alloc (.cells #[nilS, nilS, nilS, nilS] 47)) 0).to_below hB0 hB0.size fun j hj => by omega
  change Box (stW (w.alloc (.cells #[nilS, nilS, nilS, nilS] 47)) _ _ _) _ _ at hb1
  change stOK (w.alloc (.cells #[nilS, nilS, nilS, nilS] 47)) _ _ _ at ok
  have x0 := hb1.at (i := 0) rfl
  have x1 := hb1.at (i := 1) rfl
  have x2 := hb1.at (i := 2) rfl
  have x3 := hb1.at (i := 3) rfl
  by_cases h1 : n < 1 ∨ 7 < n ∨ 120 < len
  · have hcode : moCode n f liars len = 1 := by unfold moCode; rw [if_pos h1]
    rw [hcode]
    by_cases q1 : n < 1
    · have e1 := eq_true q1
      refine calls_vc (rs := [.cell 8 47, .tmp 9]) Fa.mix Try.func15 rfl Try.ntmps15 rfl (by kernel_rfl) (Nat.le_of_ble_eq_true rfl) ?_
      simp -dsimp only [Fa.F15, e1, undef, tu, uf, ul, ur, rdSA_of x0, rdSN_of x0, rdSC_of x0, x0, rdSA_of x1, rdSN_of x1, rdSC_of x1, x1, rdSA_of x2, rdSN_of x2, rdSC_of x2, x2, rdSA_of x3, rdSN_of x3, rdSC_of x3, x3, VC.Now, VC.vc, VC.lib, VC.regQ, VC.loopK, VC.reg, VC.opP, VC.pv, VC.thenF, VC.blkF, VC.retF, VC.resV, VC.oneV, VC.evo, VC.bin, VC.binI, VC.cmpI, VC.arithI, VC.ldv, VC.slv, VC.pickP, VC.holds, VC.chainOf, VC.look, VC.junk, VC.put, VC.eff, VC.callee, VC.pureB, VC.rdK, VC.rdKs, VC.okKs, VC.eqKs, VC.fillL, VC.putL, VC.mixF, VC.setAll, Nat.reduceAdd, Nat.reduceSub, Nat.reduceMul, if_true, if_false, ↓reduceIte, forall_const, implies_true, reduceCtorEq, ne_eq, Nat.reduceBNe, Nat.reduceBEq, IntKind.signed, Nat.reduceEqDiff, Nat.reduceLeDiff, Nat.reduceLT, eq_self, Int.reduceEq, Int.reduceLT, Int.reduceLE, Int.reduceAdd, Int.reduceSub, VC.regC_nil, VC.regC_cons, VC.regCK_eq, VC.callQ, VC.tailQ, VC.goCall, VC.chStep]
      exact ⟨ok, hag⟩
    have e1 := eq_false q1
    by_cases q2 : 7 < n
    · have e2 := eq_true q2
      refine calls_vc (rs := [.cell 8 47, .tmp 9]) Fa.mix Try.func15 rfl Try.ntmps15 rfl (by kernel_rfl) (Nat.le_of_ble_eq_true rfl) ?_
      simp -dsimp only [Fa.F15, e1, e2, undef, tu, uf, ul, ur, rdSA_of x0, rdSN_of x0, rdSC_of x0, x0, rdSA_of x1, rdSN_of x1, rdSC_of x1, x1, rdSA_of x2, rdSN_of x2, rdSC_of x2, x2, rdSA_of x3, rdSN_of x3, rdSC_of x3, x3, VC.Now, VC.vc, VC.lib, VC.regQ, VC.loopK, VC.reg, VC.opP, VC.pv, VC.thenF, VC.blkF, VC.retF, VC.resV, VC.oneV, VC.evo, VC.bin, VC.binI, VC.cmpI, VC.arithI, VC.ldv, VC.slv, VC.pickP, VC.holds, VC.chainOf, VC.look, VC.junk, VC.put, VC.eff, VC.callee, VC.pureB, VC.rdK, VC.rdKs, VC.okKs, VC.eqKs, VC.fillL, VC.putL, VC.mixF, VC.setAll, Nat.reduceAdd, Nat.reduceSub, Nat.reduceMul, if_true, if_false, ↓reduceIte, forall_const, implies_true, reduceCtorEq, ne_eq, Nat.reduceBNe, Nat.reduceBEq, IntKind.signed, Nat.reduceEqDiff, Nat.reduceLeDiff, Nat.reduceLT, eq_self, Int.reduceEq, Int.reduceLT, Int.reduceLE, Int.reduceAdd, Int.reduceSub, VC.regC_nil, VC.regC_cons, VC.regCK_eq, VC.callQ, VC.tailQ, VC.goCall, VC.chStep]
      exact ⟨ok, hag⟩
    have e2 := eq_false q2
    have e3 : ((120 : Int) < len) = True := eq_true (by omega)
    refine calls_vc (rs := [.cell 8 47, .tmp 9]) Fa.mix Try.func15 rfl Try.ntmps15 rfl (by kernel_rfl) (Nat.le_of_ble_eq_true rfl) ?_
    simp -dsimp only [Fa.F15, e1, e2, e3, undef, tu, uf, ul, ur, rdSA_of x0, rdSN_of x0, rdSC_of x0, x0, rdSA_of x1, rdSN_of x1, rdSC_of x1, x1, rdSA_of x2, rdSN_of x2, rdSC_of x2, x2, rdSA_of x3, rdSN_of x3, rdSC_of x3, x3, VC.Now, VC.vc, VC.lib, VC.regQ, VC.loopK, VC.reg, VC.opP, VC.pv, VC.thenF, VC.blkF, VC.retF, VC.resV, VC.oneV, VC.evo, VC.bin, VC.binI, VC.cmpI, VC.arithI, VC.ldv, VC.slv, VC.pickP, VC.holds, VC.chainOf, VC.look, VC.junk, VC.put, VC.eff, VC.callee, VC.pureB, VC.rdK, VC.rdKs, VC.okKs, VC.eqKs, VC.fillL, VC.putL, VC.mixF, VC.setAll, Nat.reduceAdd, Nat.reduceSub, Nat.reduceMul, if_true, if_false, ↓reduceIte, forall_const, implies_true, reduceCtorEq, ne_eq, Nat.reduceBNe, Nat.reduceBEq, IntKind.signed, Nat.reduceEqDiff, Nat.reduceLeDiff, Nat.reduceLT, eq_self, Int.reduceEq, Int.reduceLT, Int.reduceLE, Int.reduceAdd, Int.reduceSub, VC.regC_nil, VC.regC_cons, VC.regCK_eq, VC.callQ, VC.tailQ, VC.goCall, VC.chStep]
    exact ⟨ok, hag⟩
  have e1 : (n < 1) = False := eq_false (by omega)
  have e2 : (7 < n) = False := eq_false (by omega)
  have e3 : ((120 : Int) < len) = False := eq_false (by omega)
  have ht := Int.tdiv_eq_ediv_of_nonneg (a := n - 1) (b := 3) (by omega)
  by_cases h2 : f < 0 ∨ n ≤ 3 * f
  · have hcode : moCode n f liars len = 3 := by unfold moCode; rw [if_neg h1, if_pos h2]
    rw [hcode]
    by_cases q4 : f < 0
    · have e4 := eq_true q4
      refine calls_vc (rs := [.cell 8 47, .tmp 9]) Fa.mix Try.func15 rfl Try.ntmps15 rfl (by kernel_rfl) (Nat.le_of_ble_eq_true rfl) ?_
      simp -dsimp only [Fa.F15, e1, e2, e3, e4, undef, tu, uf, ul, ur, rdSA_of x0, rdSN_of x0, rdSC_of x0, x0, rdSA_of x1, rdSN_of x1, rdSC_of x1, x1, rdSA_of x2, rdSN_of x2, rdSC_of x2, x2, rdSA_of x3, rdSN_of x3, rdSC_of x3, x3, VC.Now, VC.vc, VC.lib, VC.regQ, VC.loopK, VC.reg, VC.opP, VC.pv, VC.thenF, VC.blkF, VC.retF, VC.resV, VC.oneV, VC.evo, VC.bin, VC.binI, VC.cmpI, VC.arithI, VC.ldv, VC.slv, VC.pickP, VC.holds, VC.chainOf, VC.look, VC.junk, VC.put, VC.eff, VC.callee, VC.pureB, VC.rdK, VC.rdKs, VC.okKs, VC.eqKs, VC.fillL, VC.putL, VC.mixF, VC.setAll, Nat.reduceAdd, Nat.reduceSub, Nat.reduceMul, if_true, if_false, ↓reduceIte, forall_const, implies_true, reduceCtorEq, ne_eq, Nat.reduceBNe, Nat.reduceBEq, IntKind.signed, Nat.reduceEqDiff, Nat.reduceLeDiff, Nat.reduceLT, eq_self, Int.reduceEq, Int.reduceLT, Int.reduceLE, Int.reduceAdd, Int.reduceSub, VC.regC_nil, VC.regC_cons, VC.regCK_eq, VC.callQ, VC.tailQ, VC.goCall, VC.chStep]
      exact ⟨ok, hag⟩
    have e4 := eq_false q4
    have e5 : ((n - 1).tdiv 3 < f) = True := eq_true (by rw [ht]; omega)
    refine calls_vc (rs := [.cell 8 47, .tmp 9]) Fa.mix Try.func15 rfl Try.ntmps15 rfl (by kernel_rfl) (Nat.le_of_ble_eq_true rfl) ?_
    simp -dsimp only [Fa.F15, e1, e2, e3, e4, e5, undef, tu, uf, ul, ur, rdSA_of x0, rdSN_of x0, rdSC_of x0, x0, rdSA_of x1, rdSN_of x1, rdSC_of x1, x1, rdSA_of x2, rdSN_of x2, rdSC_of x2, x2, rdSA_of x3, rdSN_of x3, rdSC_of x3, x3, VC.Now, VC.vc, VC.lib, VC.regQ, VC.loopK, VC.reg, VC.opP, VC.pv, VC.thenF, VC.blkF, VC.retF, VC.resV, VC.oneV, VC.evo, VC.bin, VC.binI, VC.cmpI, VC.arithI, VC.ldv, VC.slv, VC.pickP, VC.holds, VC.chainOf, VC.look, VC.junk, VC.put, VC.eff, VC.callee, VC.pureB, VC.rdK, VC.rdKs, VC.okKs, VC.eqKs, VC.fillL, VC.putL, VC.mixF, VC.setAll, Nat.reduceAdd, Nat.reduceSub, Nat.reduceMul, if_true, if_false, ↓reduceIte, forall_const, implies_true, reduceCtorEq, ne_eq, Nat.reduceBNe, Nat.reduceBEq, IntKind.signed, Nat.reduceEqDiff, Nat.reduceLeDiff, Nat.reduceLT, eq_self, Int.reduceEq, Int.reduceLT, Int.reduceLE, Int.reduceAdd, Int.reduceSub, VC.regC_nil, VC.regC_cons, VC.regCK_eq, VC.callQ, VC.tailQ, VC.goCall, VC.chStep]
    exact ⟨fits_i64 (by omega) (by omega), fits_i64 (by rw [ht]; omega) (by rw [ht]; omega), ok, hag⟩
  have e4 : (f < 0) = False := eq_false (by omega)
  have e5 : ((n - 1).tdiv 3 < f) = False := eq_false (by rw [ht]; omega)
  obtain ⟨N, rfl⟩ : ∃ N : Nat, n = N := ⟨n.toNat, by omega⟩
  have hcode : moCode N f liars len = if liars < 2 ^ N then 0 else 2 := by unfold moCode; rw [if_neg h1, if_neg h2]; rfl
  have hN : ¬ liars < 2 ^ N := fun h => hc (by rw [hcode, if_pos h])
  rw [if_neg hN] at hcode
  rw [hcode]
  have e6 : ((liars : Int).fdiv (2 ^ shN .u32 (N : Int)) = 0) = False := by rw [shr_zero (by omega)]; exact eq_false hN
  refine calls_vc (rs := [.cell 8 47, .tmp 9]) Fa.mix Try.func15 rfl Try.ntmps15 rfl (by kernel_rfl) (Nat.le_of_ble_eq_true rfl) ?_
  simp -dsimp only [Fa.F15, e1, e2, e3, e4, e5, e6, undef, tu, uf, ul, ur, rdSA_of x0, rdSN_of x0, rdSC_of x0, x0, rdSA_of x1, rdSN_of x1, rdSC_of x1, x1, rdSA_of x2, rdSN_of x2, rdSC_of x2, x2, rdSA_of x3, rdSN_of x3, rdSC_of x3, x3, VC.Now, VC.vc, VC.lib, VC.regQ, VC.loopK, VC.reg, VC.opP, VC.pv, VC.thenF, VC.blkF, VC.retF, VC.resV, VC.oneV, VC.evo, VC.bin, VC.binI, VC.cmpI, VC.arithI, VC.ldv, VC.slv, VC.pickP, VC.holds, VC.chainOf, VC.look, VC.junk, VC.put, VC.eff, VC.callee, VC.pureB, VC.rdK, VC.rdKs, VC.okKs, VC.eqKs, VC.fillL, VC.putL, VC.mixF, VC.setAll, Nat.reduceAdd, Nat.reduceSub, Nat.reduceMul, if_true, if_false, ↓reduceIte, forall_const, implies_true, reduceCtorEq, ne_eq, Nat.reduceBNe, Nat.reduceBEq, IntKind.signed, Nat.reduceEqDiff, Nat.reduceLeDiff, Nat.reduceLT, eq_self, Int.reduceEq, Int.reduceLT, Int.reduceLE, Int.reduceAdd, Int.reduceSub, VC.regC_nil, VC.regC_cons, VC.regCK_eq, VC.callQ, VC.tailQ, VC.goCall, VC.chStep]
  exact ⟨fits_i64 (by omega) (by omega), fits_i64 (by rw [ht]; omega) (by rw [ht]; omega), by omega, ok, hag⟩

theorem box4 (w : World) (vs : List Value) (h1 : ∀ v ∈ vs, v.oneCell' = true) (hl : vs.length = 4) :
    VC.stOK (w.alloc (.cells #[nilS, nilS, nilS, nilS] 47)) ⟨w.heap.size, 0, none⟩ 0 vs ∧ Box (VC.stW (w.alloc (.cells #[nilS, nilS, nilS, nilS] 47)) ⟨w.heap.size, 0, none⟩ 0 vs) w.heap.size vs ∧ Below w.heap.size w (VC.stW (w.alloc (.cells #[nilS, nilS, nilS, nilS] 47)) ⟨w.heap.size, 0, none⟩ 0 vs) ∧ (VC.stW (w.alloc (.cells #[nilS, nilS, nilS, nilS] 47)) ⟨w.heap.size, 0, none⟩ 0 vs).heap.size = w.heap.size + 1 := by
  obtain ⟨h2, h3⟩ := (Box.new w [nilS, nilS, nilS, nilS] 47).stAll (vs := vs) hl h1
  refine ⟨h2, h3, (stW_agree (X := fun j => j = w.heap.size) rfl vs _ 0).to_below (below_box (Below.refl _ _) _) (by simp) fun j hj => by omega, ?_⟩
  rw [stW_size]; simp
theorem one4s {A0 A1 A2 A3 : Option Addr} {n0 n1 n2 n3 c0 c1 c2 c3 : Nat} : ∀ v ∈ [Value.slice A0 n0 c0, .slice A1 n1 c1, .slice A2 n2 c2, .slice A3 n3 c3], v.oneCell' = true := by
  intro v hv; simp at hv; rcases hv with rfl | rfl | rfl | rfl <;> rfl

theorem cell_stW {yb : Nat} {p : Addr} : ∀ (vs : List Value) (w : World) (i : Nat), (∀ j, j < i + vs.length → p ≠ ⟨yb, j, none⟩) → (stW w ⟨yb, 0, none⟩ i vs).cell? p = w.cell? p
  | [], w, i, _ => rfl
  | v :: vs, w, i, h => by
    rw [stW_cons, cell_stW vs _ (i + 1) fun j hj => h j (by simp only [List.length_cons]; omega)]
    exact World.cell?_setCell_other _ _ _ _ fun e => h i (by simp only [List.length_cons]; omega) (by first | exact e | exact e.symm)
theorem keep4 {w : World} {yb : Nat} {p : Addr} {u : Value} {vs : List Value} (bY : Box w yb [nilS, nilS, nilS, nilS]) (hl : vs.length = 4) (hu : ∀ A n c, u ≠ .slice A n c) (h : w.cell? p = some u) : (stW w ⟨yb, 0, none⟩ 0 vs).cell? p = some u := by
  rw [cell_stW]
  · exact h
  · rintro j hj rfl
    have hb : w.cell? ⟨yb, j, none⟩ = some nilS := bY.at (i := j) (by
      rw [hl] at hj
      rcases j with _ | _ | _ | _ | j
      · rfl
      · rfl
      · rfl
      · rfl
      · omega)
    rw [hb] at h
    exact hu _ _ _ (Option.some.inj h).symm
theorem Four.keep {codes : List Int} {nb : Nat} {p r : Nat → Int} {cl dl : List Bool} {v : Value} {w : World} {yb : Nat} {vs : List Value} (h : Four codes nb p r cl dl v w) (bY : Box w yb [nilS, nilS, nilS, nilS]) (hl : vs.length = 4) : Four codes nb p r cl dl v (stW w ⟨yb, 0, none⟩ 0 vs) := by
  obtain ⟨A0, c0, A1, c1, A2, c2, A3, c3, rfl, h0, h1, h2, h3⟩ := h
  have hs : ∀ {b : Nat}, b < w.heap.size → b < (stW w ⟨yb, 0, none⟩ 0 vs).heap.size := fun h => by rw [stW_size]; exact h
  have key : ∀ {A : Option Addr} {xs : List Value}, (∀ u ∈ xs, ∀ A n c, u ≠ .slice A n c) → Rd w A xs → Rd (stW w ⟨yb, 0, none⟩ 0 vs) A xs := fun hx h h0 => by
    obtain ⟨b, o, rfl, hb, hc⟩ := h h0
    refine ⟨b, o, rfl, hs hb, fun j hj => ?_⟩
    have := hc j hj
    rw [List.getElem?_eq_getElem hj] at this ⊢
    exact keep4 bY hl (hx _ (List.getElem_mem hj)) this
  refine ⟨A0, c0, A1, c1, A2, c2, A3, c3, rfl, key ?_ h0, fun hn => ?_, key ?_ h2, key ?_ h3⟩
  · intro u hu; obtain ⟨x, _, rfl⟩ := List.mem_map.1 hu; intro A n c e; cases e
  · obtain ⟨b, o, rfl, hb, hc⟩ := h1 hn
    exact ⟨b, o, rfl, hs hb, fun i hi => ⟨keep4 bY hl (fun A n c e => by cases e) (hc i hi).1, keep4 bY hl (fun A n c e => by cases e) (hc i hi).2.1, (hc i hi).2.2⟩⟩
  · intro u hu; obtain ⟨x, _, rfl⟩ := List.mem_map.1 hu; intro A n c e; cases e
  · intro u hu; obtain ⟨x, _, rfl⟩ := List.mem_map.1 hu; intro A n c e; cases e

set_option maxRecDepth 8000 in
set_option maxHeartbeats 4000000 in
/-- The law. -/
theorem mootPlays_walk (n f : Int) (liars : Int) (A : Option Addr) (len cap : Nat) (w : World) (fn : fits .i64 n) (ff : fits .i64 f) (fL : fits .u32 liars) (r : ArgS w A len 5 [.i .i64, .i .i64, .i .i64, .i .i64, .i .i64]) (hl : len ≤ cap) (hm : cap ≤ maxLen) :
    Calls Try.prog 5 #[.int .i64 n, .int .i64 f, .int .u32 liars, .slice A len cap] w fun e w' => e = .returned (.bool true) ∧ Below w.heap.size w w' := by
  obtain ⟨L, rfl, hL⟩ := u32_of fL
  obtain ⟨g, hr⟩ := RdSay.of_arg r
  refine calls_vc (rs := [.tmp 8]) Fa.mix Try.func5 rfl Try.ntmps5 rfl (by kernel_rfl) (Nat.le_of_ble_eq_true rfl) ?_
  (repeat rw [vc_seq]); refine vc_plain _ fun Q hQ => ?_; simp -dsimp only [Fa.F5, VC.Now, VC.vc_skip, VC.vc_ret, VC.vc_exit, VC.vc_block, VC.vc_cond, VC.vc_region, VC.lib, VC.regQ, VC.loopK, VC.reg, VC.opP, VC.pv, VC.thenF, VC.blkF, VC.retF, VC.resV, VC.oneV, VC.evo, VC.bin, VC.binI, VC.cmpI, VC.arithI, VC.ldv, VC.slv, VC.pickP, VC.holds, VC.chainOf, VC.look, VC.junk, VC.put, VC.eff, VC.callee, VC.pureB, VC.rdK, VC.rdKs, VC.okKs, VC.eqKs, VC.fillL, VC.putL, VC.stW, VC.stOK, VC.mixF, VC.setAll, Nat.reduceAdd, Nat.reduceSub, Nat.reduceMul, if_true, if_false, ↓reduceIte, forall_const, implies_true, reduceCtorEq, ne_eq, Nat.reduceBNe, Nat.reduceBEq, IntKind.signed, Nat.reduceEqDiff, Nat.reduceLeDiff, Nat.reduceLT, eq_self, Int.reduceEq, Int.reduceLT, Int.reduceLE, Int.reduceAdd, Int.reduceSub, VC.regC_nil, VC.regC_cons, VC.regCK_eq, VC.callQ, VC.tailQ, VC.goCall, VC.chStep]
  subst hQ; simp -dsimp only [VC.Now, VC.vc_skip, VC.vc_ret, VC.vc_exit, VC.vc_block, VC.vc_cond, VC.vc_region, VC.lib, VC.regQ, VC.loopK, VC.reg, VC.opP, VC.pv, VC.thenF, VC.blkF, VC.retF, VC.resV, VC.oneV, VC.evo, VC.bin, VC.binI, VC.cmpI, VC.arithI, VC.ldv, VC.slv, VC.pickP, VC.holds, VC.chainOf, VC.look, VC.junk, VC.put, VC.eff, VC.callee, VC.pureB, VC.rdK, VC.rdKs, VC.okKs, VC.eqKs, VC.fillL, VC.putL, VC.stW, VC.stOK, VC.mixF, VC.setAll, Nat.reduceAdd, Nat.reduceSub, Nat.reduceMul, if_true, if_false, ↓reduceIte, forall_const, implies_true, reduceCtorEq, ne_eq, Nat.reduceBNe, Nat.reduceBEq, IntKind.signed, Nat.reduceEqDiff, Nat.reduceLeDiff, Nat.reduceLT, eq_self, Int.reduceEq, Int.reduceLT, Int.reduceLE, Int.reduceAdd, Int.reduceSub, VC.regC_nil, VC.regC_cons, VC.regCK_eq, VC.callQ, VC.tailQ, VC.goCall, VC.chStep]; (repeat rw [vc_seq]); refine vc_plain _ fun Q hQ => ?_; simp -dsimp only [Fa.F5, VC.Now, VC.vc_skip, VC.vc_ret, VC.vc_exit, VC.vc_block, VC.vc_cond, VC.vc_region, VC.lib, VC.regQ, VC.loopK, VC.reg, VC.opP, VC.pv, VC.thenF, VC.blkF, VC.retF, VC.resV, VC.oneV, VC.evo, VC.bin, VC.binI, VC.cmpI, VC.arithI, VC.ldv, VC.slv, VC.pickP, VC.holds, VC.chainOf, VC.look, VC.junk, VC.put, VC.eff, VC.callee, VC.pureB, VC.rdK, VC.rdKs, VC.okKs, VC.eqKs, VC.fillL, VC.putL, VC.stW, VC.stOK, VC.mixF, VC.setAll, Nat.reduceAdd, Nat.reduceSub, Nat.reduceMul, if_true, if_false, ↓reduceIte, forall_const, implies_true, reduceCtorEq, ne_eq, Nat.reduceBNe, Nat.reduceBEq, IntKind.signed, Nat.reduceEqDiff, Nat.reduceLeDiff, Nat.reduceLT, eq_self, Int.reduceEq, Int.reduceLT, Int.reduceLE, Int.reduceAdd, Int.reduceSub, VC.regC_nil, VC.regC_cons, VC.regCK_eq, VC.callQ, VC.tailQ, VC.goCall, VC.chStep]
  by_cases hc : moCode n f L len = 0
  · have hrange : (1 ≤ n ∧ n ≤ 7 ∧ len ≤ 120) ∧ (0 ≤ f ∧ 3 * f < n) ∧ L < 2 ^ n.toNat := by
      unfold moCode at hc
      split at hc
      · exact absurd hc (by decide)
      split at hc
      · exact absurd hc (by decide)
      split at hc
      · rename_i h1 h2 h3
        exact ⟨by omega, by omega, h3⟩
      · exact absurd hc (by decide)
    obtain ⟨⟨r1, r2, r3⟩, ⟨r4, r5⟩, r6⟩ := hrange
    obtain ⟨N, rfl⟩ : ∃ N : Nat, n = N := ⟨n.toNat, by omega⟩
    obtain ⟨F, rfl⟩ : ∃ F : Nat, f = F := ⟨f.toNat, by omega⟩
    rw [Int.toNat_natCast] at r6
    refine CALL_by (mplay_any A N F L len cap g w hr (by omega) (by omega) (by omega) r6 r3) ?_
    rintro _ w1 ⟨v, rfl, hv, hB1⟩
    refine ⟨_, rfl, ?_⟩
    obtain ⟨dl, hl1, hl2, hdl, hfour⟩ := hv.four
    have hnb := (mok N (N - F) L g len).nb1
    have hlc : ((List.range len).map (mcode N (N - F) L g)).length = len := by simp
    generalize hgc : (List.range len).map (mcode N (N - F) L g) = codes at hfour hlc
    generalize hgl : certL (N - F) (mst N (N - F) L g len) = cl at hfour hl2
    generalize hgn : (mst N (N - F) L g len).nb = nb at hfour hnb hl1 hl2
    obtain ⟨A0, c0, A1, c1, A2, c2, A3, c3, rfl, _⟩ := id hfour
    rw [VC.Now, VC.seqK_eq]
    obtain ⟨f1, f2, f3, f4⟩ := box4 w1 [.slice A0 codes.length c0, .slice A1 nb c1, .slice A2 cl.length c2, .slice A3 dl.length c3] one4s rfl
    simp -dsimp only [Fa.F5, VC.Now, VC.vc_skip, VC.vc_ret, VC.vc_exit, VC.vc_block, VC.vc_cond, VC.vc_region, VC.lib, VC.regQ, VC.loopK, VC.reg, VC.opP, VC.pv, VC.thenF, VC.blkF, VC.retF, VC.resV, VC.oneV, VC.evo, VC.bin, VC.binI, VC.cmpI, VC.arithI, VC.ldv, VC.slv, VC.pickP, VC.holds, VC.chainOf, VC.look, VC.junk, VC.put, VC.eff, VC.callee, VC.pureB, VC.rdK, VC.rdKs, VC.okKs, VC.eqKs, VC.fillL, VC.putL, VC.mixF, VC.setAll, Nat.reduceAdd, Nat.reduceSub, Nat.reduceMul, if_true, if_false, ↓reduceIte, forall_const, implies_true, reduceCtorEq, ne_eq, Nat.reduceBNe, Nat.reduceBEq, IntKind.signed, Nat.reduceEqDiff, Nat.reduceLeDiff, Nat.reduceLT, eq_self, Int.reduceEq, Int.reduceLT, Int.reduceLE, Int.reduceAdd, Int.reduceSub, VC.regC_nil, VC.regC_cons, VC.regCK_eq, VC.callQ, VC.tailQ, VC.goCall, VC.chStep]
    refine ⟨f1, ?_⟩
    clear f1
    change Box (stW (w1.alloc (.cells #[nilS, nilS, nilS, nilS] 47)) _ _ _) _ _ at f2
    change Below _ _ (stW (w1.alloc (.cells #[nilS, nilS, nilS, nilS] 47)) _ _ _) at f3
    change (stW (w1.alloc (.cells #[nilS, nilS, nilS, nilS] 47)) _ _ _).heap.size = _ at f4
    generalize stW (w1.alloc (.cells #[nilS, nilS, nilS, nilS] 47)) ⟨w1.heap.size, 0, none⟩ 0 [.slice A0 codes.length c0, .slice A1 nb c1, .slice A2 cl.length c2, .slice A3 dl.length c3] = w2 at *
    have hB2 := hB1.trans (f3.mono hB1.size)
    replace hfour := hfour.below f3
    subst hQ; simp -dsimp only [VC.Now, VC.vc_skip, VC.vc_ret, VC.vc_exit, VC.vc_block, VC.vc_cond, VC.vc_region, VC.lib, VC.regQ, VC.loopK, VC.reg, VC.opP, VC.pv, VC.thenF, VC.blkF, VC.retF, VC.resV, VC.oneV, VC.evo, VC.bin, VC.binI, VC.cmpI, VC.arithI, VC.ldv, VC.slv, VC.pickP, VC.holds, VC.chainOf, VC.look, VC.junk, VC.put, VC.eff, VC.callee, VC.pureB, VC.rdK, VC.rdKs, VC.okKs, VC.eqKs, VC.fillL, VC.putL, VC.stW, VC.stOK, VC.mixF, VC.setAll, Nat.reduceAdd, Nat.reduceSub, Nat.reduceMul, if_true, if_false, ↓reduceIte, forall_const, implies_true, reduceCtorEq, ne_eq, Nat.reduceBNe, Nat.reduceBEq, IntKind.signed, Nat.reduceEqDiff, Nat.reduceLeDiff, Nat.reduceLT, eq_self, Int.reduceEq, Int.reduceLT, Int.reduceLE, Int.reduceAdd, Int.reduceSub, VC.regC_nil, VC.regC_cons, VC.regCK_eq, VC.callQ, VC.tailQ, VC.goCall, VC.chStep]; (repeat rw [vc_seq]); refine vc_plain _ fun Q hQ => ?_; simp -dsimp only [Fa.F5, VC.Now, VC.vc_skip, VC.vc_ret, VC.vc_exit, VC.vc_block, VC.vc_cond, VC.vc_region, VC.lib, VC.regQ, VC.loopK, VC.reg, VC.opP, VC.pv, VC.thenF, VC.blkF, VC.retF, VC.resV, VC.oneV, VC.evo, VC.bin, VC.binI, VC.cmpI, VC.arithI, VC.ldv, VC.slv, VC.pickP, VC.holds, VC.chainOf, VC.look, VC.junk, VC.put, VC.eff, VC.callee, VC.pureB, VC.rdK, VC.rdKs, VC.okKs, VC.eqKs, VC.fillL, VC.putL, VC.stW, VC.stOK, VC.mixF, VC.setAll, Nat.reduceAdd, Nat.reduceSub, Nat.reduceMul, if_true, if_false, ↓reduceIte, forall_const, implies_true, reduceCtorEq, ne_eq, Nat.reduceBNe, Nat.reduceBEq, IntKind.signed, Nat.reduceEqDiff, Nat.reduceLeDiff, Nat.reduceLT, eq_self, Int.reduceEq, Int.reduceLT, Int.reduceLE, Int.reduceAdd, Int.reduceSub, VC.regC_nil, VC.regC_cons, VC.regCK_eq, VC.callQ, VC.tailQ, VC.goCall, VC.chStep]
    refine CALL_of (mootCheck_any N F L len w2 fn ff hL) fun w3 hw3 => ?_
    rw [hc, VC.Now, VC.seqK_eq]
    simp -dsimp only [Fa.F5, VC.Now, VC.vc_skip, VC.vc_ret, VC.vc_exit, VC.vc_block, VC.vc_cond, VC.vc_region, VC.lib, VC.regQ, VC.loopK, VC.reg, VC.opP, VC.pv, VC.thenF, VC.blkF, VC.retF, VC.resV, VC.oneV, VC.evo, VC.bin, VC.binI, VC.cmpI, VC.arithI, VC.ldv, VC.slv, VC.pickP, VC.holds, VC.chainOf, VC.look, VC.junk, VC.put, VC.eff, VC.callee, VC.pureB, VC.rdK, VC.rdKs, VC.okKs, VC.eqKs, VC.fillL, VC.putL, VC.stW, VC.stOK, VC.mixF, VC.setAll, Nat.reduceAdd, Nat.reduceSub, Nat.reduceMul, if_true, if_false, ↓reduceIte, forall_const, implies_true, reduceCtorEq, ne_eq, Nat.reduceBNe, Nat.reduceBEq, IntKind.signed, Nat.reduceEqDiff, Nat.reduceLeDiff, Nat.reduceLT, eq_self, Int.reduceEq, Int.reduceLT, Int.reduceLE, Int.reduceAdd, Int.reduceSub, VC.regC_nil, VC.regC_cons, VC.regCK_eq, VC.callQ, VC.tailQ, VC.goCall, VC.chStep]
    replace f2 := f2.below hw3
    have hB3 := hB2.trans (hw3.mono hB2.size)
    replace hfour := hfour.below hw3
    have hsx : w1.heap.size < w3.heap.size := f2.1
    generalize w1.heap.size = xb at *
    clear f3 f4 hw3
    have bx := f2; clear f2
    obtain ⟨f1, f2, f3, f4⟩ := box4 w3 [nilS, nilS, nilS, nilS] one4s rfl
    subst hQ; simp -dsimp only [VC.Now, VC.vc_skip, VC.vc_ret, VC.vc_exit, VC.vc_block, VC.vc_cond, VC.vc_region, VC.lib, VC.regQ, VC.loopK, VC.reg, VC.opP, VC.pv, VC.thenF, VC.blkF, VC.retF, VC.resV, VC.oneV, VC.evo, VC.bin, VC.binI, VC.cmpI, VC.arithI, VC.ldv, VC.slv, VC.pickP, VC.holds, VC.chainOf, VC.look, VC.junk, VC.put, VC.eff, VC.callee, VC.pureB, VC.rdK, VC.rdKs, VC.okKs, VC.eqKs, VC.fillL, VC.putL, VC.stW, VC.stOK, VC.mixF, VC.setAll, Nat.reduceAdd, Nat.reduceSub, Nat.reduceMul, if_true, if_false, ↓reduceIte, forall_const, implies_true, reduceCtorEq, ne_eq, Nat.reduceBNe, Nat.reduceBEq, IntKind.signed, Nat.reduceEqDiff, Nat.reduceLeDiff, Nat.reduceLT, eq_self, Int.reduceEq, Int.reduceLT, Int.reduceLE, Int.reduceAdd, Int.reduceSub, VC.regC_nil, VC.regC_cons, VC.regCK_eq, VC.callQ, VC.tailQ, VC.goCall, VC.chStep]; (repeat rw [vc_seq]); refine vc_plain _ fun Q hQ => ?_; simp -dsimp only [Fa.F5, VC.Now, VC.vc_skip, VC.vc_ret, VC.vc_exit, VC.vc_block, VC.vc_cond, VC.vc_region, VC.lib, VC.regQ, VC.loopK, VC.reg, VC.opP, VC.pv, VC.thenF, VC.blkF, VC.retF, VC.resV, VC.oneV, VC.evo, VC.bin, VC.binI, VC.cmpI, VC.arithI, VC.ldv, VC.slv, VC.pickP, VC.holds, VC.chainOf, VC.look, VC.junk, VC.put, VC.eff, VC.callee, VC.pureB, VC.rdK, VC.rdKs, VC.okKs, VC.eqKs, VC.fillL, VC.putL, VC.mixF, VC.setAll, Nat.reduceAdd, Nat.reduceSub, Nat.reduceMul, if_true, if_false, ↓reduceIte, forall_const, implies_true, reduceCtorEq, ne_eq, Nat.reduceBNe, Nat.reduceBEq, IntKind.signed, Nat.reduceEqDiff, Nat.reduceLeDiff, Nat.reduceLT, eq_self, Int.reduceEq, Int.reduceLT, Int.reduceLE, Int.reduceAdd, Int.reduceSub, VC.regC_nil, VC.regC_cons, VC.regCK_eq, VC.callQ, VC.tailQ, VC.goCall, VC.chStep]
    refine ⟨f1, ?_⟩
    clear f1
    change Box (stW (w3.alloc (.cells #[nilS, nilS, nilS, nilS] 47)) _ _ _) _ _ at f2
    change Below _ _ (stW (w3.alloc (.cells #[nilS, nilS, nilS, nilS] 47)) _ _ _) at f3
    change (stW (w3.alloc (.cells #[nilS, nilS, nilS, nilS] 47)) _ _ _).heap.size = _ at f4
    generalize stW (w3.alloc (.cells #[nilS, nilS, nilS, nilS] 47)) ⟨w3.heap.size, 0, none⟩ 0 [nilS, nilS, nilS, nilS] = w4 at *
    have hB4 := hB3.trans (f3.mono hB3.size)
    replace bx := bx.below f3
    replace hfour := hfour.below f3
    have hyn : xb ≠ w3.heap.size := by omega
    have hyw : w.heap.size ≤ w3.heap.size := hB3.size
    have bY := f2; clear f2
    generalize w3.heap.size = yb at *
    clear f3 f4
    subst hQ; simp -dsimp only [VC.Now, VC.vc_skip, VC.vc_ret, VC.vc_exit, VC.vc_block, VC.vc_cond, VC.vc_region, VC.lib, VC.regQ, VC.loopK, VC.reg, VC.opP, VC.pv, VC.thenF, VC.blkF, VC.retF, VC.resV, VC.oneV, VC.evo, VC.bin, VC.binI, VC.cmpI, VC.arithI, VC.ldv, VC.slv, VC.pickP, VC.holds, VC.chainOf, VC.look, VC.junk, VC.put, VC.eff, VC.callee, VC.pureB, VC.rdK, VC.rdKs, VC.okKs, VC.eqKs, VC.fillL, VC.putL, VC.stW, VC.stOK, VC.mixF, VC.setAll, Nat.reduceAdd, Nat.reduceSub, Nat.reduceMul, if_true, if_false, ↓reduceIte, forall_const, implies_true, reduceCtorEq, ne_eq, Nat.reduceBNe, Nat.reduceBEq, IntKind.signed, Nat.reduceEqDiff, Nat.reduceLeDiff, Nat.reduceLT, eq_self, Int.reduceEq, Int.reduceLT, Int.reduceLE, Int.reduceAdd, Int.reduceSub, VC.regC_nil, VC.regC_cons, VC.regCK_eq, VC.callQ, VC.tailQ, VC.goCall, VC.chStep]; (repeat rw [vc_seq]); refine vc_plain _ fun Q hQ => ?_; simp -dsimp only [Fa.F5, VC.Now, VC.vc_skip, VC.vc_ret, VC.vc_exit, VC.vc_block, VC.vc_cond, VC.vc_region, VC.lib, VC.regQ, VC.loopK, VC.reg, VC.opP, VC.pv, VC.thenF, VC.blkF, VC.retF, VC.resV, VC.oneV, VC.evo, VC.bin, VC.binI, VC.cmpI, VC.arithI, VC.ldv, VC.slv, VC.pickP, VC.holds, VC.chainOf, VC.look, VC.junk, VC.put, VC.eff, VC.callee, VC.pureB, VC.rdK, VC.rdKs, VC.okKs, VC.eqKs, VC.fillL, VC.putL, VC.stW, VC.stOK, VC.mixF, VC.setAll, Nat.reduceAdd, Nat.reduceSub, Nat.reduceMul, if_true, if_false, ↓reduceIte, forall_const, implies_true, reduceCtorEq, ne_eq, Nat.reduceBNe, Nat.reduceBEq, IntKind.signed, Nat.reduceEqDiff, Nat.reduceLeDiff, Nat.reduceLT, eq_self, Int.reduceEq, Int.reduceLT, Int.reduceLE, Int.reduceAdd, Int.reduceSub, VC.regC_nil, VC.regC_cons, VC.regCK_eq, VC.callQ, VC.tailQ, VC.goCall, VC.chStep]
    subst hQ
    simp -dsimp only [Fa.F5, VC.Now, VC.vc_skip, VC.vc_ret, VC.vc_exit, VC.vc_block, VC.vc_cond, VC.vc_region, VC.lib, VC.regQ, VC.loopK, VC.reg, VC.opP, VC.pv, VC.thenF, VC.blkF, VC.retF, VC.resV, VC.oneV, VC.evo, VC.bin, VC.binI, VC.cmpI, VC.arithI, VC.ldv, VC.slv, VC.pickP, VC.holds, VC.chainOf, VC.look, VC.junk, VC.put, VC.eff, VC.callee, VC.pureB, VC.rdK, VC.rdKs, VC.okKs, VC.eqKs, VC.fillL, VC.putL, VC.stW, VC.stOK, VC.mixF, VC.setAll, Nat.reduceAdd, Nat.reduceSub, Nat.reduceMul, if_true, if_false, ↓reduceIte, forall_const, implies_true, reduceCtorEq, ne_eq, Nat.reduceBNe, Nat.reduceBEq, IntKind.signed, Nat.reduceEqDiff, Nat.reduceLeDiff, Nat.reduceLT, eq_self, Int.reduceEq, Int.reduceLT, Int.reduceLE, Int.reduceAdd, Int.reduceSub, VC.regC_nil, VC.regC_cons, VC.regCK_eq, VC.callQ, VC.tailQ, VC.goCall, VC.chStep]
    refine CALL_by (meetR_any A N F L len cap g w4 (hr.below hB4) (by omega) (by omega) (by omega) r6 r3) ?_
    rintro _ w5 ⟨v, rfl, hv, hw5⟩
    refine ⟨_, rfl, ?_⟩
    obtain ⟨dl', _, _, hdl', hfour'⟩ := hv.four
    rw [hgc, hgl, hgn] at hfour'
    rw [← hdl] at hdl'
    subst hdl'
    have hB5 := hB4.trans (hw5.mono hB4.size)
    replace hfour := hfour.below hw5
    obtain ⟨D0, d0, D1, d1, D2, d2, D3, d3, rfl, _⟩ := id hfour'
    replace bx := bx.below hw5
    replace bY := bY.below hw5
    obtain ⟨ok, bz⟩ := bY.stAll (vs := [.slice D0 codes.length d0, .slice D1 nb d1, .slice D2 cl.length d2, .slice D3 dl'.length d3]) rfl one4s
    have hag : Agree (fun j => j = yb) w5 (stW w5 ⟨yb, 0, none⟩ 0 [.slice D0 codes.length d0, .slice D1 nb d1, .slice D2 cl.length d2, .slice D3 dl'.length d3]) := stW_agree (X := fun j => j = yb) rfl _ _ _
    have bx2 := bx.agree hag hyn
    replace hfour := hfour.keep (yb := yb) (vs := [.slice D0 codes.length d0, .slice D1 nb d1, .slice D2 cl.length d2, .slice D3 dl'.length d3]) bY rfl
    replace hfour' := hfour'.keep (yb := yb) (vs := [.slice D0 codes.length d0, .slice D1 nb d1, .slice D2 cl.length d2, .slice D3 dl'.length d3]) bY rfl
    have hB6 := hag.to_below hB5 hB5.size fun j hj => by subst hj; exact hyw
    rw [VC.Now, VC.seqK_eq]
    simp -dsimp only [Fa.F5, VC.Now, VC.vc_skip, VC.vc_ret, VC.vc_exit, VC.vc_block, VC.vc_cond, VC.vc_region, VC.lib, VC.regQ, VC.loopK, VC.reg, VC.opP, VC.pv, VC.thenF, VC.blkF, VC.retF, VC.resV, VC.oneV, VC.evo, VC.bin, VC.binI, VC.cmpI, VC.arithI, VC.ldv, VC.slv, VC.pickP, VC.holds, VC.chainOf, VC.look, VC.junk, VC.put, VC.eff, VC.callee, VC.pureB, VC.rdK, VC.rdKs, VC.okKs, VC.eqKs, VC.fillL, VC.putL, VC.mixF, VC.setAll, Nat.reduceAdd, Nat.reduceSub, Nat.reduceMul, if_true, if_false, ↓reduceIte, forall_const, implies_true, reduceCtorEq, ne_eq, Nat.reduceBNe, Nat.reduceBEq, IntKind.signed, Nat.reduceEqDiff, Nat.reduceLeDiff, Nat.reduceLT, eq_self, Int.reduceEq, Int.reduceLT, Int.reduceLE, Int.reduceAdd, Int.reduceSub, VC.regC_nil, VC.regC_cons, VC.regCK_eq, VC.callQ, VC.tailQ, VC.goCall, VC.chStep]
    refine ⟨ok, ?_⟩
    clear ok hag
    generalize stW w5 ⟨yb, 0, none⟩ 0 [.slice D0 codes.length d0, .slice D1 nb d1, .slice D2 cl.length d2, .slice D3 dl'.length d3] = w6 at *
    have x0 := bx2.at (i := 0) rfl
    have x1 := bx2.at (i := 1) rfl
    have x2 := bx2.at (i := 2) rfl
    have x3 := bx2.at (i := 3) rfl
    have y0 := bz.at (i := 0) rfl
    have y1 := bz.at (i := 1) rfl
    have y2 := bz.at (i := 2) rfl
    have y3 := bz.at (i := 3) rfl
    simp -dsimp only [Fa.F5, rdSA_of x0, rdSN_of x0, rdSC_of x0, x0, rdSA_of x1, rdSN_of x1, rdSC_of x1, x1, rdSA_of x2, rdSN_of x2, rdSC_of x2, x2, rdSA_of x3, rdSN_of x3, rdSC_of x3, x3, rdSA_of y0, rdSN_of y0, rdSC_of y0, y0, rdSA_of y1, rdSN_of y1, rdSC_of y1, y1, rdSA_of y2, rdSN_of y2, rdSC_of y2, y2, rdSA_of y3, rdSN_of y3, rdSC_of y3, y3, VC.Now, VC.vc, VC.lib, VC.regQ, VC.loopK, VC.reg, VC.opP, VC.pv, VC.thenF, VC.blkF, VC.retF, VC.resV, VC.oneV, VC.evo, VC.bin, VC.binI, VC.cmpI, VC.arithI, VC.ldv, VC.slv, VC.pickP, VC.holds, VC.chainOf, VC.look, VC.junk, VC.put, VC.eff, VC.callee, VC.pureB, VC.rdK, VC.rdKs, VC.okKs, VC.eqKs, VC.fillL, VC.putL, VC.stW, VC.stOK, VC.mixF, VC.setAll, Nat.reduceAdd, Nat.reduceSub, Nat.reduceMul, if_true, if_false, ↓reduceIte, forall_const, implies_true, reduceCtorEq, ne_eq, Nat.reduceBNe, Nat.reduceBEq, IntKind.signed, Nat.reduceEqDiff, Nat.reduceLeDiff, Nat.reduceLT, eq_self, Int.reduceEq, Int.reduceLT, Int.reduceLE, Int.reduceAdd, Int.reduceSub, VC.regC_nil, VC.regC_cons, VC.regCK_eq, VC.callQ, VC.tailQ, VC.goCall, VC.chStep]
    refine CALL_of (meetings_any w6 hfour hfour' (by omega) (by omega) (by omega) (by omega)) fun w7 hw7 => ?_
    rw [VC.Now, VC.seqK_eq]
    simp -dsimp only [Fa.F5, VC.Now, VC.vc, VC.lib, VC.regQ, VC.loopK, VC.reg, VC.opP, VC.pv, VC.thenF, VC.blkF, VC.retF, VC.resV, VC.oneV, VC.evo, VC.bin, VC.binI, VC.cmpI, VC.arithI, VC.ldv, VC.slv, VC.pickP, VC.holds, VC.chainOf, VC.look, VC.junk, VC.put, VC.eff, VC.callee, VC.pureB, VC.rdK, VC.rdKs, VC.okKs, VC.eqKs, VC.fillL, VC.putL, VC.stW, VC.stOK, VC.mixF, VC.setAll, Nat.reduceAdd, Nat.reduceSub, Nat.reduceMul, if_true, if_false, ↓reduceIte, forall_const, implies_true, reduceCtorEq, ne_eq, Nat.reduceBNe, Nat.reduceBEq, IntKind.signed, Nat.reduceEqDiff, Nat.reduceLeDiff, Nat.reduceLT, eq_self, Int.reduceEq, Int.reduceLT, Int.reduceLE, Int.reduceAdd, Int.reduceSub, VC.regC_nil, VC.regC_cons, VC.regCK_eq, VC.callQ, VC.tailQ, VC.goCall, VC.chStep]
    exact hB6.trans (hw7.mono hB6.size)
  · refine CALL_of (mplay_bad A n f L len cap w fn ff hL hc) fun w1 hB1 => ?_
    rw [VC.Now, VC.seqK_eq]
    obtain ⟨f1, f2, f3, f4⟩ := box4 w1 [nilS, nilS, nilS, nilS] one4s rfl
    simp -dsimp only [Fa.F5, VC.Now, VC.vc_skip, VC.vc_ret, VC.vc_exit, VC.vc_block, VC.vc_cond, VC.vc_region, VC.lib, VC.regQ, VC.loopK, VC.reg, VC.opP, VC.pv, VC.thenF, VC.blkF, VC.retF, VC.resV, VC.oneV, VC.evo, VC.bin, VC.binI, VC.cmpI, VC.arithI, VC.ldv, VC.slv, VC.pickP, VC.holds, VC.chainOf, VC.look, VC.junk, VC.put, VC.eff, VC.callee, VC.pureB, VC.rdK, VC.rdKs, VC.okKs, VC.eqKs, VC.fillL, VC.putL, VC.mixF, VC.setAll, Nat.reduceAdd, Nat.reduceSub, Nat.reduceMul, if_true, if_false, ↓reduceIte, forall_const, implies_true, reduceCtorEq, ne_eq, Nat.reduceBNe, Nat.reduceBEq, IntKind.signed, Nat.reduceEqDiff, Nat.reduceLeDiff, Nat.reduceLT, eq_self, Int.reduceEq, Int.reduceLT, Int.reduceLE, Int.reduceAdd, Int.reduceSub, VC.regC_nil, VC.regC_cons, VC.regCK_eq, VC.callQ, VC.tailQ, VC.goCall, VC.chStep]
    refine ⟨f1, ?_⟩
    clear f1
    change Box (stW (w1.alloc (.cells #[nilS, nilS, nilS, nilS] 47)) _ _ _) _ _ at f2
    change Below _ _ (stW (w1.alloc (.cells #[nilS, nilS, nilS, nilS] 47)) _ _ _) at f3
    change (stW (w1.alloc (.cells #[nilS, nilS, nilS, nilS] 47)) _ _ _).heap.size = _ at f4
    generalize stW (w1.alloc (.cells #[nilS, nilS, nilS, nilS] 47)) ⟨w1.heap.size, 0, none⟩ 0 [nilS, nilS, nilS, nilS] = w2 at *
    have hB2 := hB1.trans (f3.mono hB1.size)
    subst hQ; simp -dsimp only [VC.Now, VC.vc_skip, VC.vc_ret, VC.vc_exit, VC.vc_block, VC.vc_cond, VC.vc_region, VC.lib, VC.regQ, VC.loopK, VC.reg, VC.opP, VC.pv, VC.thenF, VC.blkF, VC.retF, VC.resV, VC.oneV, VC.evo, VC.bin, VC.binI, VC.cmpI, VC.arithI, VC.ldv, VC.slv, VC.pickP, VC.holds, VC.chainOf, VC.look, VC.junk, VC.put, VC.eff, VC.callee, VC.pureB, VC.rdK, VC.rdKs, VC.okKs, VC.eqKs, VC.fillL, VC.putL, VC.stW, VC.stOK, VC.mixF, VC.setAll, Nat.reduceAdd, Nat.reduceSub, Nat.reduceMul, if_true, if_false, ↓reduceIte, forall_const, implies_true, reduceCtorEq, ne_eq, Nat.reduceBNe, Nat.reduceBEq, IntKind.signed, Nat.reduceEqDiff, Nat.reduceLeDiff, Nat.reduceLT, eq_self, Int.reduceEq, Int.reduceLT, Int.reduceLE, Int.reduceAdd, Int.reduceSub, VC.regC_nil, VC.regC_cons, VC.regCK_eq, VC.callQ, VC.tailQ, VC.goCall, VC.chStep]; (repeat rw [vc_seq]); refine vc_plain _ fun Q hQ => ?_; simp -dsimp only [Fa.F5, VC.Now, VC.vc_skip, VC.vc_ret, VC.vc_exit, VC.vc_block, VC.vc_cond, VC.vc_region, VC.lib, VC.regQ, VC.loopK, VC.reg, VC.opP, VC.pv, VC.thenF, VC.blkF, VC.retF, VC.resV, VC.oneV, VC.evo, VC.bin, VC.binI, VC.cmpI, VC.arithI, VC.ldv, VC.slv, VC.pickP, VC.holds, VC.chainOf, VC.look, VC.junk, VC.put, VC.eff, VC.callee, VC.pureB, VC.rdK, VC.rdKs, VC.okKs, VC.eqKs, VC.fillL, VC.putL, VC.stW, VC.stOK, VC.mixF, VC.setAll, Nat.reduceAdd, Nat.reduceSub, Nat.reduceMul, if_true, if_false, ↓reduceIte, forall_const, implies_true, reduceCtorEq, ne_eq, Nat.reduceBNe, Nat.reduceBEq, IntKind.signed, Nat.reduceEqDiff, Nat.reduceLeDiff, Nat.reduceLT, eq_self, Int.reduceEq, Int.reduceLT, Int.reduceLE, Int.reduceAdd, Int.reduceSub, VC.regC_nil, VC.regC_cons, VC.regCK_eq, VC.callQ, VC.tailQ, VC.goCall, VC.chStep]
    refine CALL_of (mootCheck_any n f L len w2 fn ff hL) fun w3 hw3 => ?_
    rw [VC.Now, VC.seqK_eq]
    simp -dsimp only [Fa.F5, VC.Now, VC.vc_skip, VC.vc_ret, VC.vc_exit, VC.vc_block, VC.vc_cond, VC.vc_region, VC.lib, VC.regQ, VC.loopK, VC.reg, VC.opP, VC.pv, VC.thenF, VC.blkF, VC.retF, VC.resV, VC.oneV, VC.evo, VC.bin, VC.binI, VC.cmpI, VC.arithI, VC.ldv, VC.slv, VC.pickP, VC.holds, VC.chainOf, VC.look, VC.junk, VC.put, VC.eff, VC.callee, VC.pureB, VC.rdK, VC.rdKs, VC.okKs, VC.eqKs, VC.fillL, VC.putL, VC.stW, VC.stOK, VC.mixF, VC.setAll, Nat.reduceAdd, Nat.reduceSub, Nat.reduceMul, if_true, if_false, ↓reduceIte, forall_const, implies_true, reduceCtorEq, ne_eq, Nat.reduceBNe, Nat.reduceBEq, IntKind.signed, Nat.reduceEqDiff, Nat.reduceLeDiff, Nat.reduceLT, eq_self, Int.reduceEq, Int.reduceLT, Int.reduceLE, Int.reduceAdd, Int.reduceSub, VC.regC_nil, VC.regC_cons, VC.regCK_eq, VC.callQ, VC.tailQ, VC.goCall, VC.chStep]
    replace f2 := f2.below hw3
    have hB3 := hB2.trans (hw3.mono hB2.size)
    generalize w1.heap.size = xb at *
    clear f3 f4 hw3
    have bx := f2; clear f2
    obtain ⟨f1, f2, f3, f4⟩ := box4 w3 [nilS, nilS, nilS, nilS] one4s rfl
    subst hQ; simp -dsimp only [VC.Now, VC.vc_skip, VC.vc_ret, VC.vc_exit, VC.vc_block, VC.vc_cond, VC.vc_region, VC.lib, VC.regQ, VC.loopK, VC.reg, VC.opP, VC.pv, VC.thenF, VC.blkF, VC.retF, VC.resV, VC.oneV, VC.evo, VC.bin, VC.binI, VC.cmpI, VC.arithI, VC.ldv, VC.slv, VC.pickP, VC.holds, VC.chainOf, VC.look, VC.junk, VC.put, VC.eff, VC.callee, VC.pureB, VC.rdK, VC.rdKs, VC.okKs, VC.eqKs, VC.fillL, VC.putL, VC.stW, VC.stOK, VC.mixF, VC.setAll, Nat.reduceAdd, Nat.reduceSub, Nat.reduceMul, if_true, if_false, ↓reduceIte, forall_const, implies_true, reduceCtorEq, ne_eq, Nat.reduceBNe, Nat.reduceBEq, IntKind.signed, Nat.reduceEqDiff, Nat.reduceLeDiff, Nat.reduceLT, eq_self, Int.reduceEq, Int.reduceLT, Int.reduceLE, Int.reduceAdd, Int.reduceSub, VC.regC_nil, VC.regC_cons, VC.regCK_eq, VC.callQ, VC.tailQ, VC.goCall, VC.chStep]; (repeat rw [vc_seq]); refine vc_plain _ fun Q hQ => ?_; simp -dsimp only [Fa.F5, VC.Now, VC.vc_skip, VC.vc_ret, VC.vc_exit, VC.vc_block, VC.vc_cond, VC.vc_region, VC.lib, VC.regQ, VC.loopK, VC.reg, VC.opP, VC.pv, VC.thenF, VC.blkF, VC.retF, VC.resV, VC.oneV, VC.evo, VC.bin, VC.binI, VC.cmpI, VC.arithI, VC.ldv, VC.slv, VC.pickP, VC.holds, VC.chainOf, VC.look, VC.junk, VC.put, VC.eff, VC.callee, VC.pureB, VC.rdK, VC.rdKs, VC.okKs, VC.eqKs, VC.fillL, VC.putL, VC.mixF, VC.setAll, Nat.reduceAdd, Nat.reduceSub, Nat.reduceMul, if_true, if_false, ↓reduceIte, forall_const, implies_true, reduceCtorEq, ne_eq, Nat.reduceBNe, Nat.reduceBEq, IntKind.signed, Nat.reduceEqDiff, Nat.reduceLeDiff, Nat.reduceLT, eq_self, Int.reduceEq, Int.reduceLT, Int.reduceLE, Int.reduceAdd, Int.reduceSub, VC.regC_nil, VC.regC_cons, VC.regCK_eq, VC.callQ, VC.tailQ, VC.goCall, VC.chStep]
    refine ⟨f1, ?_⟩
    clear f1
    change Box (stW (w3.alloc (.cells #[nilS, nilS, nilS, nilS] 47)) _ _ _) _ _ at f2
    change Below _ _ (stW (w3.alloc (.cells #[nilS, nilS, nilS, nilS] 47)) _ _ _) at f3
    change (stW (w3.alloc (.cells #[nilS, nilS, nilS, nilS] 47)) _ _ _).heap.size = _ at f4
    generalize stW (w3.alloc (.cells #[nilS, nilS, nilS, nilS] 47)) ⟨w3.heap.size, 0, none⟩ 0 [nilS, nilS, nilS, nilS] = w4 at *
    have hB4 := hB3.trans (f3.mono hB3.size)
    replace bx := bx.below f3
    have bY := f2; clear f2
    generalize w3.heap.size = yb at *
    clear f3 f4
    have e0 := eq_false hc
    have x0 := bx.at (i := 0) rfl
    have x1 := bx.at (i := 1) rfl
    have x2 := bx.at (i := 2) rfl
    have x3 := bx.at (i := 3) rfl
    have y0 := bY.at (i := 0) rfl
    have y1 := bY.at (i := 1) rfl
    have y2 := bY.at (i := 2) rfl
    have y3 := bY.at (i := 3) rfl
    subst hQ; simp -dsimp only [VC.Now, VC.vc_skip, VC.vc_ret, VC.vc_exit, VC.vc_block, VC.vc_cond, VC.vc_region, VC.lib, VC.regQ, VC.loopK, VC.reg, VC.opP, VC.pv, VC.thenF, VC.blkF, VC.retF, VC.resV, VC.oneV, VC.evo, VC.bin, VC.binI, VC.cmpI, VC.arithI, VC.ldv, VC.slv, VC.pickP, VC.holds, VC.chainOf, VC.look, VC.junk, VC.put, VC.eff, VC.callee, VC.pureB, VC.rdK, VC.rdKs, VC.okKs, VC.eqKs, VC.fillL, VC.putL, VC.stW, VC.stOK, VC.mixF, VC.setAll, Nat.reduceAdd, Nat.reduceSub, Nat.reduceMul, if_true, if_false, ↓reduceIte, forall_const, implies_true, reduceCtorEq, ne_eq, Nat.reduceBNe, Nat.reduceBEq, IntKind.signed, Nat.reduceEqDiff, Nat.reduceLeDiff, Nat.reduceLT, eq_self, Int.reduceEq, Int.reduceLT, Int.reduceLE, Int.reduceAdd, Int.reduceSub, VC.regC_nil, VC.regC_cons, VC.regCK_eq, VC.callQ, VC.tailQ, VC.goCall, VC.chStep]; (repeat rw [vc_seq]); refine vc_plain _ fun Q hQ => ?_; simp -dsimp only [Fa.F5, e0, VC.Now, VC.vc_skip, VC.vc_ret, VC.vc_exit, VC.vc_block, VC.vc_cond, VC.vc_region, VC.lib, VC.regQ, VC.loopK, VC.reg, VC.opP, VC.pv, VC.thenF, VC.blkF, VC.retF, VC.resV, VC.oneV, VC.evo, VC.bin, VC.binI, VC.cmpI, VC.arithI, VC.ldv, VC.slv, VC.pickP, VC.holds, VC.chainOf, VC.look, VC.junk, VC.put, VC.eff, VC.callee, VC.pureB, VC.rdK, VC.rdKs, VC.okKs, VC.eqKs, VC.fillL, VC.putL, VC.stW, VC.stOK, VC.mixF, VC.setAll, Nat.reduceAdd, Nat.reduceSub, Nat.reduceMul, if_true, if_false, ↓reduceIte, forall_const, implies_true, reduceCtorEq, ne_eq, Nat.reduceBNe, Nat.reduceBEq, IntKind.signed, Nat.reduceEqDiff, Nat.reduceLeDiff, Nat.reduceLT, eq_self, Int.reduceEq, Int.reduceLT, Int.reduceLE, Int.reduceAdd, Int.reduceSub, VC.regC_nil, VC.regC_cons, VC.regCK_eq, VC.callQ, VC.tailQ, VC.goCall, VC.chStep]
    subst hQ; simp -dsimp only [VC.Now, VC.vc_skip, VC.vc_ret, VC.vc_exit, VC.vc_block, VC.vc_cond, VC.vc_region, VC.lib, VC.regQ, VC.loopK, VC.reg, VC.opP, VC.pv, VC.thenF, VC.blkF, VC.retF, VC.resV, VC.oneV, VC.evo, VC.bin, VC.binI, VC.cmpI, VC.arithI, VC.ldv, VC.slv, VC.pickP, VC.holds, VC.chainOf, VC.look, VC.junk, VC.put, VC.eff, VC.callee, VC.pureB, VC.rdK, VC.rdKs, VC.okKs, VC.eqKs, VC.fillL, VC.putL, VC.stW, VC.stOK, VC.mixF, VC.setAll, Nat.reduceAdd, Nat.reduceSub, Nat.reduceMul, if_true, if_false, ↓reduceIte, forall_const, implies_true, reduceCtorEq, ne_eq, Nat.reduceBNe, Nat.reduceBEq, IntKind.signed, Nat.reduceEqDiff, Nat.reduceLeDiff, Nat.reduceLT, eq_self, Int.reduceEq, Int.reduceLT, Int.reduceLE, Int.reduceAdd, Int.reduceSub, VC.regC_nil, VC.regC_cons, VC.regCK_eq, VC.callQ, VC.tailQ, VC.goCall, VC.chStep]; (repeat rw [vc_seq]); refine vc_plain _ fun Q hQ => ?_; simp -dsimp only [Fa.F5, e0, VC.Now, VC.vc_skip, VC.vc_ret, VC.vc_exit, VC.vc_block, VC.vc_cond, VC.vc_region, VC.lib, VC.regQ, VC.loopK, VC.reg, VC.opP, VC.pv, VC.thenF, VC.blkF, VC.retF, VC.resV, VC.oneV, VC.evo, VC.bin, VC.binI, VC.cmpI, VC.arithI, VC.ldv, VC.slv, VC.pickP, VC.holds, VC.chainOf, VC.look, VC.junk, VC.put, VC.eff, VC.callee, VC.pureB, VC.rdK, VC.rdKs, VC.okKs, VC.eqKs, VC.fillL, VC.putL, VC.stW, VC.stOK, VC.mixF, VC.setAll, Nat.reduceAdd, Nat.reduceSub, Nat.reduceMul, if_true, if_false, ↓reduceIte, forall_const, implies_true, reduceCtorEq, ne_eq, Nat.reduceBNe, Nat.reduceBEq, IntKind.signed, Nat.reduceEqDiff, Nat.reduceLeDiff, Nat.reduceLT, eq_self, Int.reduceEq, Int.reduceLT, Int.reduceLE, Int.reduceAdd, Int.reduceSub, VC.regC_nil, VC.regC_cons, VC.regCK_eq, VC.callQ, VC.tailQ, VC.goCall, VC.chStep]
    subst hQ
    simp -dsimp only [Fa.F5, e0, rdSA_of x0, rdSN_of x0, rdSC_of x0, x0, rdSA_of x1, rdSN_of x1, rdSC_of x1, x1, rdSA_of x2, rdSN_of x2, rdSC_of x2, x2, rdSA_of x3, rdSN_of x3, rdSC_of x3, x3, rdSA_of y0, rdSN_of y0, rdSC_of y0, y0, rdSA_of y1, rdSN_of y1, rdSC_of y1, y1, rdSA_of y2, rdSN_of y2, rdSC_of y2, y2, rdSA_of y3, rdSN_of y3, rdSC_of y3, y3, VC.Now, VC.vc, VC.lib, VC.regQ, VC.loopK, VC.reg, VC.opP, VC.pv, VC.thenF, VC.blkF, VC.retF, VC.resV, VC.oneV, VC.evo, VC.bin, VC.binI, VC.cmpI, VC.arithI, VC.ldv, VC.slv, VC.pickP, VC.holds, VC.chainOf, VC.look, VC.junk, VC.put, VC.eff, VC.callee, VC.pureB, VC.rdK, VC.rdKs, VC.okKs, VC.eqKs, VC.fillL, VC.putL, VC.stW, VC.stOK, VC.mixF, VC.setAll, Nat.reduceAdd, Nat.reduceSub, Nat.reduceMul, if_true, if_false, ↓reduceIte, forall_const, implies_true, reduceCtorEq, ne_eq, Nat.reduceBNe, Nat.reduceBEq, IntKind.signed, Nat.reduceEqDiff, Nat.reduceLeDiff, Nat.reduceLT, eq_self, Int.reduceEq, Int.reduceLT, Int.reduceLE, Int.reduceAdd, Int.reduceSub, VC.regC_nil, VC.regC_cons, VC.regCK_eq, VC.callQ, VC.tailQ, VC.goCall, VC.chStep]
    refine CALL_of (meetings_any w4 (Four.nil _) (Four.nil _) (by simp) (by simp) (by simp) (by simp)) fun w5 hw5 => ?_
    rw [VC.Now, VC.seqK_eq]
    simp -dsimp only [Fa.F5, VC.Now, VC.vc, VC.lib, VC.regQ, VC.loopK, VC.reg, VC.opP, VC.pv, VC.thenF, VC.blkF, VC.retF, VC.resV, VC.oneV, VC.evo, VC.bin, VC.binI, VC.cmpI, VC.arithI, VC.ldv, VC.slv, VC.pickP, VC.holds, VC.chainOf, VC.look, VC.junk, VC.put, VC.eff, VC.callee, VC.pureB, VC.rdK, VC.rdKs, VC.okKs, VC.eqKs, VC.fillL, VC.putL, VC.stW, VC.stOK, VC.mixF, VC.setAll, Nat.reduceAdd, Nat.reduceSub, Nat.reduceMul, if_true, if_false, ↓reduceIte, forall_const, implies_true, reduceCtorEq, ne_eq, Nat.reduceBNe, Nat.reduceBEq, IntKind.signed, Nat.reduceEqDiff, Nat.reduceLeDiff, Nat.reduceLT, eq_self, Int.reduceEq, Int.reduceLT, Int.reduceLE, Int.reduceAdd, Int.reduceSub, VC.regC_nil, VC.regC_cons, VC.regCK_eq, VC.callQ, VC.tailQ, VC.goCall, VC.chStep]
    exact hB4.trans (hw5.mono hB4.size)
end Go.Proofs.Ytnggjekppdlaoaa
