/- BakeryPlays: the law. -/
import Derived.Test.YtnggjekppdlaoaaBak3
import Derived.Test.YtnggjekppdlaoaaBak6
import Derived.Test.YtnggjekppdlaoaaBakSame
namespace Go.Proofs.Ytnggjekppdlaoaa
open Go Go.RowKit Go.VC
set_option linter.unusedSimpArgs false
set_option linter.unusedVariables false

theorem BakV.five {n : Nat} {s : BS} {v : Value} {w : World} (h : BakV n s v w) : Five s.codes (atL s.p n) (tkL s.p n) (chL s.p n) s.inn v w := h
theorem box_forms (w : World) (vs : List Value) (t : TypeId) (h1 : ∀ v ∈ vs, v.oneCell' = true) (zs : List Value) (hl : vs.length = zs.length) :
    VC.stOK (w.alloc (.cells zs.toArray t)) ⟨w.heap.size, 0, none⟩ 0 vs ∧ Box (VC.stW (w.alloc (.cells zs.toArray t)) ⟨w.heap.size, 0, none⟩ 0 vs) w.heap.size vs ∧ Below w.heap.size w (VC.stW (w.alloc (.cells zs.toArray t)) ⟨w.heap.size, 0, none⟩ 0 vs) ∧ (VC.stW (w.alloc (.cells zs.toArray t)) ⟨w.heap.size, 0, none⟩ 0 vs).heap.size = w.heap.size + 1 := by
  obtain ⟨h2, h3⟩ := (Box.new w zs t).stAll (vs := vs) hl h1
  refine ⟨h2, h3, (stW_agree (X := fun j => j = w.heap.size) rfl vs _ 0).to_below (below_box (Below.refl _ _) _) (by simp) fun j hj => by omega, ?_⟩
  rw [stW_size]; simp
theorem one5 {A0 A1 A2 A3 A4 : Option Addr} {n0 n1 n2 n3 n4 c0 c1 c2 c3 c4 : Nat} : ∀ v ∈ [Value.slice A0 n0 c0, .slice A1 n1 c1, .slice A2 n2 c2, .slice A3 n3 c3, .slice A4 n4 c4], v.oneCell' = true := by
  intro v hv; simp at hv; rcases hv with rfl | rfl | rfl | rfl | rfl <;> rfl

set_option maxRecDepth 8000 in
set_option maxHeartbeats 4000000 in
/-- The law. -/
theorem bakeryPlays_walk (n : Int) (A : Option Addr) (len cap : Nat) (w : World) (fn : fits .i64 n) (r : ArgS w A len 1 [.i .i64]) (hl : len ≤ cap) (hm : cap ≤ maxLen) :
    Calls Try.prog 3 #[.int .i64 n, .slice A len cap] w fun e w' => e = .returned (.bool true) ∧ Below w.heap.size w w' := by
  obtain ⟨l, rfl, hr, _⟩ := Rd.of_arg r
  by_cases hbad : n < 1 ∨ 4 < n ∨ 120 < l.length
  · have e0 : (n < 1 ∨ 4 < n ∨ 120 < (l.length : Int)) := by omega
    refine calls_vc (rs := [.tmp 4]) Fa.mix Try.func3 rfl Try.ntmps3 rfl (by kernel_rfl) (Nat.le_of_ble_eq_true rfl) ?_
    simp -dsimp only [Fa.F3, VC.Now, VC.vc, VC.lib, VC.regQ, VC.loopK, VC.reg, VC.opP, VC.pv, VC.thenF, VC.blkF, VC.retF, VC.resV, VC.oneV, VC.evo, VC.bin, VC.binI, VC.cmpI, VC.arithI, VC.ldv, VC.slv, VC.pickP, VC.holds, VC.chainOf, VC.look, VC.junk, VC.put, VC.eff, VC.callee, VC.pureB, VC.rdK, VC.rdKs, VC.okKs, VC.eqKs, VC.fillL, VC.putL, VC.stW, VC.stOK, VC.mixF, VC.setAll, Nat.reduceAdd, Nat.reduceSub, Nat.reduceMul, if_true, if_false, ↓reduceIte, forall_const, implies_true, reduceCtorEq, ne_eq, Nat.reduceBNe, Nat.reduceBEq, IntKind.signed, Nat.reduceEqDiff, Nat.reduceLeDiff, Nat.reduceLT, eq_self, Int.reduceEq, Int.reduceLT, Int.reduceLE, Int.reduceAdd, Int.reduceSub, VC.regC_nil, VC.regC_cons, VC.regCK_eq, VC.callQ, VC.tailQ, VC.goCall, VC.chStep]
    refine CALL_of (play_bad A n l.length cap w hbad) fun w1 hB1 => ?_
    rw [VC.Now, VC.seqK_eq]
    obtain ⟨f1, f2, f3, f4⟩ := box_forms w1 [nilS, nilS, nilS, nilS, nilS] 26 one5 [nilS, nilS, nilS, nilS, nilS] rfl
    by_cases h1 : n < 1
    · have e1 : (n < 1) = True := eq_true h1
      simp -dsimp only [Fa.F3, e1, VC.Now, VC.vc, VC.lib, VC.regQ, VC.loopK, VC.reg, VC.opP, VC.pv, VC.thenF, VC.blkF, VC.retF, VC.resV, VC.oneV, VC.evo, VC.bin, VC.binI, VC.cmpI, VC.arithI, VC.ldv, VC.slv, VC.pickP, VC.holds, VC.chainOf, VC.look, VC.junk, VC.put, VC.eff, VC.callee, VC.pureB, VC.rdK, VC.rdKs, VC.okKs, VC.eqKs, VC.fillL, VC.putL, VC.mixF, VC.setAll, Nat.reduceAdd, Nat.reduceSub, Nat.reduceMul, if_true, if_false, ↓reduceIte, forall_const, implies_true, reduceCtorEq, ne_eq, Nat.reduceBNe, Nat.reduceBEq, IntKind.signed, Nat.reduceEqDiff, Nat.reduceLeDiff, Nat.reduceLT, eq_self, Int.reduceEq, Int.reduceLT, Int.reduceLE, Int.reduceAdd, Int.reduceSub, VC.regC_nil, VC.regC_cons, VC.regCK_eq, VC.callQ, VC.tailQ, VC.goCall, VC.chStep]
      refine ⟨f1, ?_⟩
      clear f1
      change Box (stW (w1.alloc (.cells #[nilS, nilS, nilS, nilS, nilS] 26)) _ _ _) _ _ at f2
      change Below _ _ (stW (w1.alloc (.cells #[nilS, nilS, nilS, nilS, nilS] 26)) _ _ _) at f3
      change (stW (w1.alloc (.cells #[nilS, nilS, nilS, nilS, nilS] 26)) _ _ _).heap.size = _ at f4
      generalize stW (w1.alloc (.cells #[nilS, nilS, nilS, nilS, nilS] 26)) ⟨w1.heap.size, 0, none⟩ 0 [nilS, nilS, nilS, nilS, nilS] = w2 at *
      have hB2 := hB1.trans (f3.mono hB1.size)
      obtain ⟨g1, g2, g3, g4⟩ := box_forms w2 [nilS, nilS, nilS, nilS, nilS] 26 one5 [nilS, nilS, nilS, nilS, nilS] rfl
      refine ⟨g1, ?_⟩
      clear g1
      change Box (stW (w2.alloc (.cells #[nilS, nilS, nilS, nilS, nilS] 26)) _ _ _) _ _ at g2
      change Below _ _ (stW (w2.alloc (.cells #[nilS, nilS, nilS, nilS, nilS] 26)) _ _ _) at g3
      change (stW (w2.alloc (.cells #[nilS, nilS, nilS, nilS, nilS] 26)) _ _ _).heap.size = _ at g4
      generalize stW (w2.alloc (.cells #[nilS, nilS, nilS, nilS, nilS] 26)) ⟨w2.heap.size, 0, none⟩ 0 [nilS, nilS, nilS, nilS, nilS] = w3 at *
      have hB3 := hB2.trans (g3.mono hB2.size)
      have f2' := f2.below g3
      have x0 := (f2').at (i := 0) rfl
      have x1 := (f2').at (i := 1) rfl
      have x2 := (f2').at (i := 2) rfl
      have x3 := (f2').at (i := 3) rfl
      have x4 := (f2').at (i := 4) rfl
      have y0 := (g2).at (i := 0) rfl
      have y1 := (g2).at (i := 1) rfl
      have y2 := (g2).at (i := 2) rfl
      have y3 := (g2).at (i := 3) rfl
      have y4 := (g2).at (i := 4) rfl
      simp -dsimp only [Fa.F3, e1, rdSA_of x0, rdSN_of x0, rdSC_of x0, x0, rdSA_of x1, rdSN_of x1, rdSC_of x1, x1, rdSA_of x2, rdSN_of x2, rdSC_of x2, x2, rdSA_of x3, rdSN_of x3, rdSC_of x3, x3, rdSA_of x4, rdSN_of x4, rdSC_of x4, x4, rdSA_of y0, rdSN_of y0, rdSC_of y0, y0, rdSA_of y1, rdSN_of y1, rdSC_of y1, y1, rdSA_of y2, rdSN_of y2, rdSC_of y2, y2, rdSA_of y3, rdSN_of y3, rdSC_of y3, y3, rdSA_of y4, rdSN_of y4, rdSC_of y4, y4, VC.Now, VC.vc, VC.lib, VC.regQ, VC.loopK, VC.reg, VC.opP, VC.pv, VC.thenF, VC.blkF, VC.retF, VC.resV, VC.oneV, VC.evo, VC.bin, VC.binI, VC.cmpI, VC.arithI, VC.ldv, VC.slv, VC.pickP, VC.holds, VC.chainOf, VC.look, VC.junk, VC.put, VC.eff, VC.callee, VC.pureB, VC.rdK, VC.rdKs, VC.okKs, VC.eqKs, VC.fillL, VC.putL, VC.mixF, VC.setAll, Nat.reduceAdd, Nat.reduceSub, Nat.reduceMul, if_true, if_false, ↓reduceIte, forall_const, implies_true, reduceCtorEq, ne_eq, Nat.reduceBNe, Nat.reduceBEq, IntKind.signed, Nat.reduceEqDiff, Nat.reduceLeDiff, Nat.reduceLT, eq_self, Int.reduceEq, Int.reduceLT, Int.reduceLE, Int.reduceAdd, Int.reduceSub, VC.regC_nil, VC.regC_cons, VC.regCK_eq, VC.callQ, VC.tailQ, VC.goCall, VC.chStep]
      intro u
      refine CALL_of (bakeries_any [] [] [] [] [] _ _ w3 (Five.nil _) (Five.nil _) (by simp) (by simp) (by simp) (by simp) (by simp)) fun w6 hB6 => ?_
      rw [VC.Now, VC.seqK_eq]
      simp -dsimp only [Fa.F3, VC.Now, VC.vc, VC.lib, VC.regQ, VC.loopK, VC.reg, VC.opP, VC.pv, VC.thenF, VC.blkF, VC.retF, VC.resV, VC.oneV, VC.evo, VC.bin, VC.binI, VC.cmpI, VC.arithI, VC.ldv, VC.slv, VC.pickP, VC.holds, VC.chainOf, VC.look, VC.junk, VC.put, VC.eff, VC.callee, VC.pureB, VC.rdK, VC.rdKs, VC.okKs, VC.eqKs, VC.fillL, VC.putL, VC.stW, VC.stOK, VC.mixF, VC.setAll, Nat.reduceAdd, Nat.reduceSub, Nat.reduceMul, if_true, if_false, ↓reduceIte, forall_const, implies_true, reduceCtorEq, ne_eq, Nat.reduceBNe, Nat.reduceBEq, IntKind.signed, Nat.reduceEqDiff, Nat.reduceLeDiff, Nat.reduceLT, eq_self, Int.reduceEq, Int.reduceLT, Int.reduceLE, Int.reduceAdd, Int.reduceSub, VC.regC_nil, VC.regC_cons, VC.regCK_eq, VC.callQ, VC.tailQ, VC.goCall, VC.chStep]
      exact hB3.trans (hB6.mono hB3.size)
    · have e1 : (n < 1) = False := eq_false h1
      by_cases h2 : 4 < n
      · have e2 : (4 < n) = True := eq_true h2
        simp -dsimp only [Fa.F3, e1, e2, VC.Now, VC.vc, VC.lib, VC.regQ, VC.loopK, VC.reg, VC.opP, VC.pv, VC.thenF, VC.blkF, VC.retF, VC.resV, VC.oneV, VC.evo, VC.bin, VC.binI, VC.cmpI, VC.arithI, VC.ldv, VC.slv, VC.pickP, VC.holds, VC.chainOf, VC.look, VC.junk, VC.put, VC.eff, VC.callee, VC.pureB, VC.rdK, VC.rdKs, VC.okKs, VC.eqKs, VC.fillL, VC.putL, VC.mixF, VC.setAll, Nat.reduceAdd, Nat.reduceSub, Nat.reduceMul, if_true, if_false, ↓reduceIte, forall_const, implies_true, reduceCtorEq, ne_eq, Nat.reduceBNe, Nat.reduceBEq, IntKind.signed, Nat.reduceEqDiff, Nat.reduceLeDiff, Nat.reduceLT, eq_self, Int.reduceEq, Int.reduceLT, Int.reduceLE, Int.reduceAdd, Int.reduceSub, VC.regC_nil, VC.regC_cons, VC.regCK_eq, VC.callQ, VC.tailQ, VC.goCall, VC.chStep]
        refine ⟨f1, ?_⟩
        clear f1
        change Box (stW (w1.alloc (.cells #[nilS, nilS, nilS, nilS, nilS] 26)) _ _ _) _ _ at f2
        change Below _ _ (stW (w1.alloc (.cells #[nilS, nilS, nilS, nilS, nilS] 26)) _ _ _) at f3
        change (stW (w1.alloc (.cells #[nilS, nilS, nilS, nilS, nilS] 26)) _ _ _).heap.size = _ at f4
        generalize stW (w1.alloc (.cells #[nilS, nilS, nilS, nilS, nilS] 26)) ⟨w1.heap.size, 0, none⟩ 0 [nilS, nilS, nilS, nilS, nilS] = w2 at *
        have hB2 := hB1.trans (f3.mono hB1.size)
        obtain ⟨g1, g2, g3, g4⟩ := box_forms w2 [nilS, nilS, nilS, nilS, nilS] 26 one5 [nilS, nilS, nilS, nilS, nilS] rfl
        refine ⟨g1, ?_⟩
        clear g1
        change Box (stW (w2.alloc (.cells #[nilS, nilS, nilS, nilS, nilS] 26)) _ _ _) _ _ at g2
        change Below _ _ (stW (w2.alloc (.cells #[nilS, nilS, nilS, nilS, nilS] 26)) _ _ _) at g3
        change (stW (w2.alloc (.cells #[nilS, nilS, nilS, nilS, nilS] 26)) _ _ _).heap.size = _ at g4
        generalize stW (w2.alloc (.cells #[nilS, nilS, nilS, nilS, nilS] 26)) ⟨w2.heap.size, 0, none⟩ 0 [nilS, nilS, nilS, nilS, nilS] = w3 at *
        have hB3 := hB2.trans (g3.mono hB2.size)
        have f2' := f2.below g3
        have x0 := (f2').at (i := 0) rfl
        have x1 := (f2').at (i := 1) rfl
        have x2 := (f2').at (i := 2) rfl
        have x3 := (f2').at (i := 3) rfl
        have x4 := (f2').at (i := 4) rfl
        have y0 := (g2).at (i := 0) rfl
        have y1 := (g2).at (i := 1) rfl
        have y2 := (g2).at (i := 2) rfl
        have y3 := (g2).at (i := 3) rfl
        have y4 := (g2).at (i := 4) rfl
        simp -dsimp only [Fa.F3, e1, e2, rdSA_of x0, rdSN_of x0, rdSC_of x0, x0, rdSA_of x1, rdSN_of x1, rdSC_of x1, x1, rdSA_of x2, rdSN_of x2, rdSC_of x2, x2, rdSA_of x3, rdSN_of x3, rdSC_of x3, x3, rdSA_of x4, rdSN_of x4, rdSC_of x4, x4, rdSA_of y0, rdSN_of y0, rdSC_of y0, y0, rdSA_of y1, rdSN_of y1, rdSC_of y1, y1, rdSA_of y2, rdSN_of y2, rdSC_of y2, y2, rdSA_of y3, rdSN_of y3, rdSC_of y3, y3, rdSA_of y4, rdSN_of y4, rdSC_of y4, y4, VC.Now, VC.vc, VC.lib, VC.regQ, VC.loopK, VC.reg, VC.opP, VC.pv, VC.thenF, VC.blkF, VC.retF, VC.resV, VC.oneV, VC.evo, VC.bin, VC.binI, VC.cmpI, VC.arithI, VC.ldv, VC.slv, VC.pickP, VC.holds, VC.chainOf, VC.look, VC.junk, VC.put, VC.eff, VC.callee, VC.pureB, VC.rdK, VC.rdKs, VC.okKs, VC.eqKs, VC.fillL, VC.putL, VC.mixF, VC.setAll, Nat.reduceAdd, Nat.reduceSub, Nat.reduceMul, if_true, if_false, ↓reduceIte, forall_const, implies_true, reduceCtorEq, ne_eq, Nat.reduceBNe, Nat.reduceBEq, IntKind.signed, Nat.reduceEqDiff, Nat.reduceLeDiff, Nat.reduceLT, eq_self, Int.reduceEq, Int.reduceLT, Int.reduceLE, Int.reduceAdd, Int.reduceSub, VC.regC_nil, VC.regC_cons, VC.regCK_eq, VC.callQ, VC.tailQ, VC.goCall, VC.chStep]
        intro u
        refine CALL_of (bakeries_any [] [] [] [] [] _ _ w3 (Five.nil _) (Five.nil _) (by simp) (by simp) (by simp) (by simp) (by simp)) fun w6 hB6 => ?_
        rw [VC.Now, VC.seqK_eq]
        simp -dsimp only [Fa.F3, VC.Now, VC.vc, VC.lib, VC.regQ, VC.loopK, VC.reg, VC.opP, VC.pv, VC.thenF, VC.blkF, VC.retF, VC.resV, VC.oneV, VC.evo, VC.bin, VC.binI, VC.cmpI, VC.arithI, VC.ldv, VC.slv, VC.pickP, VC.holds, VC.chainOf, VC.look, VC.junk, VC.put, VC.eff, VC.callee, VC.pureB, VC.rdK, VC.rdKs, VC.okKs, VC.eqKs, VC.fillL, VC.putL, VC.stW, VC.stOK, VC.mixF, VC.setAll, Nat.reduceAdd, Nat.reduceSub, Nat.reduceMul, if_true, if_false, ↓reduceIte, forall_const, implies_true, reduceCtorEq, ne_eq, Nat.reduceBNe, Nat.reduceBEq, IntKind.signed, Nat.reduceEqDiff, Nat.reduceLeDiff, Nat.reduceLT, eq_self, Int.reduceEq, Int.reduceLT, Int.reduceLE, Int.reduceAdd, Int.reduceSub, VC.regC_nil, VC.regC_cons, VC.regCK_eq, VC.callQ, VC.tailQ, VC.goCall, VC.chStep]
        exact hB3.trans (hB6.mono hB3.size)
      · have e2 : (4 < n) = False := eq_false h2
        have e3 : ((120 : Int) < l.length) = True := eq_true (by omega)
        simp -dsimp only [Fa.F3, e1, e2, e3, VC.Now, VC.vc, VC.lib, VC.regQ, VC.loopK, VC.reg, VC.opP, VC.pv, VC.thenF, VC.blkF, VC.retF, VC.resV, VC.oneV, VC.evo, VC.bin, VC.binI, VC.cmpI, VC.arithI, VC.ldv, VC.slv, VC.pickP, VC.holds, VC.chainOf, VC.look, VC.junk, VC.put, VC.eff, VC.callee, VC.pureB, VC.rdK, VC.rdKs, VC.okKs, VC.eqKs, VC.fillL, VC.putL, VC.mixF, VC.setAll, Nat.reduceAdd, Nat.reduceSub, Nat.reduceMul, if_true, if_false, ↓reduceIte, forall_const, implies_true, reduceCtorEq, ne_eq, Nat.reduceBNe, Nat.reduceBEq, IntKind.signed, Nat.reduceEqDiff, Nat.reduceLeDiff, Nat.reduceLT, eq_self, Int.reduceEq, Int.reduceLT, Int.reduceLE, Int.reduceAdd, Int.reduceSub, VC.regC_nil, VC.regC_cons, VC.regCK_eq, VC.callQ, VC.tailQ, VC.goCall, VC.chStep]
        refine ⟨f1, ?_⟩
        clear f1
        change Box (stW (w1.alloc (.cells #[nilS, nilS, nilS, nilS, nilS] 26)) _ _ _) _ _ at f2
        change Below _ _ (stW (w1.alloc (.cells #[nilS, nilS, nilS, nilS, nilS] 26)) _ _ _) at f3
        change (stW (w1.alloc (.cells #[nilS, nilS, nilS, nilS, nilS] 26)) _ _ _).heap.size = _ at f4
        generalize stW (w1.alloc (.cells #[nilS, nilS, nilS, nilS, nilS] 26)) ⟨w1.heap.size, 0, none⟩ 0 [nilS, nilS, nilS, nilS, nilS] = w2 at *
        have hB2 := hB1.trans (f3.mono hB1.size)
        obtain ⟨g1, g2, g3, g4⟩ := box_forms w2 [nilS, nilS, nilS, nilS, nilS] 26 one5 [nilS, nilS, nilS, nilS, nilS] rfl
        refine ⟨g1, ?_⟩
        clear g1
        change Box (stW (w2.alloc (.cells #[nilS, nilS, nilS, nilS, nilS] 26)) _ _ _) _ _ at g2
        change Below _ _ (stW (w2.alloc (.cells #[nilS, nilS, nilS, nilS, nilS] 26)) _ _ _) at g3
        change (stW (w2.alloc (.cells #[nilS, nilS, nilS, nilS, nilS] 26)) _ _ _).heap.size = _ at g4
        generalize stW (w2.alloc (.cells #[nilS, nilS, nilS, nilS, nilS] 26)) ⟨w2.heap.size, 0, none⟩ 0 [nilS, nilS, nilS, nilS, nilS] = w3 at *
        have hB3 := hB2.trans (g3.mono hB2.size)
        have f2' := f2.below g3
        have x0 := (f2').at (i := 0) rfl
        have x1 := (f2').at (i := 1) rfl
        have x2 := (f2').at (i := 2) rfl
        have x3 := (f2').at (i := 3) rfl
        have x4 := (f2').at (i := 4) rfl
        have y0 := (g2).at (i := 0) rfl
        have y1 := (g2).at (i := 1) rfl
        have y2 := (g2).at (i := 2) rfl
        have y3 := (g2).at (i := 3) rfl
        have y4 := (g2).at (i := 4) rfl
        simp -dsimp only [Fa.F3, e1, e2, e3, rdSA_of x0, rdSN_of x0, rdSC_of x0, x0, rdSA_of x1, rdSN_of x1, rdSC_of x1, x1, rdSA_of x2, rdSN_of x2, rdSC_of x2, x2, rdSA_of x3, rdSN_of x3, rdSC_of x3, x3, rdSA_of x4, rdSN_of x4, rdSC_of x4, x4, rdSA_of y0, rdSN_of y0, rdSC_of y0, y0, rdSA_of y1, rdSN_of y1, rdSC_of y1, y1, rdSA_of y2, rdSN_of y2, rdSC_of y2, y2, rdSA_of y3, rdSN_of y3, rdSC_of y3, y3, rdSA_of y4, rdSN_of y4, rdSC_of y4, y4, VC.Now, VC.vc, VC.lib, VC.regQ, VC.loopK, VC.reg, VC.opP, VC.pv, VC.thenF, VC.blkF, VC.retF, VC.resV, VC.oneV, VC.evo, VC.bin, VC.binI, VC.cmpI, VC.arithI, VC.ldv, VC.slv, VC.pickP, VC.holds, VC.chainOf, VC.look, VC.junk, VC.put, VC.eff, VC.callee, VC.pureB, VC.rdK, VC.rdKs, VC.okKs, VC.eqKs, VC.fillL, VC.putL, VC.mixF, VC.setAll, Nat.reduceAdd, Nat.reduceSub, Nat.reduceMul, if_true, if_false, ↓reduceIte, forall_const, implies_true, reduceCtorEq, ne_eq, Nat.reduceBNe, Nat.reduceBEq, IntKind.signed, Nat.reduceEqDiff, Nat.reduceLeDiff, Nat.reduceLT, eq_self, Int.reduceEq, Int.reduceLT, Int.reduceLE, Int.reduceAdd, Int.reduceSub, VC.regC_nil, VC.regC_cons, VC.regCK_eq, VC.callQ, VC.tailQ, VC.goCall, VC.chStep]
        intro u
        refine CALL_of (bakeries_any [] [] [] [] [] _ _ w3 (Five.nil _) (Five.nil _) (by simp) (by simp) (by simp) (by simp) (by simp)) fun w6 hB6 => ?_
        rw [VC.Now, VC.seqK_eq]
        simp -dsimp only [Fa.F3, VC.Now, VC.vc, VC.lib, VC.regQ, VC.loopK, VC.reg, VC.opP, VC.pv, VC.thenF, VC.blkF, VC.retF, VC.resV, VC.oneV, VC.evo, VC.bin, VC.binI, VC.cmpI, VC.arithI, VC.ldv, VC.slv, VC.pickP, VC.holds, VC.chainOf, VC.look, VC.junk, VC.put, VC.eff, VC.callee, VC.pureB, VC.rdK, VC.rdKs, VC.okKs, VC.eqKs, VC.fillL, VC.putL, VC.stW, VC.stOK, VC.mixF, VC.setAll, Nat.reduceAdd, Nat.reduceSub, Nat.reduceMul, if_true, if_false, ↓reduceIte, forall_const, implies_true, reduceCtorEq, ne_eq, Nat.reduceBNe, Nat.reduceBEq, IntKind.signed, Nat.reduceEqDiff, Nat.reduceLeDiff, Nat.reduceLT, eq_self, Int.reduceEq, Int.reduceLT, Int.reduceLE, Int.reduceAdd, Int.reduceSub, VC.regC_nil, VC.regC_cons, VC.regCK_eq, VC.callQ, VC.tailQ, VC.goCall, VC.chStep]
        exact hB3.trans (hB6.mono hB3.size)
  · obtain ⟨N, rfl⟩ : ∃ N : Nat, n = N := ⟨n.toNat, by omega⟩
    generalize hs : bst N (fun i => l.getD i 0) l.length = s
    have e1 : ((N : Int) < 1) = False := eq_false (by omega)
    have e2 : ((4 : Int) < N) = False := eq_false (by omega)
    have e3 : ((120 : Int) < l.length) = False := eq_false (by omega)
    have hln : s.inn.length ≤ 1000 ∧ s.codes.length ≤ 1000 := by
      rw [← hs]
      have := bst_ok N (fun i => l.getD i 0) l.length
      omega
    have hpl := play_any A N cap l w hr (by omega) (by omega) (by omega)
    rw [hs] at hpl
    refine calls_vc (rs := [.tmp 4]) Fa.mix Try.func3 rfl Try.ntmps3 rfl (by kernel_rfl) (Nat.le_of_ble_eq_true rfl) ?_
    simp -dsimp only [Fa.F3, e1, e2, e3, VC.Now, VC.vc, VC.lib, VC.regQ, VC.loopK, VC.reg, VC.opP, VC.pv, VC.thenF, VC.blkF, VC.retF, VC.resV, VC.oneV, VC.evo, VC.bin, VC.binI, VC.cmpI, VC.arithI, VC.ldv, VC.slv, VC.pickP, VC.holds, VC.chainOf, VC.look, VC.junk, VC.put, VC.eff, VC.callee, VC.pureB, VC.rdK, VC.rdKs, VC.okKs, VC.eqKs, VC.fillL, VC.putL, VC.stW, VC.stOK, VC.mixF, VC.setAll, Nat.reduceAdd, Nat.reduceSub, Nat.reduceMul, if_true, if_false, ↓reduceIte, forall_const, implies_true, reduceCtorEq, ne_eq, Nat.reduceBNe, Nat.reduceBEq, IntKind.signed, Nat.reduceEqDiff, Nat.reduceLeDiff, Nat.reduceLT, eq_self, Int.reduceEq, Int.reduceLT, Int.reduceLE, Int.reduceAdd, Int.reduceSub, VC.regC_nil, VC.regC_cons, VC.regCK_eq, VC.callQ, VC.tailQ, VC.goCall, VC.chStep]
    refine CALL_by hpl ?_
    rintro _ w1 ⟨v, rfl, hv, hB1⟩
    refine ⟨_, rfl, ?_⟩
    rw [VC.Now, VC.seqK_eq]
    obtain ⟨A0, c0, A1, c1, A2, c2, A3, c3, A4, c4, rfl, _⟩ := hv.five.forms
    obtain ⟨f1, f2, f3, f4⟩ := box_forms w1 [.slice A0 s.codes.length c0, .slice A1 (atL s.p N).length c1, .slice A2 (tkL s.p N).length c2, .slice A3 (chL s.p N).length c3, .slice A4 s.inn.length c4] 26 one5 [nilS, nilS, nilS, nilS, nilS] rfl
    simp -dsimp only [Fa.F3, e1, e2, e3, VC.Now, VC.vc, VC.lib, VC.regQ, VC.loopK, VC.reg, VC.opP, VC.pv, VC.thenF, VC.blkF, VC.retF, VC.resV, VC.oneV, VC.evo, VC.bin, VC.binI, VC.cmpI, VC.arithI, VC.ldv, VC.slv, VC.pickP, VC.holds, VC.chainOf, VC.look, VC.junk, VC.put, VC.eff, VC.callee, VC.pureB, VC.rdK, VC.rdKs, VC.okKs, VC.eqKs, VC.fillL, VC.putL, VC.mixF, VC.setAll, Nat.reduceAdd, Nat.reduceSub, Nat.reduceMul, if_true, if_false, ↓reduceIte, forall_const, implies_true, reduceCtorEq, ne_eq, Nat.reduceBNe, Nat.reduceBEq, IntKind.signed, Nat.reduceEqDiff, Nat.reduceLeDiff, Nat.reduceLT, eq_self, Int.reduceEq, Int.reduceLT, Int.reduceLE, Int.reduceAdd, Int.reduceSub, VC.regC_nil, VC.regC_cons, VC.regCK_eq, VC.callQ, VC.tailQ, VC.goCall, VC.chStep]
    refine ⟨f1, ?_⟩
    clear f1
    change Box (stW (w1.alloc (.cells #[nilS, nilS, nilS, nilS, nilS] 26)) _ _ _) _ _ at f2
    change Below _ _ (stW (w1.alloc (.cells #[nilS, nilS, nilS, nilS, nilS] 26)) _ _ _) at f3
    change (stW (w1.alloc (.cells #[nilS, nilS, nilS, nilS, nilS] 26)) _ _ _).heap.size = _ at f4
    generalize stW (w1.alloc (.cells #[nilS, nilS, nilS, nilS, nilS] 26)) ⟨w1.heap.size, 0, none⟩ 0 [.slice A0 s.codes.length c0, .slice A1 (atL s.p N).length c1, .slice A2 (tkL s.p N).length c2, .slice A3 (chL s.p N).length c3, .slice A4 s.inn.length c4] = w2 at *
    have hB2 := hB1.trans (f3.mono hB1.size)
    have hv2 := hv.five.below f3
    obtain ⟨g1, g2, g3, g4⟩ := box_forms w2 [nilS, nilS, nilS, nilS, nilS] 26 one5 [nilS, nilS, nilS, nilS, nilS] rfl
    refine ⟨g1, fun u => ?_⟩
    clear g1
    change Box (stW (w2.alloc (.cells #[nilS, nilS, nilS, nilS, nilS] 26)) _ _ _) _ _ at g2
    change Below _ _ (stW (w2.alloc (.cells #[nilS, nilS, nilS, nilS, nilS] 26)) _ _ _) at g3
    change (stW (w2.alloc (.cells #[nilS, nilS, nilS, nilS, nilS] 26)) _ _ _).heap.size = _ at g4
    generalize stW (w2.alloc (.cells #[nilS, nilS, nilS, nilS, nilS] 26)) ⟨w2.heap.size, 0, none⟩ 0 [nilS, nilS, nilS, nilS, nilS] = w3 at *
    have hB3 := hB2.trans (g3.mono hB2.size)
    have hv3 := hv2.below g3
    have f2' := f2.below g3
    have hrf := ref_any A N cap l w3 (hr.below hB3) (by omega) (by omega) (by omega)
    rw [hs] at hrf
    refine CALL_by hrf ?_
    rintro _ w4 ⟨v, rfl, hv', hB4⟩
    refine ⟨_, rfl, ?_⟩
    rw [VC.Now, VC.seqK_eq]
    obtain ⟨B0, d0, B1, d1, B2, d2, B3, d3, B4, d4, rfl, _⟩ := hv'.bak.five.forms
    have hBw4 := hB3.trans (hB4.mono hB3.size)
    have hv4 := hv3.below hB4
    have x' := f2'.below hB4
    have y' := g2.below hB4
    obtain ⟨ok5, y5⟩ := y'.stAll (vs := [.slice B0 s.codes.length d0, .slice B1 (atL s.p N).length d1, .slice B2 (tkL s.p N).length d2, .slice B3 (chL s.p N).length d3, .slice B4 s.inn.length d4]) rfl one5
    have ag5 : Agree (fun j => j = w2.heap.size) w4 (stW w4 ⟨w2.heap.size, 0, none⟩ 0 [.slice B0 s.codes.length d0, .slice B1 (atL s.p N).length d1, .slice B2 (tkL s.p N).length d2, .slice B3 (chL s.p N).length d3, .slice B4 s.inn.length d4]) := stW_agree (X := fun j => j = w2.heap.size) rfl _ _ _
    have hlt : w.heap.size ≤ w2.heap.size := hB2.size
    have hBw5 := ag5.to_below hBw4 hBw4.size fun j hj => by omega
    have hlt2 := hB4.size
    have hlt1 := hB1.size
    have hB15 := ag5.to_below (f3.trans ((g3.trans (hB4.mono g3.size)).mono f3.size)) (Nat.le_trans f3.size (Nat.le_trans g3.size hB4.size)) fun j hj => by omega
    have hv5 := hv.five.below hB15
    have hv5' := (hv'.agree ag5 fun j hj => by omega).bak.five
    have x5 := x'.agree ag5 (by omega)
    have x0 := (x5).at (i := 0) rfl
    have x1 := (x5).at (i := 1) rfl
    have x2 := (x5).at (i := 2) rfl
    have x3 := (x5).at (i := 3) rfl
    have x4 := (x5).at (i := 4) rfl
    have y0 := (y5).at (i := 0) rfl
    have y1 := (y5).at (i := 1) rfl
    have y2 := (y5).at (i := 2) rfl
    have y3 := (y5).at (i := 3) rfl
    have y4 := (y5).at (i := 4) rfl
    simp -dsimp only [Fa.F3, rdSA_of x0, rdSN_of x0, rdSC_of x0, x0, rdSA_of x1, rdSN_of x1, rdSC_of x1, x1, rdSA_of x2, rdSN_of x2, rdSC_of x2, x2, rdSA_of x3, rdSN_of x3, rdSC_of x3, x3, rdSA_of x4, rdSN_of x4, rdSC_of x4, x4, rdSA_of y0, rdSN_of y0, rdSC_of y0, y0, rdSA_of y1, rdSN_of y1, rdSC_of y1, y1, rdSA_of y2, rdSN_of y2, rdSC_of y2, y2, rdSA_of y3, rdSN_of y3, rdSC_of y3, y3, rdSA_of y4, rdSN_of y4, rdSC_of y4, y4, VC.Now, VC.vc, VC.lib, VC.regQ, VC.loopK, VC.reg, VC.opP, VC.pv, VC.thenF, VC.blkF, VC.retF, VC.resV, VC.oneV, VC.evo, VC.bin, VC.binI, VC.cmpI, VC.arithI, VC.ldv, VC.slv, VC.pickP, VC.holds, VC.chainOf, VC.look, VC.junk, VC.put, VC.eff, VC.callee, VC.pureB, VC.rdK, VC.rdKs, VC.okKs, VC.eqKs, VC.fillL, VC.putL, VC.mixF, VC.setAll, Nat.reduceAdd, Nat.reduceSub, Nat.reduceMul, if_true, if_false, ↓reduceIte, forall_const, implies_true, reduceCtorEq, ne_eq, Nat.reduceBNe, Nat.reduceBEq, IntKind.signed, Nat.reduceEqDiff, Nat.reduceLeDiff, Nat.reduceLT, eq_self, Int.reduceEq, Int.reduceLT, Int.reduceLE, Int.reduceAdd, Int.reduceSub, VC.regC_nil, VC.regC_cons, VC.regCK_eq, VC.callQ, VC.tailQ, VC.goCall, VC.chStep]
    refine ⟨ok5, CALL_of (bakeries_any _ _ _ _ _ _ _ _ hv5 hv5' (by omega) (by simp; omega) (by simp; omega) (by simp; omega) (by omega)) fun w6 hB6 => ?_⟩
    rw [VC.Now, VC.seqK_eq]
    simp -dsimp only [Fa.F3, VC.Now, VC.vc, VC.lib, VC.regQ, VC.loopK, VC.reg, VC.opP, VC.pv, VC.thenF, VC.blkF, VC.retF, VC.resV, VC.oneV, VC.evo, VC.bin, VC.binI, VC.cmpI, VC.arithI, VC.ldv, VC.slv, VC.pickP, VC.holds, VC.chainOf, VC.look, VC.junk, VC.put, VC.eff, VC.callee, VC.pureB, VC.rdK, VC.rdKs, VC.okKs, VC.eqKs, VC.fillL, VC.putL, VC.stW, VC.stOK, VC.mixF, VC.setAll, Nat.reduceAdd, Nat.reduceSub, Nat.reduceMul, if_true, if_false, ↓reduceIte, forall_const, implies_true, reduceCtorEq, ne_eq, Nat.reduceBNe, Nat.reduceBEq, IntKind.signed, Nat.reduceEqDiff, Nat.reduceLeDiff, Nat.reduceLT, eq_self, Int.reduceEq, Int.reduceLT, Int.reduceLE, Int.reduceAdd, Int.reduceSub, VC.regC_nil, VC.regC_cons, VC.regCK_eq, VC.callQ, VC.tailQ, VC.goCall, VC.chStep]
    exact hBw5.trans (hB6.mono hBw5.size)
end Go.Proofs.Ytnggjekppdlaoaa
