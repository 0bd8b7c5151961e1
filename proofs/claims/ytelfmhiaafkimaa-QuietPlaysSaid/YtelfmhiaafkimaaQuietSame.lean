/- When all rests: are two answers the same? -/
import Derived.Test.YtelfmhiaafkimaaQuiet6
import Derived.Test.YtelfmhiaafkimaaQuietDE
import Derived.Test.YtelfmhiaafkimaaRefSameC
import Derived.Test.YtelfmhiaafkimaaRefSameB
namespace Go.Proofs.Ytelfmhiaafkimaa
open Go Go.RowKit Go.VC
set_option linter.unusedSimpArgs false
set_option linter.unusedVariables false
theorem one5 {A0 A1 A2 : Option Addr} {n0 n1 n2 c0 c1 c2 : Nat} {x : Int} {d : Bool} : ∀ v ∈ [Value.slice A0 n0 c0, .slice A1 n1 c1, .slice A2 n2 c2, .int .i64 x, .bool d], v.oneCell' = true := by
  intro v hv; simp at hv; rcases hv with rfl | rfl | rfl | rfl | rfl <;> rfl
theorem QuietQ.apart {n k : Nat} {codes : List Int} {s : QS} {v : Value} {w w' : World} {B yb : Nat} (h : QuietQ n k codes s v w) (hn : NewS B v) (hA : Agree (fun j => j = yb) w w') (hy : yb < B) : QuietQ n k codes s v w' := by
  obtain ⟨A0, c0, A1, c1, A2, c2, rfl, hcl, h0, h1, h2⟩ := h
  refine ⟨A0, c0, A1, c1, A2, c2, rfl, hcl, Rd_agree h0 hA fun ad had e => ?_, Rd_agree h1 hA fun ad had e => ?_, Rd_agree h2 hA fun ad had e => ?_⟩
  · have := hn _ rfl A0 k c0 (by simp) ad had; omega
  · have := hn _ rfl A1 n c1 (by simp) ad had; omega
  · have := hn _ rfl A2 n c2 (by simp) ad had; omega

set_option maxRecDepth 8000 in
set_option maxHeartbeats 4000000 in
theorem calms_any {n k : Nat} {codes : List Int} {s : QS} {x y : Value} (w : World) (hx : QuietQ n k codes s x w) (hy : QuietQ n k codes s y w) (hk : k ≤ 1000) (hn : n ≤ 1000) :
    Calls Try.prog 23 #[x, y] w fun e w' => e = .returned (.bool true) ∧ Below w.heap.size w w' := by
  obtain ⟨A0, a0, A1, a1, A2, a2, rfl, hcl, hA0, hA1, hA2⟩ := hx
  obtain ⟨B0, b0, B1, b1, B2, b2, rfl, _, hB0, hB1, hB2⟩ := hy
  subst hcl
  have ew : worksL s n = ((List.range n).map fun i => (s.pr i).works).map Value.bool := by unfold worksL; rw [List.map_map]; rfl
  have eb : boundL s n = ((List.range n).map fun i => (s.pr i).bound).map Value.bool := by unfold boundL; rw [List.map_map]; rfl
  rw [ew] at hA1 hB1
  rw [eb] at hA2 hB2
  have lw : ((List.range n).map fun i => (s.pr i).works).length = n := by simp
  have lb : ((List.range n).map fun i => (s.pr i).bound).length = n := by simp
  have bx := Box.new w [.slice A0 codes.length a0, .slice A1 n a1, .slice A2 n a2, .int .i64 (away n s), .bool s.done] 47
  have hBx : Below w.heap.size w (w.alloc (.cells #[.slice A0 codes.length a0, .slice A1 n a1, .slice A2 n a2, .int .i64 (away n s), .bool s.done] 47)) := (Below.refl _ _).alloc (Nat.le_refl _) _
  have hzx : (w.alloc (.cells #[.slice A0 codes.length a0, .slice A1 n a1, .slice A2 n a2, .int .i64 (away n s), .bool s.done] 47)).heap.size = w.heap.size + 1 := by simp
  refine calls_vc (rs := [.tmp 4]) Fa.mix Try.func23 rfl Try.ntmps23 rfl (by kernel_rfl) (Nat.le_of_ble_eq_true rfl) ?_
  (repeat rw [vc_seq]); refine vc_plain _ fun Q hQ => ?_; simp -dsimp (maxSteps := 2000000) only [Fa.F23, VC.Now, VC.vc_skip, VC.vc_ret, VC.vc_exit, VC.vc_block, VC.vc_cond, VC.vc_region, VC.lib, VC.mapN_drewN, VC.mapB_drewN, VC.regQ, VC.loopK, VC.reg, VC.opP, VC.opS, VC.opZ, VC.nomulB, VC.pv, VC.thenF, VC.blkF, VC.retF, VC.resV, VC.oneV, VC.evo, VC.bin, VC.binI, VC.cmpI, VC.arithI, VC.ldv, VC.slv, VC.pickP, VC.holds, VC.chainOf, VC.look, VC.junk, VC.put, VC.eff, VC.callee, VC.pureB, VC.rdK, VC.rdKs, VC.okKs, VC.eqKs, VC.fillL, VC.putL, VC.stW, VC.stOK, VC.mixF, VC.setAll, Nat.reduceAdd, Nat.reduceSub, Nat.reduceMul, if_true, if_false, ↓reduceIte, forall_const, implies_true, reduceCtorEq, ne_eq, Nat.reduceBNe, Nat.reduceBEq, IntKind.signed, Nat.reduceEqDiff, Nat.reduceLeDiff, Nat.reduceLT, eq_self, Int.reduceEq, Int.reduceLT, Int.reduceLE, Int.reduceAdd, Int.reduceSub, VC.regC_nil, VC.regC_cons, VC.regCK_eq, VC.callQ, VC.tailQ, VC.goCall, VC.chStep]
  change Box (w.alloc (.cells #[.slice A0 codes.length a0, .slice A1 n a1, .slice A2 n a2, .int .i64 (away n s), .bool s.done] 47)) _ _ at bx
  change Q _ _ ((w.alloc (.cells #[.slice A0 codes.length a0, .slice A1 n a1, .slice A2 n a2, .int .i64 (away n s), .bool s.done] 47)).alloc _)
  generalize w.alloc (.cells #[.slice A0 codes.length a0, .slice A1 n a1, .slice A2 n a2, .int .i64 (away n s), .bool s.done] 47) = w1 at bx hBx hzx ⊢
  have bY := Box.new w1 [.slice B0 codes.length b0, .slice B1 n b1, .slice B2 n b2, .int .i64 (away n s), .bool s.done] 47
  have hBy : Below w1.heap.size w1 (w1.alloc (.cells #[.slice B0 codes.length b0, .slice B1 n b1, .slice B2 n b2, .int .i64 (away n s), .bool s.done] 47)) := (Below.refl _ _).alloc (Nat.le_refl _) _
  change Box (w1.alloc (.cells #[.slice B0 codes.length b0, .slice B1 n b1, .slice B2 n b2, .int .i64 (away n s), .bool s.done] 47)) _ _ at bY
  replace bx := bx.below hBy
  have hB := hBx.trans (hBy.mono (by omega))
  rw [hzx] at bY
  generalize w1.alloc (.cells #[.slice B0 codes.length b0, .slice B1 n b1, .slice B2 n b2, .int .i64 (away n s), .bool s.done] 47) = w2 at bx bY hB ⊢
  clear hBy hBx hzx
  have x0 := bx.at (i := 0) rfl
  have x1 := bx.at (i := 1) rfl
  have x2 := bx.at (i := 2) rfl
  have x3 := bx.at (i := 3) rfl
  have x4 := bx.at (i := 4) rfl
  have y0 := bY.at (i := 0) rfl
  have y1 := bY.at (i := 1) rfl
  have y2 := bY.at (i := 2) rfl
  have y3 := bY.at (i := 3) rfl
  have y4 := bY.at (i := 4) rfl
  subst hQ; simp -dsimp (maxSteps := 2000000) only [VC.Now, VC.vc_skip, VC.vc_ret, VC.vc_exit, VC.vc_block, VC.vc_cond, VC.vc_region, VC.lib, VC.mapN_drewN, VC.mapB_drewN, VC.regQ, VC.loopK, VC.reg, VC.opP, VC.opS, VC.opZ, VC.nomulB, VC.pv, VC.thenF, VC.blkF, VC.retF, VC.resV, VC.oneV, VC.evo, VC.bin, VC.binI, VC.cmpI, VC.arithI, VC.ldv, VC.slv, VC.pickP, VC.holds, VC.chainOf, VC.look, VC.junk, VC.put, VC.eff, VC.callee, VC.pureB, VC.rdK, VC.rdKs, VC.okKs, VC.eqKs, VC.fillL, VC.putL, VC.stW, VC.stOK, VC.mixF, VC.setAll, Nat.reduceAdd, Nat.reduceSub, Nat.reduceMul, if_true, if_false, ↓reduceIte, forall_const, implies_true, reduceCtorEq, ne_eq, Nat.reduceBNe, Nat.reduceBEq, IntKind.signed, Nat.reduceEqDiff, Nat.reduceLeDiff, Nat.reduceLT, eq_self, Int.reduceEq, Int.reduceLT, Int.reduceLE, Int.reduceAdd, Int.reduceSub, VC.regC_nil, VC.regC_cons, VC.regCK_eq, VC.callQ, VC.tailQ, VC.goCall, VC.chStep]; (repeat rw [vc_seq]); refine vc_plain _ fun Q hQ => ?_; simp -dsimp (maxSteps := 2000000) only [Fa.F23, rdSA_of x0, rdSN_of x0, rdSC_of x0, x0, rdSA_of y0, rdSN_of y0, rdSC_of y0, y0, VC.Now, VC.vc_skip, VC.vc_ret, VC.vc_exit, VC.vc_block, VC.vc_cond, VC.vc_region, VC.lib, VC.mapN_drewN, VC.mapB_drewN, VC.regQ, VC.loopK, VC.reg, VC.opP, VC.opS, VC.opZ, VC.nomulB, VC.pv, VC.thenF, VC.blkF, VC.retF, VC.resV, VC.oneV, VC.evo, VC.bin, VC.binI, VC.cmpI, VC.arithI, VC.ldv, VC.slv, VC.pickP, VC.holds, VC.chainOf, VC.look, VC.junk, VC.put, VC.eff, VC.callee, VC.pureB, VC.rdK, VC.rdKs, VC.okKs, VC.eqKs, VC.fillL, VC.putL, VC.stW, VC.stOK, VC.mixF, VC.setAll, Nat.reduceAdd, Nat.reduceSub, Nat.reduceMul, if_true, if_false, ↓reduceIte, forall_const, implies_true, reduceCtorEq, ne_eq, Nat.reduceBNe, Nat.reduceBEq, IntKind.signed, Nat.reduceEqDiff, Nat.reduceLeDiff, Nat.reduceLT, eq_self, Int.reduceEq, Int.reduceLT, Int.reduceLE, Int.reduceAdd, Int.reduceSub, VC.regC_nil, VC.regC_cons, VC.regCK_eq, VC.callQ, VC.tailQ, VC.goCall, VC.chStep]
  refine CALL_of (codes_any A0 B0 a0 b0 codes codes w2 (hA0.below hB) (hB0.below hB) (by omega) (by omega)) fun w3 hw3 => ?_
  rw [VC.Now, VC.seqK_eq]
  replace bx := bx.below hw3
  replace bY := bY.below hw3
  replace hB := hB.trans (hw3.mono hB.size)
  clear x0 x1 x2 x3 x4 y0 y1 y2 y3 y4 hw3
  have x0 := bx.at (i := 0) rfl
  have x1 := bx.at (i := 1) rfl
  have x2 := bx.at (i := 2) rfl
  have x3 := bx.at (i := 3) rfl
  have x4 := bx.at (i := 4) rfl
  have y0 := bY.at (i := 0) rfl
  have y1 := bY.at (i := 1) rfl
  have y2 := bY.at (i := 2) rfl
  have y3 := bY.at (i := 3) rfl
  have y4 := bY.at (i := 4) rfl
  have e0 : decide (codes = codes) = true := decide_eq_true rfl
  simp -dsimp (maxSteps := 2000000) only [Fa.F23, e0, rdSA_of x1, rdSN_of x1, rdSC_of x1, x1, rdSA_of y1, rdSN_of y1, rdSC_of y1, y1, undef, tu, uf, ul, ur, VC.Now, VC.vc_skip, VC.vc_ret, VC.vc_exit, VC.vc_block, VC.vc_cond, VC.vc_region, VC.lib, VC.mapN_drewN, VC.mapB_drewN, VC.regQ, VC.loopK, VC.reg, VC.opP, VC.opS, VC.opZ, VC.nomulB, VC.pv, VC.thenF, VC.blkF, VC.retF, VC.resV, VC.oneV, VC.evo, VC.bin, VC.binI, VC.cmpI, VC.arithI, VC.ldv, VC.slv, VC.pickP, VC.holds, VC.chainOf, VC.look, VC.junk, VC.put, VC.eff, VC.callee, VC.pureB, VC.rdK, VC.rdKs, VC.okKs, VC.eqKs, VC.fillL, VC.putL, VC.stW, VC.stOK, VC.mixF, VC.setAll, Nat.reduceAdd, Nat.reduceSub, Nat.reduceMul, if_true, if_false, ↓reduceIte, forall_const, implies_true, reduceCtorEq, ne_eq, Nat.reduceBNe, Nat.reduceBEq, IntKind.signed, Nat.reduceEqDiff, Nat.reduceLeDiff, Nat.reduceLT, eq_self, Int.reduceEq, Int.reduceLT, Int.reduceLE, Int.reduceAdd, Int.reduceSub, VC.regC_nil, VC.regC_cons, VC.regCK_eq, VC.callQ, VC.tailQ, VC.goCall, VC.chStep]
  have hc1 := bools_any A1 B1 a1 b1 ((List.range n).map fun i => (s.pr i).works) ((List.range n).map fun i => (s.pr i).works) w3 (hA1.below hB) (hB1.below hB) (by omega) (by omega)
  have e1 : decide (((List.range n).map fun i => (s.pr i).works) = ((List.range n).map fun i => (s.pr i).works)) = true := decide_eq_true rfl
  rw [lw, e1] at hc1
  refine CALL_of hc1 fun w4 hw3 => ?_
  rw [VC.Now, VC.seqK_eq]
  replace bx := bx.below hw3
  replace bY := bY.below hw3
  replace hB := hB.trans (hw3.mono hB.size)
  clear x0 x1 x2 x3 x4 y0 y1 y2 y3 y4 hw3
  have x0 := bx.at (i := 0) rfl
  have x1 := bx.at (i := 1) rfl
  have x2 := bx.at (i := 2) rfl
  have x3 := bx.at (i := 3) rfl
  have x4 := bx.at (i := 4) rfl
  have y0 := bY.at (i := 0) rfl
  have y1 := bY.at (i := 1) rfl
  have y2 := bY.at (i := 2) rfl
  have y3 := bY.at (i := 3) rfl
  have y4 := bY.at (i := 4) rfl
  simp -dsimp (maxSteps := 2000000) only [Fa.F23, rdSA_of x2, rdSN_of x2, rdSC_of x2, x2, rdSA_of y2, rdSN_of y2, rdSC_of y2, y2, undef, tu, uf, ul, ur, VC.Now, VC.vc_skip, VC.vc_ret, VC.vc_exit, VC.vc_block, VC.vc_cond, VC.vc_region, VC.lib, VC.mapN_drewN, VC.mapB_drewN, VC.regQ, VC.loopK, VC.reg, VC.opP, VC.opS, VC.opZ, VC.nomulB, VC.pv, VC.thenF, VC.blkF, VC.retF, VC.resV, VC.oneV, VC.evo, VC.bin, VC.binI, VC.cmpI, VC.arithI, VC.ldv, VC.slv, VC.pickP, VC.holds, VC.chainOf, VC.look, VC.junk, VC.put, VC.eff, VC.callee, VC.pureB, VC.rdK, VC.rdKs, VC.okKs, VC.eqKs, VC.fillL, VC.putL, VC.stW, VC.stOK, VC.mixF, VC.setAll, Nat.reduceAdd, Nat.reduceSub, Nat.reduceMul, if_true, if_false, ↓reduceIte, forall_const, implies_true, reduceCtorEq, ne_eq, Nat.reduceBNe, Nat.reduceBEq, IntKind.signed, Nat.reduceEqDiff, Nat.reduceLeDiff, Nat.reduceLT, eq_self, Int.reduceEq, Int.reduceLT, Int.reduceLE, Int.reduceAdd, Int.reduceSub, VC.regC_nil, VC.regC_cons, VC.regCK_eq, VC.callQ, VC.tailQ, VC.goCall, VC.chStep]
  have hc2 := bools_any A2 B2 a2 b2 ((List.range n).map fun i => (s.pr i).bound) ((List.range n).map fun i => (s.pr i).bound) w4 (hA2.below hB) (hB2.below hB) (by omega) (by omega)
  have e2 : decide (((List.range n).map fun i => (s.pr i).bound) = ((List.range n).map fun i => (s.pr i).bound)) = true := decide_eq_true rfl
  rw [lb, e2] at hc2
  refine CALL_of hc2 fun w5 hw3 => ?_
  rw [VC.Now, VC.seqK_eq]
  replace bx := bx.below hw3
  replace bY := bY.below hw3
  replace hB := hB.trans (hw3.mono hB.size)
  clear x0 x1 x2 x3 x4 y0 y1 y2 y3 y4 hw3
  have x0 := bx.at (i := 0) rfl
  have x1 := bx.at (i := 1) rfl
  have x2 := bx.at (i := 2) rfl
  have x3 := bx.at (i := 3) rfl
  have x4 := bx.at (i := 4) rfl
  have y0 := bY.at (i := 0) rfl
  have y1 := bY.at (i := 1) rfl
  have y2 := bY.at (i := 2) rfl
  have y3 := bY.at (i := 3) rfl
  have y4 := bY.at (i := 4) rfl
  have e3 : decide (away n s = away n s) = true := decide_eq_true rfl
  have e4 : (s.done == s.done) = true := by simp
  simp -dsimp (maxSteps := 2000000) only [Fa.F23, e3, e4, rdI_of x3, x3, rdI_of y3, y3, rdB_of x4, x4, rdB_of y4, y4, undef, tu, uf, ul, ur, VC.Now, VC.vc_skip, VC.vc_ret, VC.vc_exit, VC.vc_block, VC.vc_cond, VC.vc_region, VC.lib, VC.mapN_drewN, VC.mapB_drewN, VC.regQ, VC.loopK, VC.reg, VC.opP, VC.opS, VC.opZ, VC.nomulB, VC.pv, VC.thenF, VC.blkF, VC.retF, VC.resV, VC.oneV, VC.evo, VC.bin, VC.binI, VC.cmpI, VC.arithI, VC.ldv, VC.slv, VC.pickP, VC.holds, VC.chainOf, VC.look, VC.junk, VC.put, VC.eff, VC.callee, VC.pureB, VC.rdK, VC.rdKs, VC.okKs, VC.eqKs, VC.fillL, VC.putL, VC.stW, VC.stOK, VC.mixF, VC.setAll, Nat.reduceAdd, Nat.reduceSub, Nat.reduceMul, if_true, if_false, ↓reduceIte, forall_const, implies_true, reduceCtorEq, ne_eq, Nat.reduceBNe, Nat.reduceBEq, IntKind.signed, Nat.reduceEqDiff, Nat.reduceLeDiff, Nat.reduceLT, eq_self, Int.reduceEq, Int.reduceLT, Int.reduceLE, Int.reduceAdd, Int.reduceSub, VC.regC_nil, VC.regC_cons, VC.regCK_eq, VC.callQ, VC.tailQ, VC.goCall, VC.chStep]
  subst hQ
  simp -dsimp (maxSteps := 2000000) only [Fa.F23, VC.Now, VC.vc, VC.lib, VC.mapN_drewN, VC.mapB_drewN, VC.regQ, VC.loopK, VC.reg, VC.opP, VC.opS, VC.opZ, VC.nomulB, VC.pv, VC.thenF, VC.blkF, VC.retF, VC.resV, VC.oneV, VC.evo, VC.bin, VC.binI, VC.cmpI, VC.arithI, VC.ldv, VC.slv, VC.pickP, VC.holds, VC.chainOf, VC.look, VC.junk, VC.put, VC.eff, VC.callee, VC.pureB, VC.rdK, VC.rdKs, VC.okKs, VC.eqKs, VC.fillL, VC.putL, VC.stW, VC.stOK, VC.mixF, VC.setAll, Nat.reduceAdd, Nat.reduceSub, Nat.reduceMul, if_true, if_false, ↓reduceIte, forall_const, implies_true, reduceCtorEq, ne_eq, Nat.reduceBNe, Nat.reduceBEq, IntKind.signed, Nat.reduceEqDiff, Nat.reduceLeDiff, Nat.reduceLT, eq_self, Int.reduceEq, Int.reduceLT, Int.reduceLE, Int.reduceAdd, Int.reduceSub, VC.regC_nil, VC.regC_cons, VC.regCK_eq, VC.callQ, VC.tailQ, VC.goCall, VC.chStep]
  exact hB
end Go.Proofs.Ytelfmhiaafkimaa
