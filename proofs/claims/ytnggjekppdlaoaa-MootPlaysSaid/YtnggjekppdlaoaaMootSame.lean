/- An assembly: are two outcomes the same? What the document says of the arguments. -/
import Derived.Test.YtnggjekppdlaoaaMootR8
import Derived.Test.YtnggjekppdlaoaaRefBits
import Derived.Test.YtnggjekppdlaoaaRefSameC
import Derived.Test.YtnggjekppdlaoaaRefSameB
namespace Go.Proofs.Ytnggjekppdlaoaa
open Go Go.RowKit Go.VC
set_option linter.unusedSimpArgs false
set_option linter.unusedVariables false

def Four (codes : List Int) (nb : Nat) (p r : Nat → Int) (cl dl : List Bool) (v : Value) (w : World) : Prop :=
  ∃ A0 c0 A1 c1 A2 c2 A3 c3, v = .agg #[.slice A0 codes.length c0, .slice A1 nb c1, .slice A2 cl.length c2, .slice A3 dl.length c3] ∧
    Rd w A0 (codes.map (Value.int .i64)) ∧ RdBlk w A1 nb p r ∧ Rd w A2 (cl.map Value.bool) ∧ Rd w A3 (dl.map Value.bool)
theorem Four.nil (w : World) : Four [] 0 (fun _ => 0) (fun _ => 0) [] [] (.agg #[nilS, nilS, nilS, nilS]) w :=
  ⟨none, 0, none, 0, none, 0, none, 0, rfl, fun h => absurd h (by simp), fun h => absurd h (by simp), fun h => absurd h (by simp), fun h => absurd h (by simp)⟩
theorem Four.below {codes : List Int} {nb : Nat} {p r : Nat → Int} {cl dl : List Bool} {v : Value} {w w' : World} (h : Four codes nb p r cl dl v w) (hB : Below w.heap.size w w') : Four codes nb p r cl dl v w' := by
  obtain ⟨A0, c0, A1, c1, A2, c2, A3, c3, rfl, h0, h1, h2, h3⟩ := h
  exact ⟨A0, c0, A1, c1, A2, c2, A3, c3, rfl, h0.below hB, h1.below hB, h2.below hB, h3.below hB⟩
theorem MeetV.four {n need liars k : Nat} {f : Nat → Say} {v : Value} {w : World} (h : MeetV n need liars f k v w) :
    ∃ dl, dl.length = (mst n need liars f k).nb ∧ (certL need (mst n need liars f k)).length = (mst n need liars f k).nb ∧ dl = onL (mst n need liars f k).nb (decF (certL need (mst n need liars f k)) (mst n need liars f k).p (mst n need liars f k).r (mst n need liars f k).nb) ∧
      Four ((List.range k).map (mcode n need liars f)) (mst n need liars f k).nb (mst n need liars f k).p (mst n need liars f k).r (certL need (mst n need liars f k)) dl v w := by
  obtain ⟨A0, c0, A1, c1, A2, c2, A3, c3, rfl, h0, h1, h2, h3⟩ := h
  have hl1 : (onL (mst n need liars f k).nb (decF (certL need (mst n need liars f k)) (mst n need liars f k).p (mst n need liars f k).r (mst n need liars f k).nb)).length = (mst n need liars f k).nb := onL_length _ _
  have hl2 : (certL need (mst n need liars f k)).length = (mst n need liars f k).nb := by simp [certL]
  refine ⟨_, hl1, hl2, rfl, A0, c0, A1, c1, A2, c2, A3, c3, ?_, ?_, h1, h2, h3⟩
  · rw [hl1, hl2, List.length_map, List.length_range]
  · rw [List.map_map]; exact h0

set_option maxRecDepth 8000 in
set_option maxHeartbeats 4000000 in
theorem meetings_any {codes : List Int} {nb : Nat} {p r : Nat → Int} {cl dl : List Bool} {x y : Value} (w : World) (hx : Four codes nb p r cl dl x w) (hy : Four codes nb p r cl dl y w) (hc : codes.length ≤ 1000) (hn : nb ≤ 1000) (h1 : cl.length ≤ 1000) (h2 : dl.length ≤ 1000) :
    Calls Try.prog 18 #[x, y] w fun e w' => e = .returned (.bool true) ∧ Below w.heap.size w w' := by
  obtain ⟨A0, a0, A1, a1, A2, a2, A3, a3, rfl, hA0, hA1, hA2, hA3⟩ := hx
  obtain ⟨B0, b0, B1, b1, B2, b2, B3, b3, rfl, hB0, hB1, hB2, hB3⟩ := hy
  have bx := Box.new w [.slice A0 codes.length a0, .slice A1 nb a1, .slice A2 cl.length a2, .slice A3 dl.length a3] 47
  have hBx : Below w.heap.size w (w.alloc (.cells #[.slice A0 codes.length a0, .slice A1 nb a1, .slice A2 cl.length a2, .slice A3 dl.length a3] 47)) := (Below.refl _ _).alloc (Nat.le_refl _) _
  have hzx : (w.alloc (.cells #[.slice A0 codes.length a0, .slice A1 nb a1, .slice A2 cl.length a2, .slice A3 dl.length a3] 47)).heap.size = w.heap.size + 1 := by simp
  refine calls_vc (rs := [.tmp 4]) Fa.mix Try.func18 rfl Try.ntmps18 rfl (by kernel_rfl) (Nat.le_of_ble_eq_true rfl) ?_
  (repeat rw [vc_seq]); refine vc_plain _ fun Q hQ => ?_; simp -dsimp only [Fa.F18, VC.Now, VC.vc_skip, VC.vc_ret, VC.vc_exit, VC.vc_block, VC.vc_cond, VC.vc_region, VC.lib, VC.regQ, VC.loopK, VC.reg, VC.opP, VC.pv, VC.thenF, VC.blkF, VC.retF, VC.resV, VC.oneV, VC.evo, VC.bin, VC.binI, VC.cmpI, VC.arithI, VC.ldv, VC.slv, VC.pickP, VC.holds, VC.chainOf, VC.look, VC.junk, VC.put, VC.eff, VC.callee, VC.pureB, VC.rdK, VC.rdKs, VC.okKs, VC.eqKs, VC.fillL, VC.putL, VC.stW, VC.stOK, VC.mixF, VC.setAll, Nat.reduceAdd, Nat.reduceSub, Nat.reduceMul, if_true, if_false, ↓reduceIte, forall_const, implies_true, reduceCtorEq, ne_eq, Nat.reduceBNe, Nat.reduceBEq, IntKind.signed, Nat.reduceEqDiff, Nat.reduceLeDiff, Nat.reduceLT, eq_self, Int.reduceEq, Int.reduceLT, Int.reduceLE, Int.reduceAdd, Int.reduceSub, VC.regC_nil, VC.regC_cons, VC.regCK_eq, VC.callQ, VC.tailQ, VC.goCall, VC.chStep]
  change Box (w.alloc (.cells #[.slice A0 codes.length a0, .slice A1 nb a1, .slice A2 cl.length a2, .slice A3 dl.length a3] 47)) _ _ at bx
  change Q _ _ ((w.alloc (.cells #[.slice A0 codes.length a0, .slice A1 nb a1, .slice A2 cl.length a2, .slice A3 dl.length a3] 47)).alloc _)
  generalize w.alloc (.cells #[.slice A0 codes.length a0, .slice A1 nb a1, .slice A2 cl.length a2, .slice A3 dl.length a3] 47) = w1 at bx hBx hzx ⊢
  have bY := Box.new w1 [.slice B0 codes.length b0, .slice B1 nb b1, .slice B2 cl.length b2, .slice B3 dl.length b3] 47
  have hBy : Below w1.heap.size w1 (w1.alloc (.cells #[.slice B0 codes.length b0, .slice B1 nb b1, .slice B2 cl.length b2, .slice B3 dl.length b3] 47)) := (Below.refl _ _).alloc (Nat.le_refl _) _
  change Box (w1.alloc (.cells #[.slice B0 codes.length b0, .slice B1 nb b1, .slice B2 cl.length b2, .slice B3 dl.length b3] 47)) _ _ at bY
  replace bx := bx.below hBy
  have hB := hBx.trans (hBy.mono (by omega))
  rw [hzx] at bY
  generalize w1.alloc (.cells #[.slice B0 codes.length b0, .slice B1 nb b1, .slice B2 cl.length b2, .slice B3 dl.length b3] 47) = w2 at bx bY hB ⊢
  clear hBy hBx
  clear hzx
  have x0 := bx.at (i := 0) rfl
  have x2 := bx.at (i := 2) rfl
  have x3 := bx.at (i := 3) rfl
  have x1 := bx.at (i := 1) rfl
  have y0 := bY.at (i := 0) rfl
  have y2 := bY.at (i := 2) rfl
  have y3 := bY.at (i := 3) rfl
  have y1 := bY.at (i := 1) rfl
  have hxl := bx.1
  have hyl := bY.1
  have bl := hB
  subst hQ; simp -dsimp only [VC.Now, VC.vc_skip, VC.vc_ret, VC.vc_exit, VC.vc_block, VC.vc_cond, VC.vc_region, VC.lib, VC.regQ, VC.loopK, VC.reg, VC.opP, VC.pv, VC.thenF, VC.blkF, VC.retF, VC.resV, VC.oneV, VC.evo, VC.bin, VC.binI, VC.cmpI, VC.arithI, VC.ldv, VC.slv, VC.pickP, VC.holds, VC.chainOf, VC.look, VC.junk, VC.put, VC.eff, VC.callee, VC.pureB, VC.rdK, VC.rdKs, VC.okKs, VC.eqKs, VC.fillL, VC.putL, VC.stW, VC.stOK, VC.mixF, VC.setAll, Nat.reduceAdd, Nat.reduceSub, Nat.reduceMul, if_true, if_false, ↓reduceIte, forall_const, implies_true, reduceCtorEq, ne_eq, Nat.reduceBNe, Nat.reduceBEq, IntKind.signed, Nat.reduceEqDiff, Nat.reduceLeDiff, Nat.reduceLT, eq_self, Int.reduceEq, Int.reduceLT, Int.reduceLE, Int.reduceAdd, Int.reduceSub, VC.regC_nil, VC.regC_cons, VC.regCK_eq, VC.callQ, VC.tailQ, VC.goCall, VC.chStep]; (repeat rw [vc_seq]); refine vc_plain _ fun Q hQ => ?_; simp -dsimp only [Fa.F18, rdSA_of x0, rdSN_of x0, rdSC_of x0, x0, rdSA_of x1, rdSN_of x1, rdSC_of x1, x1, rdSA_of x2, rdSN_of x2, rdSC_of x2, x2, rdSA_of x3, rdSN_of x3, rdSC_of x3, x3, rdSA_of y0, rdSN_of y0, rdSC_of y0, y0, rdSA_of y1, rdSN_of y1, rdSC_of y1, y1, rdSA_of y2, rdSN_of y2, rdSC_of y2, y2, rdSA_of y3, rdSN_of y3, rdSC_of y3, y3, VC.Now, VC.vc_skip, VC.vc_ret, VC.vc_exit, VC.vc_block, VC.vc_cond, VC.vc_region, VC.lib, VC.regQ, VC.loopK, VC.reg, VC.opP, VC.pv, VC.thenF, VC.blkF, VC.retF, VC.resV, VC.oneV, VC.evo, VC.bin, VC.binI, VC.cmpI, VC.arithI, VC.ldv, VC.slv, VC.pickP, VC.holds, VC.chainOf, VC.look, VC.junk, VC.put, VC.eff, VC.callee, VC.pureB, VC.rdK, VC.rdKs, VC.okKs, VC.eqKs, VC.fillL, VC.putL, VC.stW, VC.stOK, VC.mixF, VC.setAll, Nat.reduceAdd, Nat.reduceSub, Nat.reduceMul, if_true, if_false, ↓reduceIte, forall_const, implies_true, reduceCtorEq, ne_eq, Nat.reduceBNe, Nat.reduceBEq, IntKind.signed, Nat.reduceEqDiff, Nat.reduceLeDiff, Nat.reduceLT, eq_self, Int.reduceEq, Int.reduceLT, Int.reduceLE, Int.reduceAdd, Int.reduceSub, VC.regC_nil, VC.regC_cons, VC.regCK_eq, VC.callQ, VC.tailQ, VC.goCall, VC.chStep]
  refine CALL_of (codes_any A0 B0 a0 b0 codes codes w2 (hA0.below hB) (hB0.below hB) (by omega) (by omega)) fun w3 hw3 => ?_
  rw [VC.Now, VC.seqK_eq]
  replace bx := bx.below hw3
  replace bY := bY.below hw3
  replace hB := hB.trans (hw3.mono hB.size)
  clear x0 x1 x2 x3 y0 y1 y2 y3 hw3
  have x0 := bx.at (i := 0) rfl
  have x1 := bx.at (i := 1) rfl
  have x2 := bx.at (i := 2) rfl
  have x3 := bx.at (i := 3) rfl
  have y0 := bY.at (i := 0) rfl
  have y1 := bY.at (i := 1) rfl
  have y2 := bY.at (i := 2) rfl
  have y3 := bY.at (i := 3) rfl
  have e0 : decide (codes = codes) = true := decide_eq_true rfl
  simp -dsimp only [Fa.F18, e0, rdSA_of x0, rdSN_of x0, rdSC_of x0, x0, rdSA_of x1, rdSN_of x1, rdSC_of x1, x1, rdSA_of x2, rdSN_of x2, rdSC_of x2, x2, rdSA_of x3, rdSN_of x3, rdSC_of x3, x3, rdSA_of y0, rdSN_of y0, rdSC_of y0, y0, rdSA_of y1, rdSN_of y1, rdSC_of y1, y1, rdSA_of y2, rdSN_of y2, rdSC_of y2, y2, rdSA_of y3, rdSN_of y3, rdSC_of y3, y3, VC.Now, VC.vc_skip, VC.vc_ret, VC.vc_exit, VC.vc_block, VC.vc_cond, VC.vc_region, VC.lib, VC.regQ, VC.loopK, VC.reg, VC.opP, VC.pv, VC.thenF, VC.blkF, VC.retF, VC.resV, VC.oneV, VC.evo, VC.bin, VC.binI, VC.cmpI, VC.arithI, VC.ldv, VC.slv, VC.pickP, VC.holds, VC.chainOf, VC.look, VC.junk, VC.put, VC.eff, VC.callee, VC.pureB, VC.rdK, VC.rdKs, VC.okKs, VC.eqKs, VC.fillL, VC.putL, VC.stW, VC.stOK, VC.mixF, VC.setAll, Nat.reduceAdd, Nat.reduceSub, Nat.reduceMul, if_true, if_false, ↓reduceIte, forall_const, implies_true, reduceCtorEq, ne_eq, Nat.reduceBNe, Nat.reduceBEq, IntKind.signed, Nat.reduceEqDiff, Nat.reduceLeDiff, Nat.reduceLT, eq_self, Int.reduceEq, Int.reduceLT, Int.reduceLE, Int.reduceAdd, Int.reduceSub, VC.regC_nil, VC.regC_cons, VC.regCK_eq, VC.callQ, VC.tailQ, VC.goCall, VC.chStep]
  refine CALL_of (bools_any A2 B2 a2 b2 cl cl w3 (hA2.below hB) (hB2.below hB) (by omega) (by omega)) fun w4 hw4 => ?_
  rw [VC.Now, VC.seqK_eq]
  replace bx := bx.below hw4
  replace bY := bY.below hw4
  replace hB := hB.trans (hw4.mono hB.size)
  clear x0 x1 x2 x3 y0 y1 y2 y3 hw4
  have x0 := bx.at (i := 0) rfl
  have x1 := bx.at (i := 1) rfl
  have x2 := bx.at (i := 2) rfl
  have x3 := bx.at (i := 3) rfl
  have y0 := bY.at (i := 0) rfl
  have y1 := bY.at (i := 1) rfl
  have y2 := bY.at (i := 2) rfl
  have y3 := bY.at (i := 3) rfl
  have e2 : decide (cl = cl) = true := decide_eq_true rfl
  simp -dsimp only [Fa.F18, e0, e2, rdSA_of x0, rdSN_of x0, rdSC_of x0, x0, rdSA_of x1, rdSN_of x1, rdSC_of x1, x1, rdSA_of x2, rdSN_of x2, rdSC_of x2, x2, rdSA_of x3, rdSN_of x3, rdSC_of x3, x3, rdSA_of y0, rdSN_of y0, rdSC_of y0, y0, rdSA_of y1, rdSN_of y1, rdSC_of y1, y1, rdSA_of y2, rdSN_of y2, rdSC_of y2, y2, rdSA_of y3, rdSN_of y3, rdSC_of y3, y3, VC.Now, VC.vc_skip, VC.vc_ret, VC.vc_exit, VC.vc_block, VC.vc_cond, VC.vc_region, VC.lib, VC.regQ, VC.loopK, VC.reg, VC.opP, VC.pv, VC.thenF, VC.blkF, VC.retF, VC.resV, VC.oneV, VC.evo, VC.bin, VC.binI, VC.cmpI, VC.arithI, VC.ldv, VC.slv, VC.pickP, VC.holds, VC.chainOf, VC.look, VC.junk, VC.put, VC.eff, VC.callee, VC.pureB, VC.rdK, VC.rdKs, VC.okKs, VC.eqKs, VC.fillL, VC.putL, VC.stW, VC.stOK, VC.mixF, VC.setAll, Nat.reduceAdd, Nat.reduceSub, Nat.reduceMul, if_true, if_false, ↓reduceIte, forall_const, implies_true, reduceCtorEq, ne_eq, Nat.reduceBNe, Nat.reduceBEq, IntKind.signed, Nat.reduceEqDiff, Nat.reduceLeDiff, Nat.reduceLT, eq_self, Int.reduceEq, Int.reduceLT, Int.reduceLE, Int.reduceAdd, Int.reduceSub, VC.regC_nil, VC.regC_cons, VC.regCK_eq, VC.callQ, VC.tailQ, VC.goCall, VC.chStep]
  refine CALL_of (bools_any A3 B3 a3 b3 dl dl w4 (hA3.below hB) (hB3.below hB) (by omega) (by omega)) fun w5 hw5 => ?_
  rw [VC.Now, VC.seqK_eq]
  replace bx := bx.below hw5
  replace bY := bY.below hw5
  replace hB := hB.trans (hw5.mono hB.size)
  clear x0 x1 x2 x3 y0 y1 y2 y3 hw5
  have x0 := bx.at (i := 0) rfl
  have x1 := bx.at (i := 1) rfl
  have x2 := bx.at (i := 2) rfl
  have x3 := bx.at (i := 3) rfl
  have y0 := bY.at (i := 0) rfl
  have y1 := bY.at (i := 1) rfl
  have y2 := bY.at (i := 2) rfl
  have y3 := bY.at (i := 3) rfl
  have e3 : decide (dl = dl) = true := decide_eq_true rfl
  have e7' : ((nb : Int) = nb) = True := eq_true rfl
  simp -dsimp only [Fa.F18, e0, e2, e3, rdSA_of x0, rdSN_of x0, rdSC_of x0, x0, rdSA_of x1, rdSN_of x1, rdSC_of x1, x1, rdSA_of x2, rdSN_of x2, rdSC_of x2, x2, rdSA_of x3, rdSN_of x3, rdSC_of x3, x3, rdSA_of y0, rdSN_of y0, rdSC_of y0, y0, rdSA_of y1, rdSN_of y1, rdSC_of y1, y1, rdSA_of y2, rdSN_of y2, rdSC_of y2, y2, rdSA_of y3, rdSN_of y3, rdSC_of y3, y3, VC.Now, VC.vc_skip, VC.vc_ret, VC.vc_exit, VC.vc_block, VC.vc_cond, VC.vc_region, VC.lib, VC.regQ, VC.loopK, VC.reg, VC.opP, VC.pv, VC.thenF, VC.blkF, VC.retF, VC.resV, VC.oneV, VC.evo, VC.bin, VC.binI, VC.cmpI, VC.arithI, VC.ldv, VC.slv, VC.pickP, VC.holds, VC.chainOf, VC.look, VC.junk, VC.put, VC.eff, VC.callee, VC.pureB, VC.rdK, VC.rdKs, VC.okKs, VC.eqKs, VC.fillL, VC.putL, VC.stW, VC.stOK, VC.mixF, VC.setAll, Nat.reduceAdd, Nat.reduceSub, Nat.reduceMul, if_true, if_false, ↓reduceIte, forall_const, implies_true, reduceCtorEq, ne_eq, Nat.reduceBNe, Nat.reduceBEq, IntKind.signed, Nat.reduceEqDiff, Nat.reduceLeDiff, Nat.reduceLT, eq_self, Int.reduceEq, Int.reduceLT, Int.reduceLE, Int.reduceAdd, Int.reduceSub, VC.regC_nil, VC.regC_cons, VC.regCK_eq, VC.callQ, VC.tailQ, VC.goCall, VC.chStep]
  subst hQ
  simp -dsimp only [Fa.F18, e7', VC.Now, VC.vc, VC.lib, VC.regQ, VC.loopK, VC.reg, VC.opP, VC.pv, VC.thenF, VC.blkF, VC.retF, VC.resV, VC.oneV, VC.evo, VC.bin, VC.binI, VC.cmpI, VC.arithI, VC.ldv, VC.slv, VC.pickP, VC.holds, VC.chainOf, VC.look, VC.junk, VC.put, VC.eff, VC.callee, VC.pureB, VC.rdK, VC.rdKs, VC.okKs, VC.eqKs, VC.fillL, VC.putL, VC.stW, VC.stOK, VC.mixF, VC.setAll, Nat.reduceAdd, Nat.reduceSub, Nat.reduceMul, if_true, if_false, ↓reduceIte, forall_const, implies_true, reduceCtorEq, ne_eq, Nat.reduceBNe, Nat.reduceBEq, IntKind.signed, Nat.reduceEqDiff, Nat.reduceLeDiff, Nat.reduceLT, eq_self, Int.reduceEq, Int.reduceLT, Int.reduceLE, Int.reduceAdd, Int.reduceSub, VC.regC_nil, VC.regC_cons, VC.regCK_eq, VC.callQ, VC.tailQ, VC.goCall, VC.chStep]
  refine loop_slots Fa.mix [5] [4, 37, 38, 39, 40, 41, 42, 43, 44, 45, 46, 47, 48, 49, 50, 51, 52, 53, 54] (fun m vs wr => ∃ k : Nat, k + m = nb ∧ vs = [.int .i64 k] ∧ Below w.heap.size w wr ∧ Box wr w.heap.size [.slice A0 codes.length a0, .slice A1 nb a1, .slice A2 cl.length a2, .slice A3 dl.length a3] ∧ Box wr (w.heap.size + 1) [.slice B0 codes.length b0, .slice B1 nb b1, .slice B2 cl.length b2, .slice B3 dl.length b3]) nb (by kernel_rfl) rfl
    ⟨0, by omega, rfl, hB, bx, bY⟩ ?_
  clear x0 x1 x2 x3 y0 y1 y2 y3 bx bY hB bl
  rintro m vs u wr ⟨k, hkm, rfl, hB, bx, bY⟩
  have x0 := bx.at (i := 0) rfl
  have x1 := bx.at (i := 1) rfl
  have x2 := bx.at (i := 2) rfl
  have x3 := bx.at (i := 3) rfl
  have y0 := bY.at (i := 0) rfl
  have y1 := bY.at (i := 1) rfl
  have y2 := bY.at (i := 2) rfl
  have y3 := bY.at (i := 3) rfl
  by_cases hk : k < nb
  · have e7 : ((k : Int) < nb) = True := eq_true (by omega)
    obtain ⟨b, o, rfl, hb, hc⟩ := (hA1.below hB) (by omega)
    obtain ⟨b', o', rfl, hb', hc'⟩ := (hB1.below hB) (by omega)
    obtain ⟨p0, p1, _⟩ := hc k hk
    obtain ⟨q0, q1, _⟩ := hc' k hk
    simp -dsimp only [Fa.F18, e7, rdSA_of x0, rdSN_of x0, rdSC_of x0, x0, rdSA_of x1, rdSN_of x1, rdSC_of x1, x1, rdSA_of x2, rdSN_of x2, rdSC_of x2, x2, rdSA_of x3, rdSN_of x3, rdSC_of x3, x3, rdSA_of y0, rdSN_of y0, rdSC_of y0, y0, rdSA_of y1, rdSN_of y1, rdSC_of y1, y1, rdSA_of y2, rdSN_of y2, rdSC_of y2, y2, rdSA_of y3, rdSN_of y3, rdSC_of y3, y3, rdI_of p0, p0, rdI_of p1, p1, rdI_of q0, q0, rdI_of q1, q1, Int.toNat_natCast, VC.Now, VC.vc, VC.lib, VC.regQ, VC.loopK, VC.reg, VC.opP, VC.pv, VC.thenF, VC.blkF, VC.retF, VC.resV, VC.oneV, VC.evo, VC.bin, VC.binI, VC.cmpI, VC.arithI, VC.ldv, VC.slv, VC.pickP, VC.holds, VC.chainOf, VC.look, VC.junk, VC.put, VC.eff, VC.callee, VC.pureB, VC.rdK, VC.rdKs, VC.okKs, VC.eqKs, VC.fillL, VC.putL, VC.stW, VC.stOK, VC.mixF, VC.setAll, Nat.reduceAdd, Nat.reduceSub, Nat.reduceMul, if_true, if_false, ↓reduceIte, forall_const, implies_true, reduceCtorEq, ne_eq, Nat.reduceBNe, Nat.reduceBEq, IntKind.signed, Nat.reduceEqDiff, Nat.reduceLeDiff, Nat.reduceLT, eq_self, Int.reduceEq, Int.reduceLT, Int.reduceLE, Int.reduceAdd, Int.reduceSub, VC.regC_nil, VC.regC_cons, VC.regCK_eq, VC.callQ, VC.tailQ, VC.goCall, VC.chStep]
    refine ⟨by omega, by omega, fun u1 => ⟨fits_i64_nat (by omega), SAME.intro (by kernel_rfl), m - 1, by omega, k + 1, by omega, rfl, below_drewN hB u1, bx.below (below_drewN (Below.refl _ _) u1), bY.below (below_drewN (Below.refl _ _) u1)⟩⟩
  · obtain rfl : k = nb := by omega
    have e7 : ((k : Int) < k) = False := eq_false (by omega)
    simp -dsimp only [Fa.F18, e7, rdSA_of x0, rdSN_of x0, rdSC_of x0, x0, rdSA_of x1, rdSN_of x1, rdSC_of x1, x1, rdSA_of x2, rdSN_of x2, rdSC_of x2, x2, rdSA_of x3, rdSN_of x3, rdSC_of x3, x3, rdSA_of y0, rdSN_of y0, rdSC_of y0, y0, rdSA_of y1, rdSN_of y1, rdSC_of y1, y1, rdSA_of y2, rdSN_of y2, rdSC_of y2, y2, rdSA_of y3, rdSN_of y3, rdSC_of y3, y3, VC.Now, VC.vc, VC.lib, VC.regQ, VC.loopK, VC.reg, VC.opP, VC.pv, VC.thenF, VC.blkF, VC.retF, VC.resV, VC.oneV, VC.evo, VC.bin, VC.binI, VC.cmpI, VC.arithI, VC.ldv, VC.slv, VC.pickP, VC.holds, VC.chainOf, VC.look, VC.junk, VC.put, VC.eff, VC.callee, VC.pureB, VC.rdK, VC.rdKs, VC.okKs, VC.eqKs, VC.fillL, VC.putL, VC.stW, VC.stOK, VC.mixF, VC.setAll, Nat.reduceAdd, Nat.reduceSub, Nat.reduceMul, if_true, if_false, ↓reduceIte, forall_const, implies_true, reduceCtorEq, ne_eq, Nat.reduceBNe, Nat.reduceBEq, IntKind.signed, Nat.reduceEqDiff, Nat.reduceLeDiff, Nat.reduceLT, eq_self, Int.reduceEq, Int.reduceLT, Int.reduceLE, Int.reduceAdd, Int.reduceSub, VC.regC_nil, VC.regC_cons, VC.regCK_eq, VC.callQ, VC.tailQ, VC.goCall, VC.chStep]
    exact hB
end Go.Proofs.Ytnggjekppdlaoaa
