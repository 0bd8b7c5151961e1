/- A choice: are two answers the same? What the document says of the arguments. -/
import Derived.Test.YtelfmhiaafkimaaPax6
import Derived.Test.YtelfmhiaafkimaaPaxD10
import Derived.Test.YtelfmhiaafkimaaRefSameC
namespace Go.Proofs.Ytelfmhiaafkimaa
open Go Go.RowKit Go.VC
set_option linter.unusedSimpArgs false
set_option linter.unusedVariables false

set_option maxRecDepth 8000 in
set_option maxHeartbeats 1000000 in
theorem ballots_any {A A' : Option Addr} {c c' : Nat} {l : List Bal} {w : World} (hx : RdT w A l.length 2 (fun i => bL (l.getD i bal0))) (hy : RdT w A' l.length 2 (fun i => bL (l.getD i bal0))) (hl : l.length ≤ 1000) :
    Calls Try.prog 51 #[.slice A l.length c, .slice A' l.length c'] w fun e w' => e = .returned (.bool true) ∧ Below w.heap.size w w' := by
  have e0 : ((l.length : Int) = l.length) = True := eq_true rfl
  refine calls_vc (rs := [.tmp 4]) Fa.mix Try.func51 rfl Try.ntmps51 rfl (by kernel_rfl) (Nat.le_of_ble_eq_true rfl) ?_
  simp -dsimp only [Fa.F51, e0, VC.Now, VC.vc, VC.lib, VC.mapN_drewN, VC.mapB_drewN, VC.regQ, VC.loopK, VC.reg, VC.opP, VC.pv, VC.thenF, VC.blkF, VC.retF, VC.resV, VC.oneV, VC.evo, VC.bin, VC.binI, VC.cmpI, VC.arithI, VC.ldv, VC.slv, VC.pickP, VC.holds, VC.chainOf, VC.look, VC.junk, VC.put, VC.eff, VC.callee, VC.pureB, VC.rdK, VC.rdKs, VC.okKs, VC.eqKs, VC.fillL, VC.putL, VC.stW, VC.stOK, VC.mixF, VC.setAll, Nat.reduceAdd, Nat.reduceSub, Nat.reduceMul, if_true, if_false, ↓reduceIte, forall_const, implies_true, reduceCtorEq, ne_eq, Nat.reduceBNe, Nat.reduceBEq, IntKind.signed, Nat.reduceEqDiff, Nat.reduceLeDiff, Nat.reduceLT, eq_self, Int.reduceEq, Int.reduceLT, Int.reduceLE, Int.reduceAdd, Int.reduceSub, VC.regC_nil, VC.regC_cons, VC.regCK_eq, VC.callQ, VC.tailQ, VC.goCall, VC.chStep]
  refine loop_slots Fa.mix [5] [4, 11, 12, 13, 14, 15, 16, 17, 18, 19, 20, 21, 22, 23, 24, 25] (fun m vs wr => ∃ k : Nat, k + m = l.length ∧ vs = [.int .i64 k] ∧ Below w.heap.size w wr) l.length (by kernel_rfl) rfl
    ⟨0, by omega, rfl, Below.refl _ _⟩ ?_
  rintro m vs u wr ⟨k, hkm, rfl, hB⟩
  by_cases hk : k < l.length
  · have e7 : ((k : Int) < l.length) = True := eq_true (by omega)
    obtain ⟨b, o, rfl, hb, hc⟩ := (hx.below hB) (by omega)
    obtain ⟨b', o', rfl, hb', hc'⟩ := (hy.below hB) (by omega)
    have p0 := hc k hk 0 _ rfl
    have p1 := hc k hk 1 _ rfl
    have q0 := hc' k hk 0 _ rfl
    have q1 := hc' k hk 1 _ rfl
    simp only [Nat.add_zero] at p0 q0
    generalize l.getD k bal0 = y at *
    simp -dsimp only [Fa.F51, e7, rdI_of p0, p0, rdI_of p1, p1, rdI_of q0, q0, rdI_of q1, q1, hb, hb', Int.toNat_natCast, VC.Now, VC.vc, VC.lib, VC.mapN_drewN, VC.mapB_drewN, VC.regQ, VC.loopK, VC.reg, VC.opP, VC.pv, VC.thenF, VC.blkF, VC.retF, VC.resV, VC.oneV, VC.evo, VC.bin, VC.binI, VC.cmpI, VC.arithI, VC.ldv, VC.slv, VC.pickP, VC.holds, VC.chainOf, VC.look, VC.junk, VC.put, VC.eff, VC.callee, VC.pureB, VC.rdK, VC.rdKs, VC.okKs, VC.eqKs, VC.fillL, VC.putL, VC.stW, VC.stOK, VC.mixF, VC.setAll, Nat.reduceAdd, Nat.reduceSub, Nat.reduceMul, if_true, if_false, ↓reduceIte, forall_const, implies_true, reduceCtorEq, ne_eq, Nat.reduceBNe, Nat.reduceBEq, IntKind.signed, Nat.reduceEqDiff, Nat.reduceLeDiff, Nat.reduceLT, eq_self, Int.reduceEq, Int.reduceLT, Int.reduceLE, Int.reduceAdd, Int.reduceSub, VC.regC_nil, VC.regC_cons, VC.regCK_eq, VC.callQ, VC.tailQ, VC.goCall, VC.chStep]
    exact ⟨by omega, by omega, fun u1 => ⟨fits_i64_nat (by omega), SAME.intro (by kernel_rfl), m - 1, by omega, k + 1, by omega, rfl, below_drewN hB u1⟩⟩
  · obtain rfl : k = l.length := by omega
    have e7 : ((l.length : Int) < l.length) = False := eq_false (by omega)
    simp -dsimp only [Fa.F51, e7, VC.Now, VC.vc, VC.lib, VC.mapN_drewN, VC.mapB_drewN, VC.regQ, VC.loopK, VC.reg, VC.opP, VC.pv, VC.thenF, VC.blkF, VC.retF, VC.resV, VC.oneV, VC.evo, VC.bin, VC.binI, VC.cmpI, VC.arithI, VC.ldv, VC.slv, VC.pickP, VC.holds, VC.chainOf, VC.look, VC.junk, VC.put, VC.eff, VC.callee, VC.pureB, VC.rdK, VC.rdKs, VC.okKs, VC.eqKs, VC.fillL, VC.putL, VC.stW, VC.stOK, VC.mixF, VC.setAll, Nat.reduceAdd, Nat.reduceSub, Nat.reduceMul, if_true, if_false, ↓reduceIte, forall_const, implies_true, reduceCtorEq, ne_eq, Nat.reduceBNe, Nat.reduceBEq, IntKind.signed, Nat.reduceEqDiff, Nat.reduceLeDiff, Nat.reduceLT, eq_self, Int.reduceEq, Int.reduceLT, Int.reduceLE, Int.reduceAdd, Int.reduceSub, VC.regC_nil, VC.regC_cons, VC.regCK_eq, VC.callQ, VC.tailQ, VC.goCall, VC.chStep]
    exact hB
theorem one4 {A0 A1 A2 A3 : Option Addr} {n0 n1 n2 n3 c0 c1 c2 c3 : Nat} : ∀ v ∈ [Value.slice A0 n0 c0, .slice A1 n1 c1, .slice A2 n2 c2, .slice A3 n3 c3], v.oneCell' = true := by
  intro v hv; simp at hv; rcases hv with rfl | rfl | rfl | rfl <;> rfl
theorem PaxQ.nil (w : World) : PaxQ 0 0 [] (fun _ => ⟨0, bal0⟩) [] [] (.agg #[nilS, nilS, nilS, nilS]) w :=
  ⟨none, 0, none, 0, none, 0, none, 0, rfl, rfl, fun h => absurd h (by simp), RdT.nil _ _ _ _, RdT.nil _ _ _ _, RdT.nil _ _ _ _⟩

set_option maxRecDepth 8000 in
set_option maxHeartbeats 4000000 in
theorem trieds_any {n k : Nat} {codes : List Int} {vt : Nat → Vtr} {fx ch : List Bal} {x y : Value} (w : World) (hx : PaxQ n k codes vt fx ch x w) (hy : PaxQ n k codes vt fx ch y w) (hk : k ≤ 1000) (hn : n ≤ 1000) (hf : fx.length ≤ 1000) (hc : ch.length ≤ 1000) :
    Calls Try.prog 19 #[x, y] w fun e w' => e = .returned (.bool true) ∧ Below w.heap.size w w' := by
  obtain ⟨A0, a0, A1, a1, A2, a2, A3, a3, rfl, hcl, hA0, hA1, hA2, hA3⟩ := hx
  obtain ⟨B0, b0, B1, b1, B2, b2, B3, b3, rfl, _, hB0, hB1, hB2, hB3⟩ := hy
  subst hcl
  have bx := Box.new w [.slice A0 codes.length a0, .slice A1 n a1, .slice A2 fx.length a2, .slice A3 ch.length a3] 37
  have hBx : Below w.heap.size w (w.alloc (.cells #[.slice A0 codes.length a0, .slice A1 n a1, .slice A2 fx.length a2, .slice A3 ch.length a3] 37)) := (Below.refl _ _).alloc (Nat.le_refl _) _
  have hzx : (w.alloc (.cells #[.slice A0 codes.length a0, .slice A1 n a1, .slice A2 fx.length a2, .slice A3 ch.length a3] 37)).heap.size = w.heap.size + 1 := by simp
  refine calls_vc (rs := [.tmp 4]) Fa.mix Try.func19 rfl Try.ntmps19 rfl (by kernel_rfl) (Nat.le_of_ble_eq_true rfl) ?_
  (repeat rw [vc_seq]); refine vc_plain _ fun Q hQ => ?_; simp -dsimp only [Fa.F19, VC.Now, VC.vc_skip, VC.vc_ret, VC.vc_exit, VC.vc_block, VC.vc_cond, VC.vc_region, VC.lib, VC.mapN_drewN, VC.mapB_drewN, VC.regQ, VC.loopK, VC.reg, VC.opP, VC.pv, VC.thenF, VC.blkF, VC.retF, VC.resV, VC.oneV, VC.evo, VC.bin, VC.binI, VC.cmpI, VC.arithI, VC.ldv, VC.slv, VC.pickP, VC.holds, VC.chainOf, VC.look, VC.junk, VC.put, VC.eff, VC.callee, VC.pureB, VC.rdK, VC.rdKs, VC.okKs, VC.eqKs, VC.fillL, VC.putL, VC.stW, VC.stOK, VC.mixF, VC.setAll, Nat.reduceAdd, Nat.reduceSub, Nat.reduceMul, if_true, if_false, ↓reduceIte, forall_const, implies_true, reduceCtorEq, ne_eq, Nat.reduceBNe, Nat.reduceBEq, IntKind.signed, Nat.reduceEqDiff, Nat.reduceLeDiff, Nat.reduceLT, eq_self, Int.reduceEq, Int.reduceLT, Int.reduceLE, Int.reduceAdd, Int.reduceSub, VC.regC_nil, VC.regC_cons, VC.regCK_eq, VC.callQ, VC.tailQ, VC.goCall, VC.chStep]
  change Box (w.alloc (.cells #[.slice A0 codes.length a0, .slice A1 n a1, .slice A2 fx.length a2, .slice A3 ch.length a3] 37)) _ _ at bx
  change Q _ _ ((w.alloc (.cells #[.slice A0 codes.length a0, .slice A1 n a1, .slice A2 fx.length a2, .slice A3 ch.length a3] 37)).alloc _)
  generalize w.alloc (.cells #[.slice A0 codes.length a0, .slice A1 n a1, .slice A2 fx.length a2, .slice A3 ch.length a3] 37) = w1 at bx hBx hzx ⊢
  have bY := Box.new w1 [.slice B0 codes.length b0, .slice B1 n b1, .slice B2 fx.length b2, .slice B3 ch.length b3] 37
  have hBy : Below w1.heap.size w1 (w1.alloc (.cells #[.slice B0 codes.length b0, .slice B1 n b1, .slice B2 fx.length b2, .slice B3 ch.length b3] 37)) := (Below.refl _ _).alloc (Nat.le_refl _) _
  change Box (w1.alloc (.cells #[.slice B0 codes.length b0, .slice B1 n b1, .slice B2 fx.length b2, .slice B3 ch.length b3] 37)) _ _ at bY
  replace bx := bx.below hBy
  have hB := hBx.trans (hBy.mono (by omega))
  rw [hzx] at bY
  generalize w1.alloc (.cells #[.slice B0 codes.length b0, .slice B1 n b1, .slice B2 fx.length b2, .slice B3 ch.length b3] 37) = w2 at bx bY hB ⊢
  clear hBy hBx hzx
  have x0 := bx.at (i := 0) rfl
  have x1 := bx.at (i := 1) rfl
  have x2 := bx.at (i := 2) rfl
  have x3 := bx.at (i := 3) rfl
  have y0 := bY.at (i := 0) rfl
  have y1 := bY.at (i := 1) rfl
  have y2 := bY.at (i := 2) rfl
  have y3 := bY.at (i := 3) rfl
  subst hQ; simp -dsimp only [VC.Now, VC.vc_skip, VC.vc_ret, VC.vc_exit, VC.vc_block, VC.vc_cond, VC.vc_region, VC.lib, VC.mapN_drewN, VC.mapB_drewN, VC.regQ, VC.loopK, VC.reg, VC.opP, VC.pv, VC.thenF, VC.blkF, VC.retF, VC.resV, VC.oneV, VC.evo, VC.bin, VC.binI, VC.cmpI, VC.arithI, VC.ldv, VC.slv, VC.pickP, VC.holds, VC.chainOf, VC.look, VC.junk, VC.put, VC.eff, VC.callee, VC.pureB, VC.rdK, VC.rdKs, VC.okKs, VC.eqKs, VC.fillL, VC.putL, VC.stW, VC.stOK, VC.mixF, VC.setAll, Nat.reduceAdd, Nat.reduceSub, Nat.reduceMul, if_true, if_false, ↓reduceIte, forall_const, implies_true, reduceCtorEq, ne_eq, Nat.reduceBNe, Nat.reduceBEq, IntKind.signed, Nat.reduceEqDiff, Nat.reduceLeDiff, Nat.reduceLT, eq_self, Int.reduceEq, Int.reduceLT, Int.reduceLE, Int.reduceAdd, Int.reduceSub, VC.regC_nil, VC.regC_cons, VC.regCK_eq, VC.callQ, VC.tailQ, VC.goCall, VC.chStep]; (repeat rw [vc_seq]); refine vc_plain _ fun Q hQ => ?_; simp -dsimp only [Fa.F19, rdSA_of x0, rdSN_of x0, rdSC_of x0, x0, rdSA_of y0, rdSN_of y0, rdSC_of y0, y0, VC.Now, VC.vc_skip, VC.vc_ret, VC.vc_exit, VC.vc_block, VC.vc_cond, VC.vc_region, VC.lib, VC.mapN_drewN, VC.mapB_drewN, VC.regQ, VC.loopK, VC.reg, VC.opP, VC.pv, VC.thenF, VC.blkF, VC.retF, VC.resV, VC.oneV, VC.evo, VC.bin, VC.binI, VC.cmpI, VC.arithI, VC.ldv, VC.slv, VC.pickP, VC.holds, VC.chainOf, VC.look, VC.junk, VC.put, VC.eff, VC.callee, VC.pureB, VC.rdK, VC.rdKs, VC.okKs, VC.eqKs, VC.fillL, VC.putL, VC.stW, VC.stOK, VC.mixF, VC.setAll, Nat.reduceAdd, Nat.reduceSub, Nat.reduceMul, if_true, if_false, ↓reduceIte, forall_const, implies_true, reduceCtorEq, ne_eq, Nat.reduceBNe, Nat.reduceBEq, IntKind.signed, Nat.reduceEqDiff, Nat.reduceLeDiff, Nat.reduceLT, eq_self, Int.reduceEq, Int.reduceLT, Int.reduceLE, Int.reduceAdd, Int.reduceSub, VC.regC_nil, VC.regC_cons, VC.regCK_eq, VC.callQ, VC.tailQ, VC.goCall, VC.chStep]
  refine CALL_of (codes_any A0 B0 a0 b0 codes codes w2 (hA0.below hB) (hB0.below hB) (by omega) (by omega)) fun w3 hw3 => ?_
  rw [VC.Now, VC.seqK_eq]
  replace bx := bx.below hw3
  replace bY := bY.below hw3
  replace hB := hB.trans (hw3.mono hB.size)
  clear x0 x1 x2 x3 y0 y1 y2 y3 hw3
  have x0 := bx.at (i := 0) rfl
  have x1 := bx.at (i := 1) rfl
  have x2 := bx.at (i := 2) rfl
  have x3 := bx.at (i := 3) rfl
  have y0 := bY.at (i := 0) rfl
  have y1 := bY.at (i := 1) rfl
  have y2 := bY.at (i := 2) rfl
  have y3 := bY.at (i := 3) rfl
  have e0 : decide (codes = codes) = true := decide_eq_true rfl
  have e7' : ((n : Int) = n) = True := eq_true rfl
  simp -dsimp only [Fa.F19, e0, e7', rdSA_of x1, rdSN_of x1, rdSC_of x1, x1, rdSA_of y1, rdSN_of y1, rdSC_of y1, y1, rdSA_of x2, rdSN_of x2, rdSC_of x2, x2, rdSA_of y2, rdSN_of y2, rdSC_of y2, y2, undef, tu, uf, ul, ur, VC.Now, VC.vc_skip, VC.vc_ret, VC.vc_exit, VC.vc_block, VC.vc_cond, VC.vc_region, VC.lib, VC.mapN_drewN, VC.mapB_drewN, VC.regQ, VC.loopK, VC.reg, VC.opP, VC.pv, VC.thenF, VC.blkF, VC.retF, VC.resV, VC.oneV, VC.evo, VC.bin, VC.binI, VC.cmpI, VC.arithI, VC.ldv, VC.slv, VC.pickP, VC.holds, VC.chainOf, VC.look, VC.junk, VC.put, VC.eff, VC.callee, VC.pureB, VC.rdK, VC.rdKs, VC.okKs, VC.eqKs, VC.fillL, VC.putL, VC.stW, VC.stOK, VC.mixF, VC.setAll, Nat.reduceAdd, Nat.reduceSub, Nat.reduceMul, if_true, if_false, ↓reduceIte, forall_const, implies_true, reduceCtorEq, ne_eq, Nat.reduceBNe, Nat.reduceBEq, IntKind.signed, Nat.reduceEqDiff, Nat.reduceLeDiff, Nat.reduceLT, eq_self, Int.reduceEq, Int.reduceLT, Int.reduceLE, Int.reduceAdd, Int.reduceSub, VC.regC_nil, VC.regC_cons, VC.regCK_eq, VC.callQ, VC.tailQ, VC.goCall, VC.chStep]
  refine CALL_of (ballots_any (hA2.below hB) (hB2.below hB) hf) fun w4 hw3 => ?_
  rw [VC.Now, VC.seqK_eq]
  replace bx := bx.below hw3
  replace bY := bY.below hw3
  replace hB := hB.trans (hw3.mono hB.size)
  clear x0 x1 x2 x3 y0 y1 y2 y3 hw3
  have x0 := bx.at (i := 0) rfl
  have x1 := bx.at (i := 1) rfl
  have x2 := bx.at (i := 2) rfl
  have x3 := bx.at (i := 3) rfl
  have y0 := bY.at (i := 0) rfl
  have y1 := bY.at (i := 1) rfl
  have y2 := bY.at (i := 2) rfl
  have y3 := bY.at (i := 3) rfl
  simp -dsimp only [Fa.F19, e0, e7', rdSA_of x3, rdSN_of x3, rdSC_of x3, x3, rdSA_of y3, rdSN_of y3, rdSC_of y3, y3, undef, tu, uf, ul, ur, VC.Now, VC.vc_skip, VC.vc_ret, VC.vc_exit, VC.vc_block, VC.vc_cond, VC.vc_region, VC.lib, VC.mapN_drewN, VC.mapB_drewN, VC.regQ, VC.loopK, VC.reg, VC.opP, VC.pv, VC.thenF, VC.blkF, VC.retF, VC.resV, VC.oneV, VC.evo, VC.bin, VC.binI, VC.cmpI, VC.arithI, VC.ldv, VC.slv, VC.pickP, VC.holds, VC.chainOf, VC.look, VC.junk, VC.put, VC.eff, VC.callee, VC.pureB, VC.rdK, VC.rdKs, VC.okKs, VC.eqKs, VC.fillL, VC.putL, VC.stW, VC.stOK, VC.mixF, VC.setAll, Nat.reduceAdd, Nat.reduceSub, Nat.reduceMul, if_true, if_false, ↓reduceIte, forall_const, implies_true, reduceCtorEq, ne_eq, Nat.reduceBNe, Nat.reduceBEq, IntKind.signed, Nat.reduceEqDiff, Nat.reduceLeDiff, Nat.reduceLT, eq_self, Int.reduceEq, Int.reduceLT, Int.reduceLE, Int.reduceAdd, Int.reduceSub, VC.regC_nil, VC.regC_cons, VC.regCK_eq, VC.callQ, VC.tailQ, VC.goCall, VC.chStep]
  refine CALL_of (ballots_any (hA3.below hB) (hB3.below hB) hc) fun w5 hw3 => ?_
  rw [VC.Now, VC.seqK_eq]
  replace bx := bx.below hw3
  replace bY := bY.below hw3
  replace hB := hB.trans (hw3.mono hB.size)
  clear x0 x1 x2 x3 y0 y1 y2 y3 hw3
  have x0 := bx.at (i := 0) rfl
  have x1 := bx.at (i := 1) rfl
  have x2 := bx.at (i := 2) rfl
  have x3 := bx.at (i := 3) rfl
  have y0 := bY.at (i := 0) rfl
  have y1 := bY.at (i := 1) rfl
  have y2 := bY.at (i := 2) rfl
  have y3 := bY.at (i := 3) rfl
  simp -dsimp only [Fa.F19, e0, e7', rdSA_of x3, rdSN_of x3, rdSC_of x3, x3, rdSA_of y3, rdSN_of y3, rdSC_of y3, y3, undef, tu, uf, ul, ur, VC.Now, VC.vc_skip, VC.vc_ret, VC.vc_exit, VC.vc_block, VC.vc_cond, VC.vc_region, VC.lib, VC.mapN_drewN, VC.mapB_drewN, VC.regQ, VC.loopK, VC.reg, VC.opP, VC.pv, VC.thenF, VC.blkF, VC.retF, VC.resV, VC.oneV, VC.evo, VC.bin, VC.binI, VC.cmpI, VC.arithI, VC.ldv, VC.slv, VC.pickP, VC.holds, VC.chainOf, VC.look, VC.junk, VC.put, VC.eff, VC.callee, VC.pureB, VC.rdK, VC.rdKs, VC.okKs, VC.eqKs, VC.fillL, VC.putL, VC.stW, VC.stOK, VC.mixF, VC.setAll, Nat.reduceAdd, Nat.reduceSub, Nat.reduceMul, if_true, if_false, ↓reduceIte, forall_const, implies_true, reduceCtorEq, ne_eq, Nat.reduceBNe, Nat.reduceBEq, IntKind.signed, Nat.reduceEqDiff, Nat.reduceLeDiff, Nat.reduceLT, eq_self, Int.reduceEq, Int.reduceLT, Int.reduceLE, Int.reduceAdd, Int.reduceSub, VC.regC_nil, VC.regC_cons, VC.regCK_eq, VC.callQ, VC.tailQ, VC.goCall, VC.chStep]
  subst hQ
  simp -dsimp only [Fa.F19, e7', VC.Now, VC.vc, VC.lib, VC.mapN_drewN, VC.mapB_drewN, VC.regQ, VC.loopK, VC.reg, VC.opP, VC.pv, VC.thenF, VC.blkF, VC.retF, VC.resV, VC.oneV, VC.evo, VC.bin, VC.binI, VC.cmpI, VC.arithI, VC.ldv, VC.slv, VC.pickP, VC.holds, VC.chainOf, VC.look, VC.junk, VC.put, VC.eff, VC.callee, VC.pureB, VC.rdK, VC.rdKs, VC.okKs, VC.eqKs, VC.fillL, VC.putL, VC.stW, VC.stOK, VC.mixF, VC.setAll, Nat.reduceAdd, Nat.reduceSub, Nat.reduceMul, if_true, if_false, ↓reduceIte, forall_const, implies_true, reduceCtorEq, ne_eq, Nat.reduceBNe, Nat.reduceBEq, IntKind.signed, Nat.reduceEqDiff, Nat.reduceLeDiff, Nat.reduceLT, eq_self, Int.reduceEq, Int.reduceLT, Int.reduceLE, Int.reduceAdd, Int.reduceSub, VC.regC_nil, VC.regC_cons, VC.regCK_eq, VC.callQ, VC.tailQ, VC.goCall, VC.chStep]
  refine loop_slots Fa.mix [5] [4, 37, 38, 39, 40, 41, 42, 43, 44, 45, 46, 47, 48, 49, 50, 51, 52, 53, 54] (fun m vs wr => ∃ k : Nat, k + m = n ∧ vs = [.int .i64 k] ∧ Below w.heap.size w wr ∧ Box wr w.heap.size [.slice A0 codes.length a0, .slice A1 n a1, .slice A2 fx.length a2, .slice A3 ch.length a3] ∧ Box wr (w.heap.size + 1) [.slice B0 codes.length b0, .slice B1 n b1, .slice B2 fx.length b2, .slice B3 ch.length b3]) n (by kernel_rfl) rfl
    ⟨0, by omega, rfl, hB, bx, bY⟩ ?_
  clear x0 x1 x2 x3 y0 y1 y2 y3 bx bY hB
  rintro m vs u wr ⟨k, hkm, rfl, hB, bx, bY⟩
  have x1 := bx.at (i := 1) rfl
  have y1 := bY.at (i := 1) rfl
  by_cases hk : k < n
  · have e7 : ((k : Int) < n) = True := eq_true (by omega)
    obtain ⟨b, o, rfl, hb, hc⟩ := (hA1.below hB) (by omega)
    obtain ⟨b', o', rfl, hb', hc'⟩ := (hB1.below hB) (by omega)
    have p0 := hc k hk 0 _ rfl
    have p1 := hc k hk 1 _ rfl
    have p2 := hc k hk 2 _ rfl
    have q0 := hc' k hk 0 _ rfl
    have q1 := hc' k hk 1 _ rfl
    have q2 := hc' k hk 2 _ rfl
    simp only [Nat.add_zero] at p0 q0
    simp -dsimp only [Fa.F19, e7, rdSA_of x1, rdSN_of x1, rdSC_of x1, x1, rdSA_of y1, rdSN_of y1, rdSC_of y1, y1, rdI_of p0, p0, rdI_of p1, p1, rdI_of p2, p2, rdI_of q0, q0, rdI_of q1, q1, rdI_of q2, q2, Int.toNat_natCast, VC.Now, VC.vc, VC.lib, VC.mapN_drewN, VC.mapB_drewN, VC.regQ, VC.loopK, VC.reg, VC.opP, VC.pv, VC.thenF, VC.blkF, VC.retF, VC.resV, VC.oneV, VC.evo, VC.bin, VC.binI, VC.cmpI, VC.arithI, VC.ldv, VC.slv, VC.pickP, VC.holds, VC.chainOf, VC.look, VC.junk, VC.put, VC.eff, VC.callee, VC.pureB, VC.rdK, VC.rdKs, VC.okKs, VC.eqKs, VC.fillL, VC.putL, VC.stW, VC.stOK, VC.mixF, VC.setAll, Nat.reduceAdd, Nat.reduceSub, Nat.reduceMul, if_true, if_false, ↓reduceIte, forall_const, implies_true, reduceCtorEq, ne_eq, Nat.reduceBNe, Nat.reduceBEq, IntKind.signed, Nat.reduceEqDiff, Nat.reduceLeDiff, Nat.reduceLT, eq_self, Int.reduceEq, Int.reduceLT, Int.reduceLE, Int.reduceAdd, Int.reduceSub, VC.regC_nil, VC.regC_cons, VC.regCK_eq, VC.callQ, VC.tailQ, VC.goCall, VC.chStep]
    refine ⟨by omega, by omega, fun u1 => ⟨fits_i64_nat (by omega), SAME.intro (by kernel_rfl), m - 1, by omega, k + 1, by omega, rfl, below_drewN hB u1, bx.below (below_drewN (Below.refl _ _) u1), bY.below (below_drewN (Below.refl _ _) u1)⟩⟩
  · obtain rfl : k = n := by omega
    have e7 : ((k : Int) < k) = False := eq_false (by omega)
    simp -dsimp only [Fa.F19, e7, rdSA_of x1, rdSN_of x1, rdSC_of x1, x1, VC.Now, VC.vc, VC.lib, VC.mapN_drewN, VC.mapB_drewN, VC.regQ, VC.loopK, VC.reg, VC.opP, VC.pv, VC.thenF, VC.blkF, VC.retF, VC.resV, VC.oneV, VC.evo, VC.bin, VC.binI, VC.cmpI, VC.arithI, VC.ldv, VC.slv, VC.pickP, VC.holds, VC.chainOf, VC.look, VC.junk, VC.put, VC.eff, VC.callee, VC.pureB, VC.rdK, VC.rdKs, VC.okKs, VC.eqKs, VC.fillL, VC.putL, VC.stW, VC.stOK, VC.mixF, VC.setAll, Nat.reduceAdd, Nat.reduceSub, Nat.reduceMul, if_true, if_false, ↓reduceIte, forall_const, implies_true, reduceCtorEq, ne_eq, Nat.reduceBNe, Nat.reduceBEq, IntKind.signed, Nat.reduceEqDiff, Nat.reduceLeDiff, Nat.reduceLT, eq_self, Int.reduceEq, Int.reduceLT, Int.reduceLE, Int.reduceAdd, Int.reduceSub, VC.regC_nil, VC.regC_cons, VC.regCK_eq, VC.callQ, VC.tailQ, VC.goCall, VC.chStep]
    exact hB
end Go.Proofs.Ytelfmhiaafkimaa
