/- One word for all: are two answers the same? What is wrong. -/
import Derived.Test.YtelfmhiaafkimaaBra7
import Derived.Test.YtelfmhiaafkimaaBraD7
import Derived.Test.YtelfmhiaafkimaaRefSameC
import Derived.Test.YtelfmhiaafkimaaRefSameB
import Derived.Test.YtelfmhiaafkimaaRefSameL
import Derived.Test.YtelfmhiaafkimaaRefBits
namespace Go.Proofs.Ytelfmhiaafkimaa
open Go Go.RowKit Go.VC
set_option linter.unusedSimpArgs false
set_option linter.unusedVariables false
theorem oneT {A0 A1 A2 : Option Addr} {n0 n1 n2 c0 c1 c2 : Nat} {d e : Int} : ∀ v ∈ [Value.slice A0 n0 c0, .slice A1 n1 c1, .slice A2 n2 c2, iV d, iV e], v.oneCell' = true := by
  intro v hv; simp at hv; rcases hv with rfl | rfl | rfl | rfl | rfl <;> rfl
theorem zeroT : ∀ v ∈ z5, v.oneCell' = true := oneT
set_option maxRecDepth 8000 in
set_option maxHeartbeats 4000000 in
theorem tolds_all {codes l2 : List Int} {l1 : List Bool} {d q : Int} {A0 A1 A2 B0 B1 B2 : Option Addr} {a0 a1 a2 b0 b1 b2 : Nat} (w : World)
    (hA0 : Rd w A0 (codes.map (Value.int .i64))) (hA1 : Rd w A1 (l1.map Value.bool)) (hA2 : Rd w A2 (l2.map (Value.int .i64)))
    (hB0 : Rd w B0 (codes.map (Value.int .i64))) (hB1 : Rd w B1 (l1.map Value.bool)) (hB2 : Rd w B2 (l2.map (Value.int .i64)))
    (hc : codes.length ≤ 1000) (h1 : l1.length ≤ 1000) (h2 : l2.length ≤ 1000) :
    Calls Try.prog 39 #[.agg #[.slice A0 codes.length a0, .slice A1 l1.length a1, .slice A2 l2.length a2, iV d, iV q], .agg #[.slice B0 codes.length b0, .slice B1 l1.length b1, .slice B2 l2.length b2, iV d, iV q]] w fun e w' => e = .returned (.bool true) ∧ Below w.heap.size w w' := by
  have bx := Box.new w [.slice A0 codes.length a0, .slice A1 l1.length a1, .slice A2 l2.length a2, iV d, iV q] 88
  have hBx : Below w.heap.size w (w.alloc (.cells #[.slice A0 codes.length a0, .slice A1 l1.length a1, .slice A2 l2.length a2, iV d, iV q] 88)) := (Below.refl _ _).alloc (Nat.le_refl _) _
  have hzx : (w.alloc (.cells #[.slice A0 codes.length a0, .slice A1 l1.length a1, .slice A2 l2.length a2, iV d, iV q] 88)).heap.size = w.heap.size + 1 := by simp
  refine calls_vc (rs := [.tmp 4]) Fa.mix Try.func39 rfl Try.ntmps39 rfl (by kernel_rfl) (Nat.le_of_ble_eq_true rfl) ?_
  (repeat rw [vc_seq]); refine vc_plain _ fun Q hQ => ?_; simp -dsimp (maxSteps := 2000000) only [Fa.F39, VC.Now, VC.vc_skip, VC.vc_ret, VC.vc_exit, VC.vc_block, VC.vc_cond, VC.vc_region, VC.lib, VC.mapN_drewN, VC.mapB_drewN, VC.regQ, VC.loopK, VC.reg, VC.opP, VC.opS, VC.opZ, VC.nomulB, VC.pv, VC.thenF, VC.blkF, VC.retF, VC.resV, VC.oneV, VC.evo, VC.bin, VC.binI, VC.cmpI, VC.arithI, VC.ldv, VC.slv, VC.pickP, VC.holds, VC.chainOf, VC.look, VC.junk, VC.put, VC.eff, VC.callee, VC.pureB, VC.rdK, VC.rdKs, VC.okKs, VC.eqKs, VC.fillL, VC.putL, VC.stW, VC.stOK, VC.mixF, VC.setAll, Nat.reduceAdd, Nat.reduceSub, Nat.reduceMul, if_true, if_false, ↓reduceIte, forall_const, implies_true, reduceCtorEq, ne_eq, Nat.reduceBNe, Nat.reduceBEq, IntKind.signed, Nat.reduceEqDiff, Nat.reduceLeDiff, Nat.reduceLT, eq_self, Int.reduceEq, Int.reduceLT, Int.reduceLE, Int.reduceAdd, Int.reduceSub, VC.regC_nil, VC.regC_cons, VC.regCK_eq, VC.callQ, VC.tailQ, VC.goCall, VC.chStep]
  change Box (w.alloc (.cells #[.slice A0 codes.length a0, .slice A1 l1.length a1, .slice A2 l2.length a2, iV d, iV q] 88)) _ _ at bx
  change Q _ _ ((w.alloc (.cells #[.slice A0 codes.length a0, .slice A1 l1.length a1, .slice A2 l2.length a2, iV d, iV q] 88)).alloc _)
  generalize w.alloc (.cells #[.slice A0 codes.length a0, .slice A1 l1.length a1, .slice A2 l2.length a2, iV d, iV q] 88) = w1 at bx hBx hzx ⊢
  have bY := Box.new w1 [.slice B0 codes.length b0, .slice B1 l1.length b1, .slice B2 l2.length b2, iV d, iV q] 88
  have hBy : Below w1.heap.size w1 (w1.alloc (.cells #[.slice B0 codes.length b0, .slice B1 l1.length b1, .slice B2 l2.length b2, iV d, iV q] 88)) := (Below.refl _ _).alloc (Nat.le_refl _) _
  change Box (w1.alloc (.cells #[.slice B0 codes.length b0, .slice B1 l1.length b1, .slice B2 l2.length b2, iV d, iV q] 88)) _ _ at bY
  replace bx := bx.below hBy
  have hB := hBx.trans (hBy.mono (by omega))
  rw [hzx] at bY
  generalize w1.alloc (.cells #[.slice B0 codes.length b0, .slice B1 l1.length b1, .slice B2 l2.length b2, iV d, iV q] 88) = w2 at bx bY hB ⊢
  clear hBy hBx hzx
  have x0 := bx.at (i := 0) rfl
  have x1 := bx.at (i := 1) rfl
  have x2 := bx.at (i := 2) rfl
  have x3 := bx.at (i := 3) rfl
  have x4 := bx.at (i := 4) rfl
  have y0 := bY.at (i := 0) rfl
  have y1 := bY.at (i := 1) rfl
  have y2 := bY.at (i := 2) rfl
  have y3 := bY.at (i := 3) rfl
  have y4 := bY.at (i := 4) rfl
  subst hQ; simp -dsimp (maxSteps := 2000000) only [VC.Now, VC.vc_skip, VC.vc_ret, VC.vc_exit, VC.vc_block, VC.vc_cond, VC.vc_region, VC.lib, VC.mapN_drewN, VC.mapB_drewN, VC.regQ, VC.loopK, VC.reg, VC.opP, VC.opS, VC.opZ, VC.nomulB, VC.pv, VC.thenF, VC.blkF, VC.retF, VC.resV, VC.oneV, VC.evo, VC.bin, VC.binI, VC.cmpI, VC.arithI, VC.ldv, VC.slv, VC.pickP, VC.holds, VC.chainOf, VC.look, VC.junk, VC.put, VC.eff, VC.callee, VC.pureB, VC.rdK, VC.rdKs, VC.okKs, VC.eqKs, VC.fillL, VC.putL, VC.stW, VC.stOK, VC.mixF, VC.setAll, Nat.reduceAdd, Nat.reduceSub, Nat.reduceMul, if_true, if_false, ↓reduceIte, forall_const, implies_true, reduceCtorEq, ne_eq, Nat.reduceBNe, Nat.reduceBEq, IntKind.signed, Nat.reduceEqDiff, Nat.reduceLeDiff, Nat.reduceLT, eq_self, Int.reduceEq, Int.reduceLT, Int.reduceLE, Int.reduceAdd, Int.reduceSub, VC.regC_nil, VC.regC_cons, VC.regCK_eq, VC.callQ, VC.tailQ, VC.goCall, VC.chStep]; (repeat rw [vc_seq]); refine vc_plain _ fun Q hQ => ?_; simp -dsimp (maxSteps := 2000000) only [Fa.F39, rdSA_of x0, rdSN_of x0, rdSC_of x0, x0, rdSA_of y0, rdSN_of y0, rdSC_of y0, y0, VC.Now, VC.vc_skip, VC.vc_ret, VC.vc_exit, VC.vc_block, VC.vc_cond, VC.vc_region, VC.lib, VC.mapN_drewN, VC.mapB_drewN, VC.regQ, VC.loopK, VC.reg, VC.opP, VC.opS, VC.opZ, VC.nomulB, VC.pv, VC.thenF, VC.blkF, VC.retF, VC.resV, VC.oneV, VC.evo, VC.bin, VC.binI, VC.cmpI, VC.arithI, VC.ldv, VC.slv, VC.pickP, VC.holds, VC.chainOf, VC.look, VC.junk, VC.put, VC.eff, VC.callee, VC.pureB, VC.rdK, VC.rdKs, VC.okKs, VC.eqKs, VC.fillL, VC.putL, VC.stW, VC.stOK, VC.mixF, VC.setAll, Nat.reduceAdd, Nat.reduceSub, Nat.reduceMul, if_true, if_false, ↓reduceIte, forall_const, implies_true, reduceCtorEq, ne_eq, Nat.reduceBNe, Nat.reduceBEq, IntKind.signed, Nat.reduceEqDiff, Nat.reduceLeDiff, Nat.reduceLT, eq_self, Int.reduceEq, Int.reduceLT, Int.reduceLE, Int.reduceAdd, Int.reduceSub, VC.regC_nil, VC.regC_cons, VC.regCK_eq, VC.callQ, VC.tailQ, VC.goCall, VC.chStep]
  refine CALL_of (codes_any A0 B0 a0 b0 codes codes w2 (hA0.below hB) (hB0.below hB) (by omega) (by omega)) fun w3 hw3 => ?_
  rw [VC.Now, VC.seqK_eq]
  replace bx := bx.below hw3
  replace bY := bY.below hw3
  replace hB := hB.trans (hw3.mono hB.size)
  clear x0 x1 x2 x3 x4 y0 y1 y2 y3 y4 hw3
  have x0 := bx.at (i := 0) rfl
  have x1 := bx.at (i := 1) rfl
  have x2 := bx.at (i := 2) rfl
  have x3 := bx.at (i := 3) rfl
  have x4 := bx.at (i := 4) rfl
  have y0 := bY.at (i := 0) rfl
  have y1 := bY.at (i := 1) rfl
  have y2 := bY.at (i := 2) rfl
  have y3 := bY.at (i := 3) rfl
  have y4 := bY.at (i := 4) rfl
  have e0 : decide (codes = codes) = true := decide_eq_true rfl
  simp -dsimp (maxSteps := 2000000) only [Fa.F39, e0, rdSA_of x1, rdSN_of x1, rdSC_of x1, x1, rdSA_of y1, rdSN_of y1, rdSC_of y1, y1, undef, tu, uf, ul, ur, VC.Now, VC.vc_skip, VC.vc_ret, VC.vc_exit, VC.vc_block, VC.vc_cond, VC.vc_region, VC.lib, VC.mapN_drewN, VC.mapB_drewN, VC.regQ, VC.loopK, VC.reg, VC.opP, VC.opS, VC.opZ, VC.nomulB, VC.pv, VC.thenF, VC.blkF, VC.retF, VC.resV, VC.oneV, VC.evo, VC.bin, VC.binI, VC.cmpI, VC.arithI, VC.ldv, VC.slv, VC.pickP, VC.holds, VC.chainOf, VC.look, VC.junk, VC.put, VC.eff, VC.callee, VC.pureB, VC.rdK, VC.rdKs, VC.okKs, VC.eqKs, VC.fillL, VC.putL, VC.stW, VC.stOK, VC.mixF, VC.setAll, Nat.reduceAdd, Nat.reduceSub, Nat.reduceMul, if_true, if_false, ↓reduceIte, forall_const, implies_true, reduceCtorEq, ne_eq, Nat.reduceBNe, Nat.reduceBEq, IntKind.signed, Nat.reduceEqDiff, Nat.reduceLeDiff, Nat.reduceLT, eq_self, Int.reduceEq, Int.reduceLT, Int.reduceLE, Int.reduceAdd, Int.reduceSub, VC.regC_nil, VC.regC_cons, VC.regCK_eq, VC.callQ, VC.tailQ, VC.goCall, VC.chStep]
  have hc1 := bools_any A1 B1 a1 b1 l1 l1 w3 (hA1.below hB) (hB1.below hB) (by omega) (by omega)
  rw [decide_eq_true rfl] at hc1
  refine CALL_of hc1 fun w4 hw3 => ?_
  rw [VC.Now, VC.seqK_eq]
  replace bx := bx.below hw3
  replace bY := bY.below hw3
  replace hB := hB.trans (hw3.mono hB.size)
  clear x0 x1 x2 x3 x4 y0 y1 y2 y3 y4 hw3
  have x0 := bx.at (i := 0) rfl
  have x1 := bx.at (i := 1) rfl
  have x2 := bx.at (i := 2) rfl
  have x3 := bx.at (i := 3) rfl
  have x4 := bx.at (i := 4) rfl
  have y0 := bY.at (i := 0) rfl
  have y1 := bY.at (i := 1) rfl
  have y2 := bY.at (i := 2) rfl
  have y3 := bY.at (i := 3) rfl
  have y4 := bY.at (i := 4) rfl
  simp -dsimp (maxSteps := 2000000) only [Fa.F39, rdSA_of x2, rdSN_of x2, rdSC_of x2, x2, rdSA_of y2, rdSN_of y2, rdSC_of y2, y2, undef, tu, uf, ul, ur, VC.Now, VC.vc_skip, VC.vc_ret, VC.vc_exit, VC.vc_block, VC.vc_cond, VC.vc_region, VC.lib, VC.mapN_drewN, VC.mapB_drewN, VC.regQ, VC.loopK, VC.reg, VC.opP, VC.opS, VC.opZ, VC.nomulB, VC.pv, VC.thenF, VC.blkF, VC.retF, VC.resV, VC.oneV, VC.evo, VC.bin, VC.binI, VC.cmpI, VC.arithI, VC.ldv, VC.slv, VC.pickP, VC.holds, VC.chainOf, VC.look, VC.junk, VC.put, VC.eff, VC.callee, VC.pureB, VC.rdK, VC.rdKs, VC.okKs, VC.eqKs, VC.fillL, VC.putL, VC.stW, VC.stOK, VC.mixF, VC.setAll, Nat.reduceAdd, Nat.reduceSub, Nat.reduceMul, if_true, if_false, ↓reduceIte, forall_const, implies_true, reduceCtorEq, ne_eq, Nat.reduceBNe, Nat.reduceBEq, IntKind.signed, Nat.reduceEqDiff, Nat.reduceLeDiff, Nat.reduceLT, eq_self, Int.reduceEq, Int.reduceLT, Int.reduceLE, Int.reduceAdd, Int.reduceSub, VC.regC_nil, VC.regC_cons, VC.regCK_eq, VC.callQ, VC.tailQ, VC.goCall, VC.chStep]
  have hc2 := longs_any A2 B2 a2 b2 l2 l2 w4 (hA2.below hB) (hB2.below hB) (by omega) (by omega)
  rw [decide_eq_true rfl] at hc2
  refine CALL_of hc2 fun w5 hw3 => ?_
  rw [VC.Now, VC.seqK_eq]
  replace bx := bx.below hw3
  replace bY := bY.below hw3
  replace hB := hB.trans (hw3.mono hB.size)
  clear x0 x1 x2 x3 x4 y0 y1 y2 y3 y4 hw3
  have x0 := bx.at (i := 0) rfl
  have x1 := bx.at (i := 1) rfl
  have x2 := bx.at (i := 2) rfl
  have x3 := bx.at (i := 3) rfl
  have x4 := bx.at (i := 4) rfl
  have y0 := bY.at (i := 0) rfl
  have y1 := bY.at (i := 1) rfl
  have y2 := bY.at (i := 2) rfl
  have y3 := bY.at (i := 3) rfl
  have y4 := bY.at (i := 4) rfl
  have e3 : (d = d) = True := eq_true rfl
  have e4 : (q = q) = True := eq_true rfl
  simp -dsimp (maxSteps := 2000000) only [Fa.F39, e3, e4, rdI_of x3, x3, rdI_of y3, y3, rdI_of x4, x4, rdI_of y4, y4, undef, tu, uf, ul, ur, VC.Now, VC.vc_skip, VC.vc_ret, VC.vc_exit, VC.vc_block, VC.vc_cond, VC.vc_region, VC.lib, VC.mapN_drewN, VC.mapB_drewN, VC.regQ, VC.loopK, VC.reg, VC.opP, VC.opS, VC.opZ, VC.nomulB, VC.pv, VC.thenF, VC.blkF, VC.retF, VC.resV, VC.oneV, VC.evo, VC.bin, VC.binI, VC.cmpI, VC.arithI, VC.ldv, VC.slv, VC.pickP, VC.holds, VC.chainOf, VC.look, VC.junk, VC.put, VC.eff, VC.callee, VC.pureB, VC.rdK, VC.rdKs, VC.okKs, VC.eqKs, VC.fillL, VC.putL, VC.stW, VC.stOK, VC.mixF, VC.setAll, Nat.reduceAdd, Nat.reduceSub, Nat.reduceMul, if_true, if_false, ↓reduceIte, forall_const, implies_true, reduceCtorEq, ne_eq, Nat.reduceBNe, Nat.reduceBEq, IntKind.signed, Nat.reduceEqDiff, Nat.reduceLeDiff, Nat.reduceLT, eq_self, Int.reduceEq, Int.reduceLT, Int.reduceLE, Int.reduceAdd, Int.reduceSub, VC.regC_nil, VC.regC_cons, VC.regCK_eq, VC.callQ, VC.tailQ, VC.goCall, VC.chStep]
  subst hQ
  simp -dsimp (maxSteps := 2000000) only [Fa.F39, VC.Now, VC.vc, VC.lib, VC.mapN_drewN, VC.mapB_drewN, VC.regQ, VC.loopK, VC.reg, VC.opP, VC.opS, VC.opZ, VC.nomulB, VC.pv, VC.thenF, VC.blkF, VC.retF, VC.resV, VC.oneV, VC.evo, VC.bin, VC.binI, VC.cmpI, VC.arithI, VC.ldv, VC.slv, VC.pickP, VC.holds, VC.chainOf, VC.look, VC.junk, VC.put, VC.eff, VC.callee, VC.pureB, VC.rdK, VC.rdKs, VC.okKs, VC.eqKs, VC.fillL, VC.putL, VC.stW, VC.stOK, VC.mixF, VC.setAll, Nat.reduceAdd, Nat.reduceSub, Nat.reduceMul, if_true, if_false, ↓reduceIte, forall_const, implies_true, reduceCtorEq, ne_eq, Nat.reduceBNe, Nat.reduceBEq, IntKind.signed, Nat.reduceEqDiff, Nat.reduceLeDiff, Nat.reduceLT, eq_self, Int.reduceEq, Int.reduceLT, Int.reduceLE, Int.reduceAdd, Int.reduceSub, VC.regC_nil, VC.regC_cons, VC.regCK_eq, VC.callQ, VC.tailQ, VC.goCall, VC.chStep]
  exact hB
theorem tolds_any {n k : Nat} {codes : List Int} {s : BS} {x y : Value} (w : World) (hx : TolQ n k codes s x w) (hy : TolQ n k codes s y w) (hk : k ≤ 1000) (hn : n ≤ 7) :
    Calls Try.prog 39 #[x, y] w fun e w' => e = .returned (.bool true) ∧ Below w.heap.size w w' := by
  obtain ⟨A0, a0, A1, a1, A2, a2, rfl, hcl, hA0, hA1, hA2⟩ := hx
  obtain ⟨B0, b0, B1, b1, B2, b2, rfl, _, hB0, hB1, hB2⟩ := hy
  subst hcl
  have lb : ((List.range n).map fun i => (s.mi i).has).length = n := by simp
  have lv : ((List.range n).map fun i => (s.mi i).value).length = n := by simp
  have h := tolds_all (d := s.all.length) (q := ((s.all.length - s.came.length : Nat) : Int)) (a0 := a0) (a1 := a1) (a2 := a2) (b0 := b0) (b1 := b1) (b2 := b2) w hA0 hA1 hA2 hB0 hB1 hB2 hk (by omega) (by omega)
  rw [lb, lv] at h
  exact h
theorem tolds_zero (w : World) : Calls Try.prog 39 #[.agg #[nilS, nilS, nilS, iV 0, iV 0], .agg #[nilS, nilS, nilS, iV 0, iV 0]] w fun e w' => e = .returned (.bool true) ∧ Below w.heap.size w w' :=
  tolds_all (codes := []) (l1 := []) (l2 := []) (d := 0) (q := 0) (A0 := none) (A1 := none) (A2 := none) (B0 := none) (B1 := none) (B2 := none) (a0 := 0) (a1 := 0) (a2 := 0) (b0 := 0) (b1 := 0) (b2 := 0) w
    (Rd.nil _ _) (Rd.nil _ _) (Rd.nil _ _) (Rd.nil _ _) (Rd.nil _ _) (Rd.nil _ _) (by decide) (by decide) (by decide)
/-- What is wrong. -/
def badC (n f : Int) (liars : Nat) (sender : Int) (len : Nat) : Int :=
  if n < 1 ∨ 7 < n ∨ 120 < len then 1 else if f < 0 ∨ (n - 1) / 3 < f then 3 else if ¬ liars < 2 ^ n.toNat ∨ sender < 0 ∨ n ≤ sender then 2 else 0
set_option maxRecDepth 8000 in
set_option maxHeartbeats 8000000 in
theorem bra_bad (n f : Int) (liars : Nat) (sender : Int) (A2 : Option Addr) (len cap : Nat) (w : World) (hl : liars < 4294967296) (hbad : badC n f liars sender len ≠ 0) :
    Calls Try.prog 36 #[iV n, iV f, .int .u32 liars, iV sender, .slice A2 len cap] w fun e w' => e = .returned (.tuple #[.agg #[nilS, nilS, nilS, iV 0, iV 0], .int .i64 (badC n f liars sender len)]) ∧ Below w.heap.size w w' := by
  have hb0 := Box.new w z5 88
  have hB0 := below_box (Below.refl w.heap.size w) (.cells z5.toArray 88)
  obtain ⟨ok, hb1⟩ := hb0.stAll (vs := z5) rfl zeroT
  have hag := (stW_agree (X := fun j => j = w.heap.size) (g := w.heap.size) rfl z5 (w.alloc (.cells #[nilS, nilS, nilS, iV 0, iV 0] 88)) 0).to_below hB0 hB0.size fun j hj => by omega
  change Box (stW (w.alloc (.cells #[nilS, nilS, nilS, iV 0, iV 0] 88)) _ _ _) _ _ at hb1
  change stOK (w.alloc (.cells #[nilS, nilS, nilS, iV 0, iV 0] 88)) _ _ _ at ok
  have x0 := hb1.at (i := 0) rfl
  have x1 := hb1.at (i := 1) rfl
  have x2 := hb1.at (i := 2) rfl
  have x3 := hb1.at (i := 3) rfl
  have x4 := hb1.at (i := 4) rfl
  by_cases q1 : n < 1
  · have e1 := eq_true q1
    have hr : badC n f liars sender len = 1 := by unfold badC; rw [if_pos (Or.inl q1)]
    rw [hr]
    refine calls_vc (rs := [.cell 10 88, .tmp 11]) Fa.mix Try.func36 rfl Try.ntmps36 rfl (by kernel_rfl) (Nat.le_of_ble_eq_true rfl) ?_
    simp -dsimp (maxSteps := 2000000) only [Fa.F36, e1, undef, tu, uf, ul, ur, rdSA_of x0, rdSN_of x0, rdSC_of x0, x0, rdSA_of x1, rdSN_of x1, rdSC_of x1, x1, rdSA_of x2, rdSN_of x2, rdSC_of x2, x2, rdI_of x3, x3, rdI_of x4, x4, VC.Now, VC.vc, VC.lib, VC.mapN_drewN, VC.mapB_drewN, VC.regQ, VC.loopK, VC.reg, VC.opP, VC.opS, VC.opZ, VC.nomulB, VC.pv, VC.thenF, VC.blkF, VC.retF, VC.resV, VC.oneV, VC.evo, VC.bin, VC.binI, VC.cmpI, VC.arithI, VC.ldv, VC.slv, VC.pickP, VC.holds, VC.chainOf, VC.look, VC.junk, VC.put, VC.eff, VC.callee, VC.pureB, VC.rdK, VC.rdKs, VC.okKs, VC.eqKs, VC.fillL, VC.putL, VC.mixF, VC.setAll, Nat.reduceAdd, Nat.reduceSub, Nat.reduceMul, if_true, if_false, ↓reduceIte, forall_const, implies_true, reduceCtorEq, ne_eq, Nat.reduceBNe, Nat.reduceBEq, IntKind.signed, Nat.reduceEqDiff, Nat.reduceLeDiff, Nat.reduceLT, eq_self, Int.reduceEq, Int.reduceLT, Int.reduceLE, Int.reduceAdd, Int.reduceSub, VC.regC_nil, VC.regC_cons, VC.regCK_eq, VC.callQ, VC.tailQ, VC.goCall, VC.chStep]
    (repeat refine ⟨by first | assumption | omega, ?_⟩)
    intros
    first | exact ⟨ok, hag⟩ | (refine ⟨?_, ok, hag⟩; omega) | exact hag
  have e1 := eq_false q1
  by_cases q2 : 7 < n
  · have e2 := eq_true q2
    have hr : badC n f liars sender len = 1 := by unfold badC; rw [if_pos (Or.inr (Or.inl q2))]
    rw [hr]
    refine calls_vc (rs := [.cell 10 88, .tmp 11]) Fa.mix Try.func36 rfl Try.ntmps36 rfl (by kernel_rfl) (Nat.le_of_ble_eq_true rfl) ?_
    simp -dsimp (maxSteps := 2000000) only [Fa.F36, e1, e2, undef, tu, uf, ul, ur, rdSA_of x0, rdSN_of x0, rdSC_of x0, x0, rdSA_of x1, rdSN_of x1, rdSC_of x1, x1, rdSA_of x2, rdSN_of x2, rdSC_of x2, x2, rdI_of x3, x3, rdI_of x4, x4, VC.Now, VC.vc, VC.lib, VC.mapN_drewN, VC.mapB_drewN, VC.regQ, VC.loopK, VC.reg, VC.opP, VC.opS, VC.opZ, VC.nomulB, VC.pv, VC.thenF, VC.blkF, VC.retF, VC.resV, VC.oneV, VC.evo, VC.bin, VC.binI, VC.cmpI, VC.arithI, VC.ldv, VC.slv, VC.pickP, VC.holds, VC.chainOf, VC.look, VC.junk, VC.put, VC.eff, VC.callee, VC.pureB, VC.rdK, VC.rdKs, VC.okKs, VC.eqKs, VC.fillL, VC.putL, VC.mixF, VC.setAll, Nat.reduceAdd, Nat.reduceSub, Nat.reduceMul, if_true, if_false, ↓reduceIte, forall_const, implies_true, reduceCtorEq, ne_eq, Nat.reduceBNe, Nat.reduceBEq, IntKind.signed, Nat.reduceEqDiff, Nat.reduceLeDiff, Nat.reduceLT, eq_self, Int.reduceEq, Int.reduceLT, Int.reduceLE, Int.reduceAdd, Int.reduceSub, VC.regC_nil, VC.regC_cons, VC.regCK_eq, VC.callQ, VC.tailQ, VC.goCall, VC.chStep]
    (repeat refine ⟨by first | assumption | omega, ?_⟩)
    intros
    first | exact ⟨ok, hag⟩ | (refine ⟨?_, ok, hag⟩; omega) | exact hag
  have e2 := eq_false q2
  by_cases q3 : 120 < len
  · have e3 : ((120 : Int) < len) = True := eq_true (by omega)
    have hr : badC n f liars sender len = 1 := by unfold badC; rw [if_pos (Or.inr (Or.inr q3))]
    rw [hr]
    refine calls_vc (rs := [.cell 10 88, .tmp 11]) Fa.mix Try.func36 rfl Try.ntmps36 rfl (by kernel_rfl) (Nat.le_of_ble_eq_true rfl) ?_
    simp -dsimp (maxSteps := 2000000) only [Fa.F36, e1, e2, e3, undef, tu, uf, ul, ur, rdSA_of x0, rdSN_of x0, rdSC_of x0, x0, rdSA_of x1, rdSN_of x1, rdSC_of x1, x1, rdSA_of x2, rdSN_of x2, rdSC_of x2, x2, rdI_of x3, x3, rdI_of x4, x4, VC.Now, VC.vc, VC.lib, VC.mapN_drewN, VC.mapB_drewN, VC.regQ, VC.loopK, VC.reg, VC.opP, VC.opS, VC.opZ, VC.nomulB, VC.pv, VC.thenF, VC.blkF, VC.retF, VC.resV, VC.oneV, VC.evo, VC.bin, VC.binI, VC.cmpI, VC.arithI, VC.ldv, VC.slv, VC.pickP, VC.holds, VC.chainOf, VC.look, VC.junk, VC.put, VC.eff, VC.callee, VC.pureB, VC.rdK, VC.rdKs, VC.okKs, VC.eqKs, VC.fillL, VC.putL, VC.mixF, VC.setAll, Nat.reduceAdd, Nat.reduceSub, Nat.reduceMul, if_true, if_false, ↓reduceIte, forall_const, implies_true, reduceCtorEq, ne_eq, Nat.reduceBNe, Nat.reduceBEq, IntKind.signed, Nat.reduceEqDiff, Nat.reduceLeDiff, Nat.reduceLT, eq_self, Int.reduceEq, Int.reduceLT, Int.reduceLE, Int.reduceAdd, Int.reduceSub, VC.regC_nil, VC.regC_cons, VC.regCK_eq, VC.callQ, VC.tailQ, VC.goCall, VC.chStep]
    (repeat refine ⟨by first | assumption | omega, ?_⟩)
    intros
    first | exact ⟨ok, hag⟩ | (refine ⟨?_, ok, hag⟩; omega) | exact hag
  have e3 : ((120 : Int) < len) = False := eq_false (by omega)
  have hq : ¬ (n < 1 ∨ 7 < n ∨ 120 < len) := by omega
  have et : (n - 1).tdiv 3 = (n - 1) / 3 := Int.tdiv_eq_ediv_of_nonneg (by omega)
  by_cases q4 : f < 0
  · have e4 := eq_true q4
    have hr : badC n f liars sender len = 3 := by unfold badC; rw [if_neg hq, if_pos (Or.inl q4)]
    rw [hr]
    refine calls_vc (rs := [.cell 10 88, .tmp 11]) Fa.mix Try.func36 rfl Try.ntmps36 rfl (by kernel_rfl) (Nat.le_of_ble_eq_true rfl) ?_
    simp -dsimp (maxSteps := 2000000) only [Fa.F36, e1, e2, e3, e4, undef, tu, uf, ul, ur, rdSA_of x0, rdSN_of x0, rdSC_of x0, x0, rdSA_of x1, rdSN_of x1, rdSC_of x1, x1, rdSA_of x2, rdSN_of x2, rdSC_of x2, x2, rdI_of x3, x3, rdI_of x4, x4, VC.Now, VC.vc, VC.lib, VC.mapN_drewN, VC.mapB_drewN, VC.regQ, VC.loopK, VC.reg, VC.opP, VC.opS, VC.opZ, VC.nomulB, VC.pv, VC.thenF, VC.blkF, VC.retF, VC.resV, VC.oneV, VC.evo, VC.bin, VC.binI, VC.cmpI, VC.arithI, VC.ldv, VC.slv, VC.pickP, VC.holds, VC.chainOf, VC.look, VC.junk, VC.put, VC.eff, VC.callee, VC.pureB, VC.rdK, VC.rdKs, VC.okKs, VC.eqKs, VC.fillL, VC.putL, VC.mixF, VC.setAll, Nat.reduceAdd, Nat.reduceSub, Nat.reduceMul, if_true, if_false, ↓reduceIte, forall_const, implies_true, reduceCtorEq, ne_eq, Nat.reduceBNe, Nat.reduceBEq, IntKind.signed, Nat.reduceEqDiff, Nat.reduceLeDiff, Nat.reduceLT, eq_self, Int.reduceEq, Int.reduceLT, Int.reduceLE, Int.reduceAdd, Int.reduceSub, VC.regC_nil, VC.regC_cons, VC.regCK_eq, VC.callQ, VC.tailQ, VC.goCall, VC.chStep]
    (repeat refine ⟨by first | assumption | omega, ?_⟩)
    intros
    first | exact ⟨ok, hag⟩ | (refine ⟨?_, ok, hag⟩; omega) | exact hag
  have e4 := eq_false q4
  by_cases q5 : (n - 1) / 3 < f
  · have e5 := eq_true q5
    have hr : badC n f liars sender len = 3 := by unfold badC; rw [if_neg hq, if_pos (Or.inr q5)]
    rw [hr]
    refine calls_vc (rs := [.cell 10 88, .tmp 11]) Fa.mix Try.func36 rfl Try.ntmps36 rfl (by kernel_rfl) (Nat.le_of_ble_eq_true rfl) ?_
    simp -dsimp (maxSteps := 2000000) only [Fa.F36, e1, e2, e3, e4, et, e5, undef, tu, uf, ul, ur, rdSA_of x0, rdSN_of x0, rdSC_of x0, x0, rdSA_of x1, rdSN_of x1, rdSC_of x1, x1, rdSA_of x2, rdSN_of x2, rdSC_of x2, x2, rdI_of x3, x3, rdI_of x4, x4, VC.Now, VC.vc, VC.lib, VC.mapN_drewN, VC.mapB_drewN, VC.regQ, VC.loopK, VC.reg, VC.opP, VC.opS, VC.opZ, VC.nomulB, VC.pv, VC.thenF, VC.blkF, VC.retF, VC.resV, VC.oneV, VC.evo, VC.bin, VC.binI, VC.cmpI, VC.arithI, VC.ldv, VC.slv, VC.pickP, VC.holds, VC.chainOf, VC.look, VC.junk, VC.put, VC.eff, VC.callee, VC.pureB, VC.rdK, VC.rdKs, VC.okKs, VC.eqKs, VC.fillL, VC.putL, VC.mixF, VC.setAll, Nat.reduceAdd, Nat.reduceSub, Nat.reduceMul, if_true, if_false, ↓reduceIte, forall_const, implies_true, reduceCtorEq, ne_eq, Nat.reduceBNe, Nat.reduceBEq, IntKind.signed, Nat.reduceEqDiff, Nat.reduceLeDiff, Nat.reduceLT, eq_self, Int.reduceEq, Int.reduceLT, Int.reduceLE, Int.reduceAdd, Int.reduceSub, VC.regC_nil, VC.regC_cons, VC.regCK_eq, VC.callQ, VC.tailQ, VC.goCall, VC.chStep]
    exact ⟨fits_i64 (by omega) (by omega), fits_i64 (by omega) (by omega), ok, hag⟩
  have e5 := eq_false q5
  obtain ⟨m, hm⟩ : ∃ m : Nat, n = m := ⟨n.toNat, by omega⟩
  subst hm
  by_cases q6 : liars < 2 ^ m
  case neg =>
    have e8 : ((liars : Int).fdiv (2 ^ shN .u32 (m : Int)) = 0) = False := eq_false fun h9 => q6 ((shr_zero (by omega)).mp h9)
    have hr : badC m f liars sender len = 2 := by unfold badC; rw [if_neg hq, if_neg (by omega), if_pos (Or.inl (by rw [Int.toNat_natCast]; exact q6))]
    rw [hr]
    refine calls_vc (rs := [.cell 10 88, .tmp 11]) Fa.mix Try.func36 rfl Try.ntmps36 rfl (by kernel_rfl) (Nat.le_of_ble_eq_true rfl) ?_
    simp -dsimp (maxSteps := 2000000) only [Fa.F36, e1, e2, e3, e4, et, e5, e8, undef, tu, uf, ul, ur, rdSA_of x0, rdSN_of x0, rdSC_of x0, x0, rdSA_of x1, rdSN_of x1, rdSC_of x1, x1, rdSA_of x2, rdSN_of x2, rdSC_of x2, x2, rdI_of x3, x3, rdI_of x4, x4, VC.Now, VC.vc, VC.lib, VC.mapN_drewN, VC.mapB_drewN, VC.regQ, VC.loopK, VC.reg, VC.opP, VC.opS, VC.opZ, VC.nomulB, VC.pv, VC.thenF, VC.blkF, VC.retF, VC.resV, VC.oneV, VC.evo, VC.bin, VC.binI, VC.cmpI, VC.arithI, VC.ldv, VC.slv, VC.pickP, VC.holds, VC.chainOf, VC.look, VC.junk, VC.put, VC.eff, VC.callee, VC.pureB, VC.rdK, VC.rdKs, VC.okKs, VC.eqKs, VC.fillL, VC.putL, VC.mixF, VC.setAll, Nat.reduceAdd, Nat.reduceSub, Nat.reduceMul, if_true, if_false, ↓reduceIte, forall_const, implies_true, reduceCtorEq, ne_eq, Nat.reduceBNe, Nat.reduceBEq, IntKind.signed, Nat.reduceEqDiff, Nat.reduceLeDiff, Nat.reduceLT, eq_self, Int.reduceEq, Int.reduceLT, Int.reduceLE, Int.reduceAdd, Int.reduceSub, VC.regC_nil, VC.regC_cons, VC.regCK_eq, VC.callQ, VC.tailQ, VC.goCall, VC.chStep]
    exact ⟨fits_i64 (by omega) (by omega), fits_i64 (by omega) (by omega), by omega, ok, hag⟩
  have e8 : ((liars : Int).fdiv (2 ^ shN .u32 (m : Int)) = 0) = True := eq_true ((shr_zero (by omega)).mpr q6)
  by_cases q7 : sender < 0
  · have e6 := eq_true q7
    have hr : badC m f liars sender len = 2 := by unfold badC; rw [if_neg hq, if_neg (by omega), if_pos (Or.inr (Or.inl q7))]
    rw [hr]
    refine calls_vc (rs := [.cell 10 88, .tmp 11]) Fa.mix Try.func36 rfl Try.ntmps36 rfl (by kernel_rfl) (Nat.le_of_ble_eq_true rfl) ?_
    simp -dsimp (maxSteps := 2000000) only [Fa.F36, e1, e2, e3, e4, et, e5, e8, e6, undef, tu, uf, ul, ur, rdSA_of x0, rdSN_of x0, rdSC_of x0, x0, rdSA_of x1, rdSN_of x1, rdSC_of x1, x1, rdSA_of x2, rdSN_of x2, rdSC_of x2, x2, rdI_of x3, x3, rdI_of x4, x4, VC.Now, VC.vc, VC.lib, VC.mapN_drewN, VC.mapB_drewN, VC.regQ, VC.loopK, VC.reg, VC.opP, VC.opS, VC.opZ, VC.nomulB, VC.pv, VC.thenF, VC.blkF, VC.retF, VC.resV, VC.oneV, VC.evo, VC.bin, VC.binI, VC.cmpI, VC.arithI, VC.ldv, VC.slv, VC.pickP, VC.holds, VC.chainOf, VC.look, VC.junk, VC.put, VC.eff, VC.callee, VC.pureB, VC.rdK, VC.rdKs, VC.okKs, VC.eqKs, VC.fillL, VC.putL, VC.mixF, VC.setAll, Nat.reduceAdd, Nat.reduceSub, Nat.reduceMul, if_true, if_false, ↓reduceIte, forall_const, implies_true, reduceCtorEq, ne_eq, Nat.reduceBNe, Nat.reduceBEq, IntKind.signed, Nat.reduceEqDiff, Nat.reduceLeDiff, Nat.reduceLT, eq_self, Int.reduceEq, Int.reduceLT, Int.reduceLE, Int.reduceAdd, Int.reduceSub, VC.regC_nil, VC.regC_cons, VC.regCK_eq, VC.callQ, VC.tailQ, VC.goCall, VC.chStep]
    exact ⟨fits_i64 (by omega) (by omega), fits_i64 (by omega) (by omega), by omega, ok, hag⟩
  have e6 := eq_false q7
  by_cases q8 : (m : Int) ≤ sender
  · have e7 := eq_true q8
    have hr : badC m f liars sender len = 2 := by unfold badC; rw [if_neg hq, if_neg (by omega), if_pos (Or.inr (Or.inr q8))]
    rw [hr]
    refine calls_vc (rs := [.cell 10 88, .tmp 11]) Fa.mix Try.func36 rfl Try.ntmps36 rfl (by kernel_rfl) (Nat.le_of_ble_eq_true rfl) ?_
    simp -dsimp (maxSteps := 2000000) only [Fa.F36, e1, e2, e3, e4, et, e5, e8, e6, e7, undef, tu, uf, ul, ur, rdSA_of x0, rdSN_of x0, rdSC_of x0, x0, rdSA_of x1, rdSN_of x1, rdSC_of x1, x1, rdSA_of x2, rdSN_of x2, rdSC_of x2, x2, rdI_of x3, x3, rdI_of x4, x4, VC.Now, VC.vc, VC.lib, VC.mapN_drewN, VC.mapB_drewN, VC.regQ, VC.loopK, VC.reg, VC.opP, VC.opS, VC.opZ, VC.nomulB, VC.pv, VC.thenF, VC.blkF, VC.retF, VC.resV, VC.oneV, VC.evo, VC.bin, VC.binI, VC.cmpI, VC.arithI, VC.ldv, VC.slv, VC.pickP, VC.holds, VC.chainOf, VC.look, VC.junk, VC.put, VC.eff, VC.callee, VC.pureB, VC.rdK, VC.rdKs, VC.okKs, VC.eqKs, VC.fillL, VC.putL, VC.mixF, VC.setAll, Nat.reduceAdd, Nat.reduceSub, Nat.reduceMul, if_true, if_false, ↓reduceIte, forall_const, implies_true, reduceCtorEq, ne_eq, Nat.reduceBNe, Nat.reduceBEq, IntKind.signed, Nat.reduceEqDiff, Nat.reduceLeDiff, Nat.reduceLT, eq_self, Int.reduceEq, Int.reduceLT, Int.reduceLE, Int.reduceAdd, Int.reduceSub, VC.regC_nil, VC.regC_cons, VC.regCK_eq, VC.callQ, VC.tailQ, VC.goCall, VC.chStep]
    exact ⟨fits_i64 (by omega) (by omega), fits_i64 (by omega) (by omega), by omega, ok, hag⟩
  exact absurd (by unfold badC; rw [if_neg hq, if_neg (by omega), if_neg (by rw [Int.toNat_natCast]; rintro (h9 | h9 | h9); · exact h9 q6
                                                                             · exact q7 h9
                                                                             · exact q8 h9)]) hbad
set_option maxRecDepth 8000 in
set_option maxHeartbeats 8000000 in
theorem bcheck_any (n f : Int) (liars : Nat) (sender : Int) (len : Nat) (w : World) (hl : liars < 4294967296) :
    Calls Try.prog 37 #[iV n, iV f, .int .u32 liars, iV sender, iV len] w fun e w' => e = .returned (iV (badC n f liars sender len)) ∧ w' = w := by
  by_cases q1 : n < 1
  · have e1 := eq_true q1
    have hr : badC n f liars sender len = 1 := by unfold badC; rw [if_pos (Or.inl q1)]
    rw [hr]
    refine calls_vc (rs := [.tmp 10]) Fa.mix Try.func37 rfl Try.ntmps37 rfl (by kernel_rfl) (Nat.le_of_ble_eq_true rfl) ?_
    simp -dsimp (maxSteps := 2000000) only [Fa.F37, e1, undef, tu, uf, ul, ur, VC.Now, VC.vc, VC.lib, VC.mapN_drewN, VC.mapB_drewN, VC.regQ, VC.loopK, VC.reg, VC.opP, VC.opS, VC.opZ, VC.nomulB, VC.pv, VC.thenF, VC.blkF, VC.retF, VC.resV, VC.oneV, VC.evo, VC.bin, VC.binI, VC.cmpI, VC.arithI, VC.ldv, VC.slv, VC.pickP, VC.holds, VC.chainOf, VC.look, VC.junk, VC.put, VC.eff, VC.callee, VC.pureB, VC.rdK, VC.rdKs, VC.okKs, VC.eqKs, VC.fillL, VC.putL, VC.stW, VC.stOK, VC.mixF, VC.setAll, Nat.reduceAdd, Nat.reduceSub, Nat.reduceMul, if_true, if_false, ↓reduceIte, forall_const, implies_true, reduceCtorEq, ne_eq, Nat.reduceBNe, Nat.reduceBEq, IntKind.signed, Nat.reduceEqDiff, Nat.reduceLeDiff, Nat.reduceLT, eq_self, Int.reduceEq, Int.reduceLT, Int.reduceLE, Int.reduceAdd, Int.reduceSub, VC.regC_nil, VC.regC_cons, VC.regCK_eq, VC.callQ, VC.tailQ, VC.goCall, VC.chStep]
  have e1 := eq_false q1
  by_cases q2 : 7 < n
  · have e2 := eq_true q2
    have hr : badC n f liars sender len = 1 := by unfold badC; rw [if_pos (Or.inr (Or.inl q2))]
    rw [hr]
    refine calls_vc (rs := [.tmp 10]) Fa.mix Try.func37 rfl Try.ntmps37 rfl (by kernel_rfl) (Nat.le_of_ble_eq_true rfl) ?_
    simp -dsimp (maxSteps := 2000000) only [Fa.F37, e1, e2, undef, tu, uf, ul, ur, VC.Now, VC.vc, VC.lib, VC.mapN_drewN, VC.mapB_drewN, VC.regQ, VC.loopK, VC.reg, VC.opP, VC.opS, VC.opZ, VC.nomulB, VC.pv, VC.thenF, VC.blkF, VC.retF, VC.resV, VC.oneV, VC.evo, VC.bin, VC.binI, VC.cmpI, VC.arithI, VC.ldv, VC.slv, VC.pickP, VC.holds, VC.chainOf, VC.look, VC.junk, VC.put, VC.eff, VC.callee, VC.pureB, VC.rdK, VC.rdKs, VC.okKs, VC.eqKs, VC.fillL, VC.putL, VC.stW, VC.stOK, VC.mixF, VC.setAll, Nat.reduceAdd, Nat.reduceSub, Nat.reduceMul, if_true, if_false, ↓reduceIte, forall_const, implies_true, reduceCtorEq, ne_eq, Nat.reduceBNe, Nat.reduceBEq, IntKind.signed, Nat.reduceEqDiff, Nat.reduceLeDiff, Nat.reduceLT, eq_self, Int.reduceEq, Int.reduceLT, Int.reduceLE, Int.reduceAdd, Int.reduceSub, VC.regC_nil, VC.regC_cons, VC.regCK_eq, VC.callQ, VC.tailQ, VC.goCall, VC.chStep]
  have e2 := eq_false q2
  by_cases q3 : 120 < len
  · have e3 : ((120 : Int) < len) = True := eq_true (by omega)
    have hr : badC n f liars sender len = 1 := by unfold badC; rw [if_pos (Or.inr (Or.inr q3))]
    rw [hr]
    refine calls_vc (rs := [.tmp 10]) Fa.mix Try.func37 rfl Try.ntmps37 rfl (by kernel_rfl) (Nat.le_of_ble_eq_true rfl) ?_
    simp -dsimp (maxSteps := 2000000) only [Fa.F37, e1, e2, e3, undef, tu, uf, ul, ur, VC.Now, VC.vc, VC.lib, VC.mapN_drewN, VC.mapB_drewN, VC.regQ, VC.loopK, VC.reg, VC.opP, VC.opS, VC.opZ, VC.nomulB, VC.pv, VC.thenF, VC.blkF, VC.retF, VC.resV, VC.oneV, VC.evo, VC.bin, VC.binI, VC.cmpI, VC.arithI, VC.ldv, VC.slv, VC.pickP, VC.holds, VC.chainOf, VC.look, VC.junk, VC.put, VC.eff, VC.callee, VC.pureB, VC.rdK, VC.rdKs, VC.okKs, VC.eqKs, VC.fillL, VC.putL, VC.stW, VC.stOK, VC.mixF, VC.setAll, Nat.reduceAdd, Nat.reduceSub, Nat.reduceMul, if_true, if_false, ↓reduceIte, forall_const, implies_true, reduceCtorEq, ne_eq, Nat.reduceBNe, Nat.reduceBEq, IntKind.signed, Nat.reduceEqDiff, Nat.reduceLeDiff, Nat.reduceLT, eq_self, Int.reduceEq, Int.reduceLT, Int.reduceLE, Int.reduceAdd, Int.reduceSub, VC.regC_nil, VC.regC_cons, VC.regCK_eq, VC.callQ, VC.tailQ, VC.goCall, VC.chStep]
  have e3 : ((120 : Int) < len) = False := eq_false (by omega)
  have hq : ¬ (n < 1 ∨ 7 < n ∨ 120 < len) := by omega
  by_cases q4 : f < 0
  · have e4 := eq_true q4
    have hr : badC n f liars sender len = 3 := by unfold badC; rw [if_neg hq, if_pos (Or.inl q4)]
    rw [hr]
    refine calls_vc (rs := [.tmp 10]) Fa.mix Try.func37 rfl Try.ntmps37 rfl (by kernel_rfl) (Nat.le_of_ble_eq_true rfl) ?_
    simp -dsimp (maxSteps := 2000000) only [Fa.F37, e1, e2, e3, e4, undef, tu, uf, ul, ur, VC.Now, VC.vc, VC.lib, VC.mapN_drewN, VC.mapB_drewN, VC.regQ, VC.loopK, VC.reg, VC.opP, VC.opS, VC.opZ, VC.nomulB, VC.pv, VC.thenF, VC.blkF, VC.retF, VC.resV, VC.oneV, VC.evo, VC.bin, VC.binI, VC.cmpI, VC.arithI, VC.ldv, VC.slv, VC.pickP, VC.holds, VC.chainOf, VC.look, VC.junk, VC.put, VC.eff, VC.callee, VC.pureB, VC.rdK, VC.rdKs, VC.okKs, VC.eqKs, VC.fillL, VC.putL, VC.stW, VC.stOK, VC.mixF, VC.setAll, Nat.reduceAdd, Nat.reduceSub, Nat.reduceMul, if_true, if_false, ↓reduceIte, forall_const, implies_true, reduceCtorEq, ne_eq, Nat.reduceBNe, Nat.reduceBEq, IntKind.signed, Nat.reduceEqDiff, Nat.reduceLeDiff, Nat.reduceLT, eq_self, Int.reduceEq, Int.reduceLT, Int.reduceLE, Int.reduceAdd, Int.reduceSub, VC.regC_nil, VC.regC_cons, VC.regCK_eq, VC.callQ, VC.tailQ, VC.goCall, VC.chStep]
  have e4 := eq_false q4
  by_cases q9 : 2 < f
  · have e9 := eq_true q9
    have hr : badC n f liars sender len = 3 := by unfold badC; rw [if_neg hq, if_pos (Or.inr (by omega))]
    rw [hr]
    refine calls_vc (rs := [.tmp 10]) Fa.mix Try.func37 rfl Try.ntmps37 rfl (by kernel_rfl) (Nat.le_of_ble_eq_true rfl) ?_
    simp -dsimp (maxSteps := 2000000) only [Fa.F37, e1, e2, e3, e4, e9, undef, tu, uf, ul, ur, VC.Now, VC.vc, VC.lib, VC.mapN_drewN, VC.mapB_drewN, VC.regQ, VC.loopK, VC.reg, VC.opP, VC.opS, VC.opZ, VC.nomulB, VC.pv, VC.thenF, VC.blkF, VC.retF, VC.resV, VC.oneV, VC.evo, VC.bin, VC.binI, VC.cmpI, VC.arithI, VC.ldv, VC.slv, VC.pickP, VC.holds, VC.chainOf, VC.look, VC.junk, VC.put, VC.eff, VC.callee, VC.pureB, VC.rdK, VC.rdKs, VC.okKs, VC.eqKs, VC.fillL, VC.putL, VC.stW, VC.stOK, VC.mixF, VC.setAll, Nat.reduceAdd, Nat.reduceSub, Nat.reduceMul, if_true, if_false, ↓reduceIte, forall_const, implies_true, reduceCtorEq, ne_eq, Nat.reduceBNe, Nat.reduceBEq, IntKind.signed, Nat.reduceEqDiff, Nat.reduceLeDiff, Nat.reduceLT, eq_self, Int.reduceEq, Int.reduceLT, Int.reduceLE, Int.reduceAdd, Int.reduceSub, VC.regC_nil, VC.regC_cons, VC.regCK_eq, VC.callQ, VC.tailQ, VC.goCall, VC.chStep]
  have e9 := eq_false q9
  have k3 : IntKind.i64.wrap (3 * f) = 3 * f := fits_wrap (fits_i64 (by omega) (by omega))
  by_cases q5 : (n - 1) / 3 < f
  · have e5 : (n ≤ 3 * f) = True := eq_true (by omega)
    have hr : badC n f liars sender len = 3 := by unfold badC; rw [if_neg hq, if_pos (Or.inr q5)]
    rw [hr]
    refine calls_vc (rs := [.tmp 10]) Fa.mix Try.func37 rfl Try.ntmps37 rfl (by kernel_rfl) (Nat.le_of_ble_eq_true rfl) ?_
    simp -dsimp (maxSteps := 2000000) only [Fa.F37, e1, e2, e3, e4, e9, k3, e5, undef, tu, uf, ul, ur, VC.Now, VC.vc, VC.lib, VC.mapN_drewN, VC.mapB_drewN, VC.regQ, VC.loopK, VC.reg, VC.opP, VC.opS, VC.opZ, VC.nomulB, VC.pv, VC.thenF, VC.blkF, VC.retF, VC.resV, VC.oneV, VC.evo, VC.bin, VC.binI, VC.cmpI, VC.arithI, VC.ldv, VC.slv, VC.pickP, VC.holds, VC.chainOf, VC.look, VC.junk, VC.put, VC.eff, VC.callee, VC.pureB, VC.rdK, VC.rdKs, VC.okKs, VC.eqKs, VC.fillL, VC.putL, VC.stW, VC.stOK, VC.mixF, VC.setAll, Nat.reduceAdd, Nat.reduceSub, Nat.reduceMul, if_true, if_false, ↓reduceIte, forall_const, implies_true, reduceCtorEq, ne_eq, Nat.reduceBNe, Nat.reduceBEq, IntKind.signed, Nat.reduceEqDiff, Nat.reduceLeDiff, Nat.reduceLT, eq_self, Int.reduceEq, Int.reduceLT, Int.reduceLE, Int.reduceAdd, Int.reduceSub, VC.regC_nil, VC.regC_cons, VC.regCK_eq, VC.callQ, VC.tailQ, VC.goCall, VC.chStep]
  have e5 : (n ≤ 3 * f) = False := eq_false (by omega)
  obtain ⟨m, hm⟩ : ∃ m : Nat, n = m := ⟨n.toNat, by omega⟩
  subst hm
  refine calls_vc (rs := [.tmp 10]) Fa.mix Try.func37 rfl Try.ntmps37 rfl (by kernel_rfl) (Nat.le_of_ble_eq_true rfl) ?_
  simp -dsimp (maxSteps := 2000000) only [Fa.F37, e1, e2, e3, e4, e9, k3, e5, undef, tu, uf, ul, ur, VC.Now, VC.vc, VC.lib, VC.mapN_drewN, VC.mapB_drewN, VC.regQ, VC.loopK, VC.reg, VC.opP, VC.opS, VC.opZ, VC.nomulB, VC.pv, VC.thenF, VC.blkF, VC.retF, VC.resV, VC.oneV, VC.evo, VC.bin, VC.binI, VC.cmpI, VC.arithI, VC.ldv, VC.slv, VC.pickP, VC.holds, VC.chainOf, VC.look, VC.junk, VC.put, VC.eff, VC.callee, VC.pureB, VC.rdK, VC.rdKs, VC.okKs, VC.eqKs, VC.fillL, VC.putL, VC.stW, VC.stOK, VC.mixF, VC.setAll, Nat.reduceAdd, Nat.reduceSub, Nat.reduceMul, if_true, if_false, ↓reduceIte, forall_const, implies_true, reduceCtorEq, ne_eq, Nat.reduceBNe, Nat.reduceBEq, IntKind.signed, Nat.reduceEqDiff, Nat.reduceLeDiff, Nat.reduceLT, eq_self, Int.reduceEq, Int.reduceLT, Int.reduceLE, Int.reduceAdd, Int.reduceSub, VC.regC_nil, VC.regC_cons, VC.regCK_eq, VC.callQ, VC.tailQ, VC.goCall, VC.chStep]
  intros
  refine CALL_of (outside_any liars m w hl (by omega)) fun w1 hw1 => ?_
  subst hw1
  rw [VC.Now, VC.seqK_eq]
  by_cases q6 : liars < 2 ^ m
  case neg =>
    have hr : badC m f liars sender len = 2 := by unfold badC; rw [if_neg hq, if_neg (by omega), if_pos (Or.inl (by rw [Int.toNat_natCast]; exact q6))]
    rw [hr, decide_eq_true q6]
    simp -dsimp (maxSteps := 2000000) only [Fa.F37, undef, tu, uf, ul, ur, VC.Now, VC.vc, VC.lib, VC.mapN_drewN, VC.mapB_drewN, VC.regQ, VC.loopK, VC.reg, VC.opP, VC.opS, VC.opZ, VC.nomulB, VC.pv, VC.thenF, VC.blkF, VC.retF, VC.resV, VC.oneV, VC.evo, VC.bin, VC.binI, VC.cmpI, VC.arithI, VC.ldv, VC.slv, VC.pickP, VC.holds, VC.chainOf, VC.look, VC.junk, VC.put, VC.eff, VC.callee, VC.pureB, VC.rdK, VC.rdKs, VC.okKs, VC.eqKs, VC.fillL, VC.putL, VC.stW, VC.stOK, VC.mixF, VC.setAll, Nat.reduceAdd, Nat.reduceSub, Nat.reduceMul, if_true, if_false, ↓reduceIte, forall_const, implies_true, reduceCtorEq, ne_eq, Nat.reduceBNe, Nat.reduceBEq, IntKind.signed, Nat.reduceEqDiff, Nat.reduceLeDiff, Nat.reduceLT, eq_self, Int.reduceEq, Int.reduceLT, Int.reduceLE, Int.reduceAdd, Int.reduceSub, VC.regC_nil, VC.regC_cons, VC.regCK_eq, VC.callQ, VC.tailQ, VC.goCall, VC.chStep]
  rw [decide_eq_false (fun hh => hh q6)]
  by_cases q7 : sender < 0
  · have e6 := eq_true q7
    have hr : badC m f liars sender len = 2 := by unfold badC; rw [if_neg hq, if_neg (by omega), if_pos (Or.inr (Or.inl q7))]
    rw [hr]
    simp -dsimp (maxSteps := 2000000) only [Fa.F37, e6, undef, tu, uf, ul, ur, VC.Now, VC.vc, VC.lib, VC.mapN_drewN, VC.mapB_drewN, VC.regQ, VC.loopK, VC.reg, VC.opP, VC.opS, VC.opZ, VC.nomulB, VC.pv, VC.thenF, VC.blkF, VC.retF, VC.resV, VC.oneV, VC.evo, VC.bin, VC.binI, VC.cmpI, VC.arithI, VC.ldv, VC.slv, VC.pickP, VC.holds, VC.chainOf, VC.look, VC.junk, VC.put, VC.eff, VC.callee, VC.pureB, VC.rdK, VC.rdKs, VC.okKs, VC.eqKs, VC.fillL, VC.putL, VC.stW, VC.stOK, VC.mixF, VC.setAll, Nat.reduceAdd, Nat.reduceSub, Nat.reduceMul, if_true, if_false, ↓reduceIte, forall_const, implies_true, reduceCtorEq, ne_eq, Nat.reduceBNe, Nat.reduceBEq, IntKind.signed, Nat.reduceEqDiff, Nat.reduceLeDiff, Nat.reduceLT, eq_self, Int.reduceEq, Int.reduceLT, Int.reduceLE, Int.reduceAdd, Int.reduceSub, VC.regC_nil, VC.regC_cons, VC.regCK_eq, VC.callQ, VC.tailQ, VC.goCall, VC.chStep]
  have e6 := eq_false q7
  by_cases q8 : (m : Int) ≤ sender
  · have e7 := eq_true q8
    have hr : badC m f liars sender len = 2 := by unfold badC; rw [if_neg hq, if_neg (by omega), if_pos (Or.inr (Or.inr q8))]
    rw [hr]
    simp -dsimp (maxSteps := 2000000) only [Fa.F37, e6, e7, undef, tu, uf, ul, ur, VC.Now, VC.vc, VC.lib, VC.mapN_drewN, VC.mapB_drewN, VC.regQ, VC.loopK, VC.reg, VC.opP, VC.opS, VC.opZ, VC.nomulB, VC.pv, VC.thenF, VC.blkF, VC.retF, VC.resV, VC.oneV, VC.evo, VC.bin, VC.binI, VC.cmpI, VC.arithI, VC.ldv, VC.slv, VC.pickP, VC.holds, VC.chainOf, VC.look, VC.junk, VC.put, VC.eff, VC.callee, VC.pureB, VC.rdK, VC.rdKs, VC.okKs, VC.eqKs, VC.fillL, VC.putL, VC.stW, VC.stOK, VC.mixF, VC.setAll, Nat.reduceAdd, Nat.reduceSub, Nat.reduceMul, if_true, if_false, ↓reduceIte, forall_const, implies_true, reduceCtorEq, ne_eq, Nat.reduceBNe, Nat.reduceBEq, IntKind.signed, Nat.reduceEqDiff, Nat.reduceLeDiff, Nat.reduceLT, eq_self, Int.reduceEq, Int.reduceLT, Int.reduceLE, Int.reduceAdd, Int.reduceSub, VC.regC_nil, VC.regC_cons, VC.regCK_eq, VC.callQ, VC.tailQ, VC.goCall, VC.chStep]
  have e7 := eq_false q8
  have hr : badC m f liars sender len = 0 := by
    unfold badC
    rw [if_neg hq, if_neg (by omega), if_neg (by rw [Int.toNat_natCast]; rintro (h9 | h9 | h9); · exact h9 q6
                                                 · exact q7 h9
                                                 · exact q8 h9)]
  rw [hr]
  simp -dsimp (maxSteps := 2000000) only [Fa.F37, e6, e7, undef, tu, uf, ul, ur, VC.Now, VC.vc, VC.lib, VC.mapN_drewN, VC.mapB_drewN, VC.regQ, VC.loopK, VC.reg, VC.opP, VC.opS, VC.opZ, VC.nomulB, VC.pv, VC.thenF, VC.blkF, VC.retF, VC.resV, VC.oneV, VC.evo, VC.bin, VC.binI, VC.cmpI, VC.arithI, VC.ldv, VC.slv, VC.pickP, VC.holds, VC.chainOf, VC.look, VC.junk, VC.put, VC.eff, VC.callee, VC.pureB, VC.rdK, VC.rdKs, VC.okKs, VC.eqKs, VC.fillL, VC.putL, VC.stW, VC.stOK, VC.mixF, VC.setAll, Nat.reduceAdd, Nat.reduceSub, Nat.reduceMul, if_true, if_false, ↓reduceIte, forall_const, implies_true, reduceCtorEq, ne_eq, Nat.reduceBNe, Nat.reduceBEq, IntKind.signed, Nat.reduceEqDiff, Nat.reduceLeDiff, Nat.reduceLT, eq_self, Int.reduceEq, Int.reduceLT, Int.reduceLE, Int.reduceAdd, Int.reduceSub, VC.regC_nil, VC.regC_cons, VC.regCK_eq, VC.callQ, VC.tailQ, VC.goCall, VC.chStep]
end Go.Proofs.Ytelfmhiaafkimaa
