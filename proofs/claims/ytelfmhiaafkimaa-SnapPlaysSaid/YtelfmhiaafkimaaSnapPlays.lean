/- SnapPlays: the law. -/
import Derived.Test.YtelfmhiaafkimaaSnapSame
namespace Go.Proofs.Ytelfmhiaafkimaa
open Go Go.RowKit Go.VC
set_option linter.unusedSimpArgs false
set_option linter.unusedVariables false
def farI (x : Int) : Bool := decide (x < 0 ∨ 1000 < x)
def farK (m : Nat → Int) (k : Nat) : Bool := ((List.range k).map m).any farI
theorem farK_succ (m : Nat → Int) (k : Nat) : farK m (k + 1) = (farK m k || farI (m k)) := by
  unfold farK
  rw [List.range_succ, List.map_append, List.any_append]
  simp
def xK (m : Nat → Int) (k : Nat) : Int := if farK m k then 2 else 0
set_option maxRecDepth 8000 in
set_option maxHeartbeats 4000000 in
theorem snap_large (A : Option Addr) (n c0 : Nat) (A2 : Option Addr) (len cap : Nat) (w : World) (hbad : n = 0 ∨ 6 < n ∨ 120 < len) :
    Calls Try.prog 24 #[.slice A n c0, .slice A2 len cap] w fun e w' => e = .returned (.tuple #[.agg #[nilS, nilS, nilS, nilS, .bool false], .int .i64 1]) ∧ Below w.heap.size w w' := by
  have hb0 := Box.new w z5 56
  have hB0 := below_box (Below.refl w.heap.size w) (.cells z5.toArray 56)
  obtain ⟨ok, hb1⟩ := hb0.stAll (vs := z5) rfl (fun v hv => zeroS v hv)
  have hag := (stW_agree (X := fun j => j = w.heap.size) (g := w.heap.size) rfl z5 (w.alloc (.cells #[nilS, nilS, nilS, nilS, .bool false] 56)) 0).to_below hB0 hB0.size fun j hj => by omega
  change Box (stW (w.alloc (.cells #[nilS, nilS, nilS, nilS, .bool false] 56)) _ _ _) _ _ at hb1
  change stOK (w.alloc (.cells #[nilS, nilS, nilS, nilS, .bool false] 56)) _ _ _ at ok
  have x0 := hb1.at (i := 0) rfl
  have x1 := hb1.at (i := 1) rfl
  have x2 := hb1.at (i := 2) rfl
  have x3 := hb1.at (i := 3) rfl
  have x4 := hb1.at (i := 4) rfl
  by_cases q1 : n = 0
  · have e1 : ((n : Int) = 0) = True := eq_true (by omega)
    refine calls_vc (rs := [.cell 4 56, .tmp 5]) Fa.mix Try.func24 rfl Try.ntmps24 rfl (by kernel_rfl) (Nat.le_of_ble_eq_true rfl) ?_
    simp -dsimp (maxSteps := 2000000) only [Fa.F24, e1, undef, tu, uf, ul, ur, rdSA_of x0, rdSN_of x0, rdSC_of x0, x0, rdSA_of x1, rdSN_of x1, rdSC_of x1, x1, rdSA_of x2, rdSN_of x2, rdSC_of x2, x2, rdSA_of x3, rdSN_of x3, rdSC_of x3, x3, rdB_of x4, x4, VC.Now, VC.vc, VC.lib, VC.mapN_drewN, VC.mapB_drewN, VC.regQ, VC.loopK, VC.reg, VC.opP, VC.opS, VC.opZ, VC.nomulB, VC.pv, VC.thenF, VC.blkF, VC.retF, VC.resV, VC.oneV, VC.evo, VC.bin, VC.binI, VC.cmpI, VC.arithI, VC.ldv, VC.slv, VC.pickP, VC.holds, VC.chainOf, VC.look, VC.junk, VC.put, VC.eff, VC.callee, VC.pureB, VC.rdK, VC.rdKs, VC.okKs, VC.eqKs, VC.fillL, VC.putL, VC.mixF, VC.setAll, Nat.reduceAdd, Nat.reduceSub, Nat.reduceMul, if_true, if_false, ↓reduceIte, forall_const, implies_true, reduceCtorEq, ne_eq, Nat.reduceBNe, Nat.reduceBEq, IntKind.signed, Nat.reduceEqDiff, Nat.reduceLeDiff, Nat.reduceLT, eq_self, Int.reduceEq, Int.reduceLT, Int.reduceLE, Int.reduceAdd, Int.reduceSub, VC.regC_nil, VC.regC_cons, VC.regCK_eq, VC.callQ, VC.tailQ, VC.goCall, VC.chStep]
    exact ⟨ok, hag⟩
  have e1 : ((n : Int) = 0) = False := eq_false (by omega)
  by_cases q2 : 6 < n
  · have e2 : ((6 : Int) < n) = True := eq_true (by omega)
    refine calls_vc (rs := [.cell 4 56, .tmp 5]) Fa.mix Try.func24 rfl Try.ntmps24 rfl (by kernel_rfl) (Nat.le_of_ble_eq_true rfl) ?_
    simp -dsimp (maxSteps := 2000000) only [Fa.F24, e1, e2, undef, tu, uf, ul, ur, rdSA_of x0, rdSN_of x0, rdSC_of x0, x0, rdSA_of x1, rdSN_of x1, rdSC_of x1, x1, rdSA_of x2, rdSN_of x2, rdSC_of x2, x2, rdSA_of x3, rdSN_of x3, rdSC_of x3, x3, rdB_of x4, x4, VC.Now, VC.vc, VC.lib, VC.mapN_drewN, VC.mapB_drewN, VC.regQ, VC.loopK, VC.reg, VC.opP, VC.opS, VC.opZ, VC.nomulB, VC.pv, VC.thenF, VC.blkF, VC.retF, VC.resV, VC.oneV, VC.evo, VC.bin, VC.binI, VC.cmpI, VC.arithI, VC.ldv, VC.slv, VC.pickP, VC.holds, VC.chainOf, VC.look, VC.junk, VC.put, VC.eff, VC.callee, VC.pureB, VC.rdK, VC.rdKs, VC.okKs, VC.eqKs, VC.fillL, VC.putL, VC.mixF, VC.setAll, Nat.reduceAdd, Nat.reduceSub, Nat.reduceMul, if_true, if_false, ↓reduceIte, forall_const, implies_true, reduceCtorEq, ne_eq, Nat.reduceBNe, Nat.reduceBEq, IntKind.signed, Nat.reduceEqDiff, Nat.reduceLeDiff, Nat.reduceLT, eq_self, Int.reduceEq, Int.reduceLT, Int.reduceLE, Int.reduceAdd, Int.reduceSub, VC.regC_nil, VC.regC_cons, VC.regCK_eq, VC.callQ, VC.tailQ, VC.goCall, VC.chStep]
    exact ⟨ok, hag⟩
  have e2 : ((6 : Int) < n) = False := eq_false (by omega)
  have e3 : ((120 : Int) < len) = True := eq_true (by omega)
  refine calls_vc (rs := [.cell 4 56, .tmp 5]) Fa.mix Try.func24 rfl Try.ntmps24 rfl (by kernel_rfl) (Nat.le_of_ble_eq_true rfl) ?_
  simp -dsimp (maxSteps := 2000000) only [Fa.F24, e1, e2, e3, undef, tu, uf, ul, ur, rdSA_of x0, rdSN_of x0, rdSC_of x0, x0, rdSA_of x1, rdSN_of x1, rdSC_of x1, x1, rdSA_of x2, rdSN_of x2, rdSC_of x2, x2, rdSA_of x3, rdSN_of x3, rdSC_of x3, x3, rdB_of x4, x4, VC.Now, VC.vc, VC.lib, VC.mapN_drewN, VC.mapB_drewN, VC.regQ, VC.loopK, VC.reg, VC.opP, VC.opS, VC.opZ, VC.nomulB, VC.pv, VC.thenF, VC.blkF, VC.retF, VC.resV, VC.oneV, VC.evo, VC.bin, VC.binI, VC.cmpI, VC.arithI, VC.ldv, VC.slv, VC.pickP, VC.holds, VC.chainOf, VC.look, VC.junk, VC.put, VC.eff, VC.callee, VC.pureB, VC.rdK, VC.rdKs, VC.okKs, VC.eqKs, VC.fillL, VC.putL, VC.mixF, VC.setAll, Nat.reduceAdd, Nat.reduceSub, Nat.reduceMul, if_true, if_false, ↓reduceIte, forall_const, implies_true, reduceCtorEq, ne_eq, Nat.reduceBNe, Nat.reduceBEq, IntKind.signed, Nat.reduceEqDiff, Nat.reduceLeDiff, Nat.reduceLT, eq_self, Int.reduceEq, Int.reduceLT, Int.reduceLE, Int.reduceAdd, Int.reduceSub, VC.regC_nil, VC.regC_cons, VC.regCK_eq, VC.callQ, VC.tailQ, VC.goCall, VC.chStep]
  exact ⟨ok, hag⟩
set_option maxRecDepth 8000 in
set_option maxHeartbeats 4000000 in
theorem snap_far (A : Option Addr) (n c0 : Nat) (A2 : Option Addr) (len cap : Nat) (m : Nat → Int) (w : World) (hv : RdT w A n 1 (fun i => [.int .i64 (m i)])) (h1 : 1 ≤ n) (hn : n ≤ 6) (hlen : len ≤ 120) (hf : farK m n = true) :
    Calls Try.prog 24 #[.slice A n c0, .slice A2 len cap] w fun e w' => e = .returned (.tuple #[.agg #[nilS, nilS, nilS, nilS, .bool false], .int .i64 2]) ∧ Below w.heap.size w w' := by
  have e1 : ((n : Int) = 0) = False := eq_false (by omega)
  have e2 : ((6 : Int) < n) = False := eq_false (by omega)
  have e3 : ((120 : Int) < len) = False := eq_false (by omega)
  have hb0 := Box.new w z5 56
  have hB0 := below_box (Below.refl w.heap.size w) (.cells z5.toArray 56)
  refine calls_vc (rs := [.cell 4 56, .tmp 5]) Fa.mix Try.func24 rfl Try.ntmps24 rfl (by kernel_rfl) (Nat.le_of_ble_eq_true rfl) ?_
  (repeat rw [vc_seq]); refine vc_plain _ fun Q hQ => ?_; simp -dsimp (maxSteps := 2000000) only [Fa.F24, e1, e2, e3, VC.Now, VC.vc_skip, VC.vc_ret, VC.vc_exit, VC.vc_block, VC.vc_cond, VC.vc_region, VC.lib, VC.mapN_drewN, VC.mapB_drewN, VC.regQ, VC.loopK, VC.reg, VC.opP, VC.opS, VC.opZ, VC.nomulB, VC.pv, VC.thenF, VC.blkF, VC.retF, VC.resV, VC.oneV, VC.evo, VC.bin, VC.binI, VC.cmpI, VC.arithI, VC.ldv, VC.slv, VC.pickP, VC.holds, VC.chainOf, VC.look, VC.junk, VC.put, VC.eff, VC.callee, VC.pureB, VC.rdK, VC.rdKs, VC.okKs, VC.eqKs, VC.fillL, VC.putL, VC.stW, VC.stOK, VC.mixF, VC.setAll, Nat.reduceAdd, Nat.reduceSub, Nat.reduceMul, if_true, if_false, ↓reduceIte, forall_const, implies_true, reduceCtorEq, ne_eq, Nat.reduceBNe, Nat.reduceBEq, IntKind.signed, Nat.reduceEqDiff, Nat.reduceLeDiff, Nat.reduceLT, eq_self, Int.reduceEq, Int.reduceLT, Int.reduceLE, Int.reduceAdd, Int.reduceSub, VC.regC_nil, VC.regC_cons, VC.regCK_eq, VC.callQ, VC.tailQ, VC.goCall, VC.chStep]
  change Q _ _ (w.alloc (.cells #[nilS, nilS, nilS, nilS, .bool false] 56))
  change Box (w.alloc (.cells #[nilS, nilS, nilS, nilS, .bool false] 56)) _ _ at hb0
  change Below _ w (w.alloc (.cells #[nilS, nilS, nilS, nilS, .bool false] 56)) at hB0
  generalize w.alloc (.cells #[nilS, nilS, nilS, nilS, .bool false] 56) = wa at hb0 hB0 ⊢
  generalize hrb : w.heap.size = rb at hb0 hB0 ⊢
  subst hQ
  simp -dsimp (maxSteps := 2000000) only [Fa.F24, e1, e2, e3, undef, tu, uf, ul, ur, VC.Now, VC.vc, VC.lib, VC.mapN_drewN, VC.mapB_drewN, VC.regQ, VC.loopK, VC.reg, VC.opP, VC.opS, VC.opZ, VC.nomulB, VC.pv, VC.thenF, VC.blkF, VC.retF, VC.resV, VC.oneV, VC.evo, VC.bin, VC.binI, VC.cmpI, VC.arithI, VC.ldv, VC.slv, VC.pickP, VC.holds, VC.chainOf, VC.look, VC.junk, VC.put, VC.eff, VC.callee, VC.pureB, VC.rdK, VC.rdKs, VC.okKs, VC.eqKs, VC.fillL, VC.putL, VC.mixF, VC.setAll, Nat.reduceAdd, Nat.reduceSub, Nat.reduceMul, if_true, if_false, ↓reduceIte, forall_const, implies_true, reduceCtorEq, ne_eq, Nat.reduceBNe, Nat.reduceBEq, IntKind.signed, Nat.reduceEqDiff, Nat.reduceLeDiff, Nat.reduceLT, eq_self, Int.reduceEq, Int.reduceLT, Int.reduceLE, Int.reduceAdd, Int.reduceSub, VC.regC_nil, VC.regC_cons, VC.regCK_eq, VC.callQ, VC.tailQ, VC.goCall, VC.chStep]
  intro u
  have hBa : Below w.heap.size w wa := by rw [hrb]; exact hB0
  have hrd := rd_of_tab (hv.below hBa)
  have hln : ((List.range n).map m).length = n := by simp
  have hcf := containsFuncI_any A c0 ((List.range n).map m) (fun x => decide (x < 0 ∨ 1000 < x)) 55 [] wa hrd (by rw [hln]; omega) (by kernel_rfl) (fun x hx wr hB => (far_any x wr).mono fun e w' ⟨h1, h2⟩ => ⟨h1, h2 ▸ Below.refl _ _⟩)
  rw [hln] at hcf
  have hany : (((List.range n).map m).any fun x => decide (x < 0 ∨ 1000 < x)) = true := hf
  rw [hany] at hcf
  refine CALL_of hcf fun w1 hB1 => ?_
  have hBb := hB0.trans (hB1.mono (by have := hb0.1; omega))
  have hb2 := hb0.below hB1
  obtain ⟨ok, hb1⟩ := hb2.stAll (vs := z5) rfl (fun v hv => zeroS v hv)
  have hag := (stW_agree (X := fun j => j = rb) (g := rb) rfl z5 w1 0).to_below hBb (by have := hb0.1; have := hB1.size; omega) fun j hj => by omega
  have x0 := hb1.at (i := 0) rfl
  have x1 := hb1.at (i := 1) rfl
  have x2 := hb1.at (i := 2) rfl
  have x3 := hb1.at (i := 3) rfl
  have x4 := hb1.at (i := 4) rfl
  rw [VC.Now, VC.seqK_eq]
  simp -dsimp (maxSteps := 2000000) only [Fa.F24, undef, tu, uf, ul, ur, rdSA_of x0, rdSN_of x0, rdSC_of x0, x0, rdSA_of x1, rdSN_of x1, rdSC_of x1, x1, rdSA_of x2, rdSN_of x2, rdSC_of x2, x2, rdSA_of x3, rdSN_of x3, rdSC_of x3, x3, rdB_of x4, x4, VC.Now, VC.vc, VC.lib, VC.mapN_drewN, VC.mapB_drewN, VC.regQ, VC.loopK, VC.reg, VC.opP, VC.opS, VC.opZ, VC.nomulB, VC.pv, VC.thenF, VC.blkF, VC.retF, VC.resV, VC.oneV, VC.evo, VC.bin, VC.binI, VC.cmpI, VC.arithI, VC.ldv, VC.slv, VC.pickP, VC.holds, VC.chainOf, VC.look, VC.junk, VC.put, VC.eff, VC.callee, VC.pureB, VC.rdK, VC.rdKs, VC.okKs, VC.eqKs, VC.fillL, VC.putL, VC.mixF, VC.setAll, Nat.reduceAdd, Nat.reduceSub, Nat.reduceMul, if_true, if_false, ↓reduceIte, forall_const, implies_true, reduceCtorEq, ne_eq, Nat.reduceBNe, Nat.reduceBEq, IntKind.signed, Nat.reduceEqDiff, Nat.reduceLeDiff, Nat.reduceLT, eq_self, Int.reduceEq, Int.reduceLT, Int.reduceLE, Int.reduceAdd, Int.reduceSub, VC.regC_nil, VC.regC_cons, VC.regCK_eq, VC.callQ, VC.tailQ, VC.goCall, VC.chStep]
  exact ⟨ok, by rw [hrb]; exact hag⟩
set_option maxRecDepth 8000 in
set_option maxHeartbeats 4000000 in
/-- The law, where too much is said. -/
theorem snap_law1 (A0 : Option Addr) (n c0 : Nat) (A : Option Addr) (len cap : Nat) (m : Nat → Int) (w : World) (hv : RdT w A0 n 1 (fun i => [.int .i64 (m i)])) (hl0 : n ≤ 9223372036854775807) (hbad : n = 0 ∨ 6 < n ∨ 120 < len) :
    Calls Try.prog 6 #[.slice A0 n c0, .slice A len cap] w fun e w' => e = .returned (.bool true) ∧ Below w.heap.size w w' := by
  refine calls_vc (rs := [.tmp 4]) Fa.mix Try.func6 rfl Try.ntmps6 rfl (by kernel_rfl) (Nat.le_of_ble_eq_true rfl) ?_
  (repeat rw [vc_seq]); refine vc_plain _ fun Q hQ => ?_; simp -dsimp (maxSteps := 2000000) only [Fa.F6, VC.Now, VC.vc_skip, VC.vc_ret, VC.vc_exit, VC.vc_block, VC.vc_cond, VC.vc_region, VC.lib, VC.mapN_drewN, VC.mapB_drewN, VC.regQ, VC.loopK, VC.reg, VC.opP, VC.opS, VC.opZ, VC.nomulB, VC.pv, VC.thenF, VC.blkF, VC.retF, VC.resV, VC.oneV, VC.evo, VC.bin, VC.binI, VC.cmpI, VC.arithI, VC.ldv, VC.slv, VC.pickP, VC.holds, VC.chainOf, VC.look, VC.junk, VC.put, VC.eff, VC.callee, VC.pureB, VC.rdK, VC.rdKs, VC.okKs, VC.eqKs, VC.fillL, VC.putL, VC.stW, VC.stOK, VC.mixF, VC.setAll, Nat.reduceAdd, Nat.reduceSub, Nat.reduceMul, if_true, if_false, ↓reduceIte, forall_const, implies_true, reduceCtorEq, ne_eq, Nat.reduceBNe, Nat.reduceBEq, IntKind.signed, Nat.reduceEqDiff, Nat.reduceLeDiff, Nat.reduceLT, eq_self, Int.reduceEq, Int.reduceLT, Int.reduceLE, Int.reduceAdd, Int.reduceSub, VC.regC_nil, VC.regC_cons, VC.regCK_eq, VC.callQ, VC.tailQ, VC.goCall, VC.chStep]
  subst hQ; simp -dsimp (maxSteps := 2000000) only [VC.Now, VC.vc_skip, VC.vc_ret, VC.vc_exit, VC.vc_block, VC.vc_cond, VC.vc_region, VC.lib, VC.mapN_drewN, VC.mapB_drewN, VC.regQ, VC.loopK, VC.reg, VC.opP, VC.opS, VC.opZ, VC.nomulB, VC.pv, VC.thenF, VC.blkF, VC.retF, VC.resV, VC.oneV, VC.evo, VC.bin, VC.binI, VC.cmpI, VC.arithI, VC.ldv, VC.slv, VC.pickP, VC.holds, VC.chainOf, VC.look, VC.junk, VC.put, VC.eff, VC.callee, VC.pureB, VC.rdK, VC.rdKs, VC.okKs, VC.eqKs, VC.fillL, VC.putL, VC.stW, VC.stOK, VC.mixF, VC.setAll, Nat.reduceAdd, Nat.reduceSub, Nat.reduceMul, if_true, if_false, ↓reduceIte, forall_const, implies_true, reduceCtorEq, ne_eq, Nat.reduceBNe, Nat.reduceBEq, IntKind.signed, Nat.reduceEqDiff, Nat.reduceLeDiff, Nat.reduceLT, eq_self, Int.reduceEq, Int.reduceLT, Int.reduceLE, Int.reduceAdd, Int.reduceSub, VC.regC_nil, VC.regC_cons, VC.regCK_eq, VC.callQ, VC.tailQ, VC.goCall, VC.chStep]; (repeat rw [vc_seq]); refine vc_plain _ fun Q hQ => ?_; simp -dsimp (maxSteps := 2000000) only [Fa.F6, VC.Now, VC.vc_skip, VC.vc_ret, VC.vc_exit, VC.vc_block, VC.vc_cond, VC.vc_region, VC.lib, VC.mapN_drewN, VC.mapB_drewN, VC.regQ, VC.loopK, VC.reg, VC.opP, VC.opS, VC.opZ, VC.nomulB, VC.pv, VC.thenF, VC.blkF, VC.retF, VC.resV, VC.oneV, VC.evo, VC.bin, VC.binI, VC.cmpI, VC.arithI, VC.ldv, VC.slv, VC.pickP, VC.holds, VC.chainOf, VC.look, VC.junk, VC.put, VC.eff, VC.callee, VC.pureB, VC.rdK, VC.rdKs, VC.okKs, VC.eqKs, VC.fillL, VC.putL, VC.stW, VC.stOK, VC.mixF, VC.setAll, Nat.reduceAdd, Nat.reduceSub, Nat.reduceMul, if_true, if_false, ↓reduceIte, forall_const, implies_true, reduceCtorEq, ne_eq, Nat.reduceBNe, Nat.reduceBEq, IntKind.signed, Nat.reduceEqDiff, Nat.reduceLeDiff, Nat.reduceLT, eq_self, Int.reduceEq, Int.reduceLT, Int.reduceLE, Int.reduceAdd, Int.reduceSub, VC.regC_nil, VC.regC_cons, VC.regCK_eq, VC.callQ, VC.tailQ, VC.goCall, VC.chStep]
  refine CALL_of (snap_large A0 n c0 A len cap w hbad) fun w1 hB1 => ?_
  rw [VC.Now, VC.seqK_eq]
  obtain ⟨f1, f2, f3⟩ := boxMade w1 z5 z5 56 rfl zeroS
  simp -dsimp (maxSteps := 2000000) only [Fa.F6, VC.Now, VC.vc_skip, VC.vc_ret, VC.vc_exit, VC.vc_block, VC.vc_cond, VC.vc_region, VC.lib, VC.mapN_drewN, VC.mapB_drewN, VC.regQ, VC.loopK, VC.reg, VC.opP, VC.opS, VC.opZ, VC.nomulB, VC.pv, VC.thenF, VC.blkF, VC.retF, VC.resV, VC.oneV, VC.evo, VC.bin, VC.binI, VC.cmpI, VC.arithI, VC.ldv, VC.slv, VC.pickP, VC.holds, VC.chainOf, VC.look, VC.junk, VC.put, VC.eff, VC.callee, VC.pureB, VC.rdK, VC.rdKs, VC.okKs, VC.eqKs, VC.fillL, VC.putL, VC.mixF, VC.setAll, Nat.reduceAdd, Nat.reduceSub, Nat.reduceMul, if_true, if_false, ↓reduceIte, forall_const, implies_true, reduceCtorEq, ne_eq, Nat.reduceBNe, Nat.reduceBEq, IntKind.signed, Nat.reduceEqDiff, Nat.reduceLeDiff, Nat.reduceLT, eq_self, Int.reduceEq, Int.reduceLT, Int.reduceLE, Int.reduceAdd, Int.reduceSub, VC.regC_nil, VC.regC_cons, VC.regCK_eq, VC.callQ, VC.tailQ, VC.goCall, VC.chStep]
  refine ⟨f1, ?_⟩
  clear f1
  generalize stW (w1.alloc (.cells #[nilS, nilS, nilS, nilS, .bool false] 56)) ⟨w1.heap.size, 0, none⟩ 0 z5 = w2 at *
  have hB2 := hB1.trans (f3.mono hB1.size)
  have bx := f2
  clear f2 f3
  generalize w1.heap.size = xb at *
  subst hQ; simp -dsimp (maxSteps := 2000000) only [VC.Now, VC.vc_skip, VC.vc_ret, VC.vc_exit, VC.vc_block, VC.vc_cond, VC.vc_region, VC.lib, VC.mapN_drewN, VC.mapB_drewN, VC.regQ, VC.loopK, VC.reg, VC.opP, VC.opS, VC.opZ, VC.nomulB, VC.pv, VC.thenF, VC.blkF, VC.retF, VC.resV, VC.oneV, VC.evo, VC.bin, VC.binI, VC.cmpI, VC.arithI, VC.ldv, VC.slv, VC.pickP, VC.holds, VC.chainOf, VC.look, VC.junk, VC.put, VC.eff, VC.callee, VC.pureB, VC.rdK, VC.rdKs, VC.okKs, VC.eqKs, VC.fillL, VC.putL, VC.stW, VC.stOK, VC.mixF, VC.setAll, Nat.reduceAdd, Nat.reduceSub, Nat.reduceMul, if_true, if_false, ↓reduceIte, forall_const, implies_true, reduceCtorEq, ne_eq, Nat.reduceBNe, Nat.reduceBEq, IntKind.signed, Nat.reduceEqDiff, Nat.reduceLeDiff, Nat.reduceLT, eq_self, Int.reduceEq, Int.reduceLT, Int.reduceLE, Int.reduceAdd, Int.reduceSub, VC.regC_nil, VC.regC_cons, VC.regCK_eq, VC.callQ, VC.tailQ, VC.goCall, VC.chStep]; (repeat rw [vc_seq]); refine vc_plain _ fun Q hQ => ?_; simp -dsimp (maxSteps := 2000000) only [Fa.F6, VC.Now, VC.vc_skip, VC.vc_ret, VC.vc_exit, VC.vc_block, VC.vc_cond, VC.vc_region, VC.lib, VC.mapN_drewN, VC.mapB_drewN, VC.regQ, VC.loopK, VC.reg, VC.opP, VC.opS, VC.opZ, VC.nomulB, VC.pv, VC.thenF, VC.blkF, VC.retF, VC.resV, VC.oneV, VC.evo, VC.bin, VC.binI, VC.cmpI, VC.arithI, VC.ldv, VC.slv, VC.pickP, VC.holds, VC.chainOf, VC.look, VC.junk, VC.put, VC.eff, VC.callee, VC.pureB, VC.rdK, VC.rdKs, VC.okKs, VC.eqKs, VC.fillL, VC.putL, VC.stW, VC.stOK, VC.mixF, VC.setAll, Nat.reduceAdd, Nat.reduceSub, Nat.reduceMul, if_true, if_false, ↓reduceIte, forall_const, implies_true, reduceCtorEq, ne_eq, Nat.reduceBNe, Nat.reduceBEq, IntKind.signed, Nat.reduceEqDiff, Nat.reduceLeDiff, Nat.reduceLT, eq_self, Int.reduceEq, Int.reduceLT, Int.reduceLE, Int.reduceAdd, Int.reduceSub, VC.regC_nil, VC.regC_cons, VC.regCK_eq, VC.callQ, VC.tailQ, VC.goCall, VC.chStep]
  by_cases q1 : n = 0
  · have e1 : ((n : Int) = 0) = True := eq_true (by omega)
    subst hQ
    simp -dsimp (maxSteps := 2000000) only [Fa.F6, e1, undef, tu, uf, ul, ur, VC.Now, VC.vc, VC.lib, VC.mapN_drewN, VC.mapB_drewN, VC.regQ, VC.loopK, VC.reg, VC.opP, VC.opS, VC.opZ, VC.nomulB, VC.pv, VC.thenF, VC.blkF, VC.retF, VC.resV, VC.oneV, VC.evo, VC.bin, VC.binI, VC.cmpI, VC.arithI, VC.ldv, VC.slv, VC.pickP, VC.holds, VC.chainOf, VC.look, VC.junk, VC.put, VC.eff, VC.callee, VC.pureB, VC.rdK, VC.rdKs, VC.okKs, VC.eqKs, VC.fillL, VC.putL, VC.stW, VC.stOK, VC.mixF, VC.setAll, Nat.reduceAdd, Nat.reduceSub, Nat.reduceMul, if_true, if_false, ↓reduceIte, forall_const, implies_true, reduceCtorEq, ne_eq, Nat.reduceBNe, Nat.reduceBEq, IntKind.signed, Nat.reduceEqDiff, Nat.reduceLeDiff, Nat.reduceLT, eq_self, Int.reduceEq, Int.reduceLT, Int.reduceLE, Int.reduceAdd, Int.reduceSub, VC.regC_nil, VC.regC_cons, VC.regCK_eq, VC.callQ, VC.tailQ, VC.goCall, VC.chStep]
    intro u9
    refine wp_plain fun Q5 hQ5 => ?_
    refine loop_slots Fa.mix [32, 7] [9, 33, 34, 35, 36, 37, 38, 39, 40, 41, 42, 43, 44, 45, 46] (fun mm vs wx => ∃ k : Nat, k + mm = n ∧ vs = [.int .i64 k, .int .i64 1] ∧ Below w.heap.size w wx ∧ Box wx xb z5) n (by kernel_rfl) rfl ⟨0, by omega, rfl, hB2, bx⟩ ?_
    rintro mm vs u wL ⟨k, hkm, rfl, hBL, bxL⟩
    by_cases hk : k < n
    · have e7 : ((k : Int) < n) = True := eq_true (by omega)
      obtain ⟨b, o, rfl, hb, hc⟩ := (hv.below hBL) (by omega)
      have s0 := hc k hk 0 _ rfl
      simp only [Nat.mul_one, Nat.add_zero] at s0
      clear hQ5
      simp -dsimp (maxSteps := 2000000) only [Fa.F6, e7, rdI_of s0, s0, hb, Int.toNat_natCast, undef, tu, uf, ul, ur, VC.Now, VC.vc, VC.lib, VC.mapN_drewN, VC.mapB_drewN, VC.regQ, VC.loopK, VC.reg, VC.opP, VC.opS, VC.opZ, VC.nomulB, VC.pv, VC.thenF, VC.blkF, VC.retF, VC.resV, VC.oneV, VC.evo, VC.bin, VC.binI, VC.cmpI, VC.arithI, VC.ldv, VC.slv, VC.pickP, VC.holds, VC.chainOf, VC.look, VC.junk, VC.put, VC.eff, VC.callee, VC.pureB, VC.rdK, VC.rdKs, VC.okKs, VC.eqKs, VC.fillL, VC.putL, VC.stW, VC.stOK, VC.mixF, VC.setAll, Nat.reduceAdd, Nat.reduceSub, Nat.reduceMul, if_true, if_false, ↓reduceIte, forall_const, implies_true, reduceCtorEq, ne_eq, Nat.reduceBNe, Nat.reduceBEq, IntKind.signed, Nat.reduceEqDiff, Nat.reduceLeDiff, Nat.reduceLT, eq_self, Int.reduceEq, Int.reduceLT, Int.reduceLE, Int.reduceAdd, Int.reduceSub, VC.regC_nil, VC.regC_cons, VC.regCK_eq, VC.callQ, VC.tailQ, VC.goCall, VC.chStep]
      refine ⟨by omega, ?_⟩
      intro u8
      exact ⟨fits_i64_nat (by omega), SAME.intro (by kernel_rfl), mm - 1, by omega, k + 1, by omega, rfl, hBL, bxL⟩
    have hkn : k = n := by omega
    have e7 : ((k : Int) < n) = False := eq_false (by omega)
    subst hQ5
    obtain ⟨f1, f2, f3⟩ := boxMade wL [nilS, nilS, nilS, nilS, .bool false] [nilS, nilS, nilS, nilS, .bool false] 56 rfl zeroS
    have bx := (bxL.below f3)
    have hB4 := hBL.trans (f3.mono hBL.size)
    have x0 := bx.at (i := 0) rfl
    have x1 := bx.at (i := 1) rfl
    have x2 := bx.at (i := 2) rfl
    have x3 := bx.at (i := 3) rfl
    have x4 := bx.at (i := 4) rfl
    have y0 := f2.at (i := 0) rfl
    have y1 := f2.at (i := 1) rfl
    have y2 := f2.at (i := 2) rfl
    have y3 := f2.at (i := 3) rfl
    have y4 := f2.at (i := 4) rfl
    have hlx := bx.1
    have hly := f2.1
    simp -dsimp (maxSteps := 2000000) only [Fa.F6, e7, hlx, hly, rdSA_of x0, rdSN_of x0, rdSC_of x0, x0, rdSA_of x1, rdSN_of x1, rdSC_of x1, x1, rdSA_of x2, rdSN_of x2, rdSC_of x2, x2, rdSA_of x3, rdSN_of x3, rdSC_of x3, x3, rdB_of x4, x4, rdSA_of y0, rdSN_of y0, rdSC_of y0, y0, rdSA_of y1, rdSN_of y1, rdSC_of y1, y1, rdSA_of y2, rdSN_of y2, rdSC_of y2, y2, rdSA_of y3, rdSN_of y3, rdSC_of y3, y3, rdB_of y4, y4, undef, tu, uf, ul, ur, VC.Now, VC.vc, VC.lib, VC.mapN_drewN, VC.mapB_drewN, VC.regQ, VC.loopK, VC.reg, VC.opP, VC.opS, VC.opZ, VC.nomulB, VC.pv, VC.thenF, VC.blkF, VC.retF, VC.resV, VC.oneV, VC.evo, VC.bin, VC.binI, VC.cmpI, VC.arithI, VC.ldv, VC.slv, VC.pickP, VC.holds, VC.chainOf, VC.look, VC.junk, VC.put, VC.eff, VC.callee, VC.pureB, VC.rdK, VC.rdKs, VC.okKs, VC.eqKs, VC.fillL, VC.putL, VC.mixF, VC.setAll, Nat.reduceAdd, Nat.reduceSub, Nat.reduceMul, if_true, if_false, ↓reduceIte, forall_const, implies_true, reduceCtorEq, ne_eq, Nat.reduceBNe, Nat.reduceBEq, IntKind.signed, Nat.reduceEqDiff, Nat.reduceLeDiff, Nat.reduceLT, eq_self, Int.reduceEq, Int.reduceLT, Int.reduceLE, Int.reduceAdd, Int.reduceSub, VC.regC_nil, VC.regC_cons, VC.regCK_eq, VC.callQ, VC.tailQ, VC.goCall, VC.chStep]
    refine ⟨f1, ?_⟩
    refine CALL_of (snaps_zero _) fun w5 hw5 => ?_
    rw [VC.Now, VC.seqK_eq]
    simp -dsimp (maxSteps := 2000000) only [Fa.F6, undef, tu, uf, ul, ur, VC.Now, VC.vc, VC.lib, VC.mapN_drewN, VC.mapB_drewN, VC.regQ, VC.loopK, VC.reg, VC.opP, VC.opS, VC.opZ, VC.nomulB, VC.pv, VC.thenF, VC.blkF, VC.retF, VC.resV, VC.oneV, VC.evo, VC.bin, VC.binI, VC.cmpI, VC.arithI, VC.ldv, VC.slv, VC.pickP, VC.holds, VC.chainOf, VC.look, VC.junk, VC.put, VC.eff, VC.callee, VC.pureB, VC.rdK, VC.rdKs, VC.okKs, VC.eqKs, VC.fillL, VC.putL, VC.stW, VC.stOK, VC.mixF, VC.setAll, Nat.reduceAdd, Nat.reduceSub, Nat.reduceMul, if_true, if_false, ↓reduceIte, forall_const, implies_true, reduceCtorEq, ne_eq, Nat.reduceBNe, Nat.reduceBEq, IntKind.signed, Nat.reduceEqDiff, Nat.reduceLeDiff, Nat.reduceLT, eq_self, Int.reduceEq, Int.reduceLT, Int.reduceLE, Int.reduceAdd, Int.reduceSub, VC.regC_nil, VC.regC_cons, VC.regCK_eq, VC.callQ, VC.tailQ, VC.goCall, VC.chStep]
    exact hB4.trans (hw5.mono hB4.size)
  have e1 : ((n : Int) = 0) = False := eq_false (by omega)
  by_cases q2 : 6 < n
  · have e2 : ((6 : Int) < n) = True := eq_true (by omega)
    subst hQ
    simp -dsimp (maxSteps := 2000000) only [Fa.F6, e1, e2, undef, tu, uf, ul, ur, VC.Now, VC.vc, VC.lib, VC.mapN_drewN, VC.mapB_drewN, VC.regQ, VC.loopK, VC.reg, VC.opP, VC.opS, VC.opZ, VC.nomulB, VC.pv, VC.thenF, VC.blkF, VC.retF, VC.resV, VC.oneV, VC.evo, VC.bin, VC.binI, VC.cmpI, VC.arithI, VC.ldv, VC.slv, VC.pickP, VC.holds, VC.chainOf, VC.look, VC.junk, VC.put, VC.eff, VC.callee, VC.pureB, VC.rdK, VC.rdKs, VC.okKs, VC.eqKs, VC.fillL, VC.putL, VC.stW, VC.stOK, VC.mixF, VC.setAll, Nat.reduceAdd, Nat.reduceSub, Nat.reduceMul, if_true, if_false, ↓reduceIte, forall_const, implies_true, reduceCtorEq, ne_eq, Nat.reduceBNe, Nat.reduceBEq, IntKind.signed, Nat.reduceEqDiff, Nat.reduceLeDiff, Nat.reduceLT, eq_self, Int.reduceEq, Int.reduceLT, Int.reduceLE, Int.reduceAdd, Int.reduceSub, VC.regC_nil, VC.regC_cons, VC.regCK_eq, VC.callQ, VC.tailQ, VC.goCall, VC.chStep]
    intro u9
    refine wp_plain fun Q5 hQ5 => ?_
    refine loop_slots Fa.mix [32, 7] [9, 33, 34, 35, 36, 37, 38, 39, 40, 41, 42, 43, 44, 45, 46] (fun mm vs wx => ∃ k : Nat, k + mm = n ∧ vs = [.int .i64 k, .int .i64 1] ∧ Below w.heap.size w wx ∧ Box wx xb z5) n (by kernel_rfl) rfl ⟨0, by omega, rfl, hB2, bx⟩ ?_
    rintro mm vs u wL ⟨k, hkm, rfl, hBL, bxL⟩
    by_cases hk : k < n
    · have e7 : ((k : Int) < n) = True := eq_true (by omega)
      obtain ⟨b, o, rfl, hb, hc⟩ := (hv.below hBL) (by omega)
      have s0 := hc k hk 0 _ rfl
      simp only [Nat.mul_one, Nat.add_zero] at s0
      clear hQ5
      simp -dsimp (maxSteps := 2000000) only [Fa.F6, e7, rdI_of s0, s0, hb, Int.toNat_natCast, undef, tu, uf, ul, ur, VC.Now, VC.vc, VC.lib, VC.mapN_drewN, VC.mapB_drewN, VC.regQ, VC.loopK, VC.reg, VC.opP, VC.opS, VC.opZ, VC.nomulB, VC.pv, VC.thenF, VC.blkF, VC.retF, VC.resV, VC.oneV, VC.evo, VC.bin, VC.binI, VC.cmpI, VC.arithI, VC.ldv, VC.slv, VC.pickP, VC.holds, VC.chainOf, VC.look, VC.junk, VC.put, VC.eff, VC.callee, VC.pureB, VC.rdK, VC.rdKs, VC.okKs, VC.eqKs, VC.fillL, VC.putL, VC.stW, VC.stOK, VC.mixF, VC.setAll, Nat.reduceAdd, Nat.reduceSub, Nat.reduceMul, if_true, if_false, ↓reduceIte, forall_const, implies_true, reduceCtorEq, ne_eq, Nat.reduceBNe, Nat.reduceBEq, IntKind.signed, Nat.reduceEqDiff, Nat.reduceLeDiff, Nat.reduceLT, eq_self, Int.reduceEq, Int.reduceLT, Int.reduceLE, Int.reduceAdd, Int.reduceSub, VC.regC_nil, VC.regC_cons, VC.regCK_eq, VC.callQ, VC.tailQ, VC.goCall, VC.chStep]
      refine ⟨by omega, ?_⟩
      intro u8
      exact ⟨fits_i64_nat (by omega), SAME.intro (by kernel_rfl), mm - 1, by omega, k + 1, by omega, rfl, hBL, bxL⟩
    have hkn : k = n := by omega
    have e7 : ((k : Int) < n) = False := eq_false (by omega)
    subst hQ5
    obtain ⟨f1, f2, f3⟩ := boxMade wL [nilS, nilS, nilS, nilS, .bool false] [nilS, nilS, nilS, nilS, .bool false] 56 rfl zeroS
    have bx := (bxL.below f3)
    have hB4 := hBL.trans (f3.mono hBL.size)
    have x0 := bx.at (i := 0) rfl
    have x1 := bx.at (i := 1) rfl
    have x2 := bx.at (i := 2) rfl
    have x3 := bx.at (i := 3) rfl
    have x4 := bx.at (i := 4) rfl
    have y0 := f2.at (i := 0) rfl
    have y1 := f2.at (i := 1) rfl
    have y2 := f2.at (i := 2) rfl
    have y3 := f2.at (i := 3) rfl
    have y4 := f2.at (i := 4) rfl
    have hlx := bx.1
    have hly := f2.1
    simp -dsimp (maxSteps := 2000000) only [Fa.F6, e7, hlx, hly, rdSA_of x0, rdSN_of x0, rdSC_of x0, x0, rdSA_of x1, rdSN_of x1, rdSC_of x1, x1, rdSA_of x2, rdSN_of x2, rdSC_of x2, x2, rdSA_of x3, rdSN_of x3, rdSC_of x3, x3, rdB_of x4, x4, rdSA_of y0, rdSN_of y0, rdSC_of y0, y0, rdSA_of y1, rdSN_of y1, rdSC_of y1, y1, rdSA_of y2, rdSN_of y2, rdSC_of y2, y2, rdSA_of y3, rdSN_of y3, rdSC_of y3, y3, rdB_of y4, y4, undef, tu, uf, ul, ur, VC.Now, VC.vc, VC.lib, VC.mapN_drewN, VC.mapB_drewN, VC.regQ, VC.loopK, VC.reg, VC.opP, VC.opS, VC.opZ, VC.nomulB, VC.pv, VC.thenF, VC.blkF, VC.retF, VC.resV, VC.oneV, VC.evo, VC.bin, VC.binI, VC.cmpI, VC.arithI, VC.ldv, VC.slv, VC.pickP, VC.holds, VC.chainOf, VC.look, VC.junk, VC.put, VC.eff, VC.callee, VC.pureB, VC.rdK, VC.rdKs, VC.okKs, VC.eqKs, VC.fillL, VC.putL, VC.mixF, VC.setAll, Nat.reduceAdd, Nat.reduceSub, Nat.reduceMul, if_true, if_false, ↓reduceIte, forall_const, implies_true, reduceCtorEq, ne_eq, Nat.reduceBNe, Nat.reduceBEq, IntKind.signed, Nat.reduceEqDiff, Nat.reduceLeDiff, Nat.reduceLT, eq_self, Int.reduceEq, Int.reduceLT, Int.reduceLE, Int.reduceAdd, Int.reduceSub, VC.regC_nil, VC.regC_cons, VC.regCK_eq, VC.callQ, VC.tailQ, VC.goCall, VC.chStep]
    refine ⟨f1, ?_⟩
    refine CALL_of (snaps_zero _) fun w5 hw5 => ?_
    rw [VC.Now, VC.seqK_eq]
    simp -dsimp (maxSteps := 2000000) only [Fa.F6, undef, tu, uf, ul, ur, VC.Now, VC.vc, VC.lib, VC.mapN_drewN, VC.mapB_drewN, VC.regQ, VC.loopK, VC.reg, VC.opP, VC.opS, VC.opZ, VC.nomulB, VC.pv, VC.thenF, VC.blkF, VC.retF, VC.resV, VC.oneV, VC.evo, VC.bin, VC.binI, VC.cmpI, VC.arithI, VC.ldv, VC.slv, VC.pickP, VC.holds, VC.chainOf, VC.look, VC.junk, VC.put, VC.eff, VC.callee, VC.pureB, VC.rdK, VC.rdKs, VC.okKs, VC.eqKs, VC.fillL, VC.putL, VC.stW, VC.stOK, VC.mixF, VC.setAll, Nat.reduceAdd, Nat.reduceSub, Nat.reduceMul, if_true, if_false, ↓reduceIte, forall_const, implies_true, reduceCtorEq, ne_eq, Nat.reduceBNe, Nat.reduceBEq, IntKind.signed, Nat.reduceEqDiff, Nat.reduceLeDiff, Nat.reduceLT, eq_self, Int.reduceEq, Int.reduceLT, Int.reduceLE, Int.reduceAdd, Int.reduceSub, VC.regC_nil, VC.regC_cons, VC.regCK_eq, VC.callQ, VC.tailQ, VC.goCall, VC.chStep]
    exact hB4.trans (hw5.mono hB4.size)
  have e2 : ((6 : Int) < n) = False := eq_false (by omega)
  have e3 : ((120 : Int) < len) = True := eq_true (by omega)
  subst hQ
  simp -dsimp (maxSteps := 2000000) only [Fa.F6, e1, e2, e3, undef, tu, uf, ul, ur, VC.Now, VC.vc, VC.lib, VC.mapN_drewN, VC.mapB_drewN, VC.regQ, VC.loopK, VC.reg, VC.opP, VC.opS, VC.opZ, VC.nomulB, VC.pv, VC.thenF, VC.blkF, VC.retF, VC.resV, VC.oneV, VC.evo, VC.bin, VC.binI, VC.cmpI, VC.arithI, VC.ldv, VC.slv, VC.pickP, VC.holds, VC.chainOf, VC.look, VC.junk, VC.put, VC.eff, VC.callee, VC.pureB, VC.rdK, VC.rdKs, VC.okKs, VC.eqKs, VC.fillL, VC.putL, VC.stW, VC.stOK, VC.mixF, VC.setAll, Nat.reduceAdd, Nat.reduceSub, Nat.reduceMul, if_true, if_false, ↓reduceIte, forall_const, implies_true, reduceCtorEq, ne_eq, Nat.reduceBNe, Nat.reduceBEq, IntKind.signed, Nat.reduceEqDiff, Nat.reduceLeDiff, Nat.reduceLT, eq_self, Int.reduceEq, Int.reduceLT, Int.reduceLE, Int.reduceAdd, Int.reduceSub, VC.regC_nil, VC.regC_cons, VC.regCK_eq, VC.callQ, VC.tailQ, VC.goCall, VC.chStep]
  intro u9
  refine wp_plain fun Q5 hQ5 => ?_
  refine loop_slots Fa.mix [32, 7] [9, 33, 34, 35, 36, 37, 38, 39, 40, 41, 42, 43, 44, 45, 46] (fun mm vs wx => ∃ k : Nat, k + mm = n ∧ vs = [.int .i64 k, .int .i64 1] ∧ Below w.heap.size w wx ∧ Box wx xb z5) n (by kernel_rfl) rfl ⟨0, by omega, rfl, hB2, bx⟩ ?_
  rintro mm vs u wL ⟨k, hkm, rfl, hBL, bxL⟩
  by_cases hk : k < n
  · have e7 : ((k : Int) < n) = True := eq_true (by omega)
    obtain ⟨b, o, rfl, hb, hc⟩ := (hv.below hBL) (by omega)
    have s0 := hc k hk 0 _ rfl
    simp only [Nat.mul_one, Nat.add_zero] at s0
    clear hQ5
    simp -dsimp (maxSteps := 2000000) only [Fa.F6, e7, rdI_of s0, s0, hb, Int.toNat_natCast, undef, tu, uf, ul, ur, VC.Now, VC.vc, VC.lib, VC.mapN_drewN, VC.mapB_drewN, VC.regQ, VC.loopK, VC.reg, VC.opP, VC.opS, VC.opZ, VC.nomulB, VC.pv, VC.thenF, VC.blkF, VC.retF, VC.resV, VC.oneV, VC.evo, VC.bin, VC.binI, VC.cmpI, VC.arithI, VC.ldv, VC.slv, VC.pickP, VC.holds, VC.chainOf, VC.look, VC.junk, VC.put, VC.eff, VC.callee, VC.pureB, VC.rdK, VC.rdKs, VC.okKs, VC.eqKs, VC.fillL, VC.putL, VC.stW, VC.stOK, VC.mixF, VC.setAll, Nat.reduceAdd, Nat.reduceSub, Nat.reduceMul, if_true, if_false, ↓reduceIte, forall_const, implies_true, reduceCtorEq, ne_eq, Nat.reduceBNe, Nat.reduceBEq, IntKind.signed, Nat.reduceEqDiff, Nat.reduceLeDiff, Nat.reduceLT, eq_self, Int.reduceEq, Int.reduceLT, Int.reduceLE, Int.reduceAdd, Int.reduceSub, VC.regC_nil, VC.regC_cons, VC.regCK_eq, VC.callQ, VC.tailQ, VC.goCall, VC.chStep]
    refine ⟨by omega, ?_⟩
    intro u8
    exact ⟨fits_i64_nat (by omega), SAME.intro (by kernel_rfl), mm - 1, by omega, k + 1, by omega, rfl, hBL, bxL⟩
  have hkn : k = n := by omega
  have e7 : ((k : Int) < n) = False := eq_false (by omega)
  subst hQ5
  obtain ⟨f1, f2, f3⟩ := boxMade wL [nilS, nilS, nilS, nilS, .bool false] [nilS, nilS, nilS, nilS, .bool false] 56 rfl zeroS
  have bx := (bxL.below f3)
  have hB4 := hBL.trans (f3.mono hBL.size)
  have x0 := bx.at (i := 0) rfl
  have x1 := bx.at (i := 1) rfl
  have x2 := bx.at (i := 2) rfl
  have x3 := bx.at (i := 3) rfl
  have x4 := bx.at (i := 4) rfl
  have y0 := f2.at (i := 0) rfl
  have y1 := f2.at (i := 1) rfl
  have y2 := f2.at (i := 2) rfl
  have y3 := f2.at (i := 3) rfl
  have y4 := f2.at (i := 4) rfl
  have hlx := bx.1
  have hly := f2.1
  simp -dsimp (maxSteps := 2000000) only [Fa.F6, e7, hlx, hly, rdSA_of x0, rdSN_of x0, rdSC_of x0, x0, rdSA_of x1, rdSN_of x1, rdSC_of x1, x1, rdSA_of x2, rdSN_of x2, rdSC_of x2, x2, rdSA_of x3, rdSN_of x3, rdSC_of x3, x3, rdB_of x4, x4, rdSA_of y0, rdSN_of y0, rdSC_of y0, y0, rdSA_of y1, rdSN_of y1, rdSC_of y1, y1, rdSA_of y2, rdSN_of y2, rdSC_of y2, y2, rdSA_of y3, rdSN_of y3, rdSC_of y3, y3, rdB_of y4, y4, undef, tu, uf, ul, ur, VC.Now, VC.vc, VC.lib, VC.mapN_drewN, VC.mapB_drewN, VC.regQ, VC.loopK, VC.reg, VC.opP, VC.opS, VC.opZ, VC.nomulB, VC.pv, VC.thenF, VC.blkF, VC.retF, VC.resV, VC.oneV, VC.evo, VC.bin, VC.binI, VC.cmpI, VC.arithI, VC.ldv, VC.slv, VC.pickP, VC.holds, VC.chainOf, VC.look, VC.junk, VC.put, VC.eff, VC.callee, VC.pureB, VC.rdK, VC.rdKs, VC.okKs, VC.eqKs, VC.fillL, VC.putL, VC.mixF, VC.setAll, Nat.reduceAdd, Nat.reduceSub, Nat.reduceMul, if_true, if_false, ↓reduceIte, forall_const, implies_true, reduceCtorEq, ne_eq, Nat.reduceBNe, Nat.reduceBEq, IntKind.signed, Nat.reduceEqDiff, Nat.reduceLeDiff, Nat.reduceLT, eq_self, Int.reduceEq, Int.reduceLT, Int.reduceLE, Int.reduceAdd, Int.reduceSub, VC.regC_nil, VC.regC_cons, VC.regCK_eq, VC.callQ, VC.tailQ, VC.goCall, VC.chStep]
  refine ⟨f1, ?_⟩
  refine CALL_of (snaps_zero _) fun w5 hw5 => ?_
  rw [VC.Now, VC.seqK_eq]
  simp -dsimp (maxSteps := 2000000) only [Fa.F6, undef, tu, uf, ul, ur, VC.Now, VC.vc, VC.lib, VC.mapN_drewN, VC.mapB_drewN, VC.regQ, VC.loopK, VC.reg, VC.opP, VC.opS, VC.opZ, VC.nomulB, VC.pv, VC.thenF, VC.blkF, VC.retF, VC.resV, VC.oneV, VC.evo, VC.bin, VC.binI, VC.cmpI, VC.arithI, VC.ldv, VC.slv, VC.pickP, VC.holds, VC.chainOf, VC.look, VC.junk, VC.put, VC.eff, VC.callee, VC.pureB, VC.rdK, VC.rdKs, VC.okKs, VC.eqKs, VC.fillL, VC.putL, VC.stW, VC.stOK, VC.mixF, VC.setAll, Nat.reduceAdd, Nat.reduceSub, Nat.reduceMul, if_true, if_false, ↓reduceIte, forall_const, implies_true, reduceCtorEq, ne_eq, Nat.reduceBNe, Nat.reduceBEq, IntKind.signed, Nat.reduceEqDiff, Nat.reduceLeDiff, Nat.reduceLT, eq_self, Int.reduceEq, Int.reduceLT, Int.reduceLE, Int.reduceAdd, Int.reduceSub, VC.regC_nil, VC.regC_cons, VC.regCK_eq, VC.callQ, VC.tailQ, VC.goCall, VC.chStep]
  exact hB4.trans (hw5.mono hB4.size)
set_option maxRecDepth 8000 in
set_option maxHeartbeats 4000000 in
/-- The law, where some have too much. -/
theorem snap_law2 (A0 : Option Addr) (n c0 : Nat) (A : Option Addr) (len cap : Nat) (m : Nat → Int) (w : World) (hv : RdT w A0 n 1 (fun i => [.int .i64 (m i)])) (h1 : 1 ≤ n) (hn : n ≤ 6) (hlen : len ≤ 120) (hf : farK m n = true) :
    Calls Try.prog 6 #[.slice A0 n c0, .slice A len cap] w fun e w' => e = .returned (.bool true) ∧ Below w.heap.size w w' := by
  refine calls_vc (rs := [.tmp 4]) Fa.mix Try.func6 rfl Try.ntmps6 rfl (by kernel_rfl) (Nat.le_of_ble_eq_true rfl) ?_
  (repeat rw [vc_seq]); refine vc_plain _ fun Q hQ => ?_; simp -dsimp (maxSteps := 2000000) only [Fa.F6, VC.Now, VC.vc_skip, VC.vc_ret, VC.vc_exit, VC.vc_block, VC.vc_cond, VC.vc_region, VC.lib, VC.mapN_drewN, VC.mapB_drewN, VC.regQ, VC.loopK, VC.reg, VC.opP, VC.opS, VC.opZ, VC.nomulB, VC.pv, VC.thenF, VC.blkF, VC.retF, VC.resV, VC.oneV, VC.evo, VC.bin, VC.binI, VC.cmpI, VC.arithI, VC.ldv, VC.slv, VC.pickP, VC.holds, VC.chainOf, VC.look, VC.junk, VC.put, VC.eff, VC.callee, VC.pureB, VC.rdK, VC.rdKs, VC.okKs, VC.eqKs, VC.fillL, VC.putL, VC.stW, VC.stOK, VC.mixF, VC.setAll, Nat.reduceAdd, Nat.reduceSub, Nat.reduceMul, if_true, if_false, ↓reduceIte, forall_const, implies_true, reduceCtorEq, ne_eq, Nat.reduceBNe, Nat.reduceBEq, IntKind.signed, Nat.reduceEqDiff, Nat.reduceLeDiff, Nat.reduceLT, eq_self, Int.reduceEq, Int.reduceLT, Int.reduceLE, Int.reduceAdd, Int.reduceSub, VC.regC_nil, VC.regC_cons, VC.regCK_eq, VC.callQ, VC.tailQ, VC.goCall, VC.chStep]
  subst hQ; simp -dsimp (maxSteps := 2000000) only [VC.Now, VC.vc_skip, VC.vc_ret, VC.vc_exit, VC.vc_block, VC.vc_cond, VC.vc_region, VC.lib, VC.mapN_drewN, VC.mapB_drewN, VC.regQ, VC.loopK, VC.reg, VC.opP, VC.opS, VC.opZ, VC.nomulB, VC.pv, VC.thenF, VC.blkF, VC.retF, VC.resV, VC.oneV, VC.evo, VC.bin, VC.binI, VC.cmpI, VC.arithI, VC.ldv, VC.slv, VC.pickP, VC.holds, VC.chainOf, VC.look, VC.junk, VC.put, VC.eff, VC.callee, VC.pureB, VC.rdK, VC.rdKs, VC.okKs, VC.eqKs, VC.fillL, VC.putL, VC.stW, VC.stOK, VC.mixF, VC.setAll, Nat.reduceAdd, Nat.reduceSub, Nat.reduceMul, if_true, if_false, ↓reduceIte, forall_const, implies_true, reduceCtorEq, ne_eq, Nat.reduceBNe, Nat.reduceBEq, IntKind.signed, Nat.reduceEqDiff, Nat.reduceLeDiff, Nat.reduceLT, eq_self, Int.reduceEq, Int.reduceLT, Int.reduceLE, Int.reduceAdd, Int.reduceSub, VC.regC_nil, VC.regC_cons, VC.regCK_eq, VC.callQ, VC.tailQ, VC.goCall, VC.chStep]; (repeat rw [vc_seq]); refine vc_plain _ fun Q hQ => ?_; simp -dsimp (maxSteps := 2000000) only [Fa.F6, VC.Now, VC.vc_skip, VC.vc_ret, VC.vc_exit, VC.vc_block, VC.vc_cond, VC.vc_region, VC.lib, VC.mapN_drewN, VC.mapB_drewN, VC.regQ, VC.loopK, VC.reg, VC.opP, VC.opS, VC.opZ, VC.nomulB, VC.pv, VC.thenF, VC.blkF, VC.retF, VC.resV, VC.oneV, VC.evo, VC.bin, VC.binI, VC.cmpI, VC.arithI, VC.ldv, VC.slv, VC.pickP, VC.holds, VC.chainOf, VC.look, VC.junk, VC.put, VC.eff, VC.callee, VC.pureB, VC.rdK, VC.rdKs, VC.okKs, VC.eqKs, VC.fillL, VC.putL, VC.stW, VC.stOK, VC.mixF, VC.setAll, Nat.reduceAdd, Nat.reduceSub, Nat.reduceMul, if_true, if_false, ↓reduceIte, forall_const, implies_true, reduceCtorEq, ne_eq, Nat.reduceBNe, Nat.reduceBEq, IntKind.signed, Nat.reduceEqDiff, Nat.reduceLeDiff, Nat.reduceLT, eq_self, Int.reduceEq, Int.reduceLT, Int.reduceLE, Int.reduceAdd, Int.reduceSub, VC.regC_nil, VC.regC_cons, VC.regCK_eq, VC.callQ, VC.tailQ, VC.goCall, VC.chStep]
  refine CALL_of (snap_far A0 n c0 A len cap m w hv h1 hn hlen hf) fun w1 hB1 => ?_
  rw [VC.Now, VC.seqK_eq]
  obtain ⟨f1, f2, f3⟩ := boxMade w1 z5 z5 56 rfl zeroS
  simp -dsimp (maxSteps := 2000000) only [Fa.F6, VC.Now, VC.vc_skip, VC.vc_ret, VC.vc_exit, VC.vc_block, VC.vc_cond, VC.vc_region, VC.lib, VC.mapN_drewN, VC.mapB_drewN, VC.regQ, VC.loopK, VC.reg, VC.opP, VC.opS, VC.opZ, VC.nomulB, VC.pv, VC.thenF, VC.blkF, VC.retF, VC.resV, VC.oneV, VC.evo, VC.bin, VC.binI, VC.cmpI, VC.arithI, VC.ldv, VC.slv, VC.pickP, VC.holds, VC.chainOf, VC.look, VC.junk, VC.put, VC.eff, VC.callee, VC.pureB, VC.rdK, VC.rdKs, VC.okKs, VC.eqKs, VC.fillL, VC.putL, VC.mixF, VC.setAll, Nat.reduceAdd, Nat.reduceSub, Nat.reduceMul, if_true, if_false, ↓reduceIte, forall_const, implies_true, reduceCtorEq, ne_eq, Nat.reduceBNe, Nat.reduceBEq, IntKind.signed, Nat.reduceEqDiff, Nat.reduceLeDiff, Nat.reduceLT, eq_self, Int.reduceEq, Int.reduceLT, Int.reduceLE, Int.reduceAdd, Int.reduceSub, VC.regC_nil, VC.regC_cons, VC.regCK_eq, VC.callQ, VC.tailQ, VC.goCall, VC.chStep]
  refine ⟨f1, ?_⟩
  clear f1
  generalize stW (w1.alloc (.cells #[nilS, nilS, nilS, nilS, .bool false] 56)) ⟨w1.heap.size, 0, none⟩ 0 z5 = w2 at *
  have hB2 := hB1.trans (f3.mono hB1.size)
  have bx := f2
  clear f2 f3
  generalize w1.heap.size = xb at *
  subst hQ; simp -dsimp (maxSteps := 2000000) only [VC.Now, VC.vc_skip, VC.vc_ret, VC.vc_exit, VC.vc_block, VC.vc_cond, VC.vc_region, VC.lib, VC.mapN_drewN, VC.mapB_drewN, VC.regQ, VC.loopK, VC.reg, VC.opP, VC.opS, VC.opZ, VC.nomulB, VC.pv, VC.thenF, VC.blkF, VC.retF, VC.resV, VC.oneV, VC.evo, VC.bin, VC.binI, VC.cmpI, VC.arithI, VC.ldv, VC.slv, VC.pickP, VC.holds, VC.chainOf, VC.look, VC.junk, VC.put, VC.eff, VC.callee, VC.pureB, VC.rdK, VC.rdKs, VC.okKs, VC.eqKs, VC.fillL, VC.putL, VC.stW, VC.stOK, VC.mixF, VC.setAll, Nat.reduceAdd, Nat.reduceSub, Nat.reduceMul, if_true, if_false, ↓reduceIte, forall_const, implies_true, reduceCtorEq, ne_eq, Nat.reduceBNe, Nat.reduceBEq, IntKind.signed, Nat.reduceEqDiff, Nat.reduceLeDiff, Nat.reduceLT, eq_self, Int.reduceEq, Int.reduceLT, Int.reduceLE, Int.reduceAdd, Int.reduceSub, VC.regC_nil, VC.regC_cons, VC.regCK_eq, VC.callQ, VC.tailQ, VC.goCall, VC.chStep]; (repeat rw [vc_seq]); refine vc_plain _ fun Q hQ => ?_; simp -dsimp (maxSteps := 2000000) only [Fa.F6, VC.Now, VC.vc_skip, VC.vc_ret, VC.vc_exit, VC.vc_block, VC.vc_cond, VC.vc_region, VC.lib, VC.mapN_drewN, VC.mapB_drewN, VC.regQ, VC.loopK, VC.reg, VC.opP, VC.opS, VC.opZ, VC.nomulB, VC.pv, VC.thenF, VC.blkF, VC.retF, VC.resV, VC.oneV, VC.evo, VC.bin, VC.binI, VC.cmpI, VC.arithI, VC.ldv, VC.slv, VC.pickP, VC.holds, VC.chainOf, VC.look, VC.junk, VC.put, VC.eff, VC.callee, VC.pureB, VC.rdK, VC.rdKs, VC.okKs, VC.eqKs, VC.fillL, VC.putL, VC.stW, VC.stOK, VC.mixF, VC.setAll, Nat.reduceAdd, Nat.reduceSub, Nat.reduceMul, if_true, if_false, ↓reduceIte, forall_const, implies_true, reduceCtorEq, ne_eq, Nat.reduceBNe, Nat.reduceBEq, IntKind.signed, Nat.reduceEqDiff, Nat.reduceLeDiff, Nat.reduceLT, eq_self, Int.reduceEq, Int.reduceLT, Int.reduceLE, Int.reduceAdd, Int.reduceSub, VC.regC_nil, VC.regC_cons, VC.regCK_eq, VC.callQ, VC.tailQ, VC.goCall, VC.chStep]
  have e1 : ((n : Int) = 0) = False := eq_false (by omega)
  have e2 : ((6 : Int) < n) = False := eq_false (by omega)
  have e3 : ((120 : Int) < len) = False := eq_false (by omega)
  subst hQ
  simp -dsimp (maxSteps := 2000000) only [Fa.F6, e1, e2, e3, undef, tu, uf, ul, ur, VC.Now, VC.vc, VC.lib, VC.mapN_drewN, VC.mapB_drewN, VC.regQ, VC.loopK, VC.reg, VC.opP, VC.opS, VC.opZ, VC.nomulB, VC.pv, VC.thenF, VC.blkF, VC.retF, VC.resV, VC.oneV, VC.evo, VC.bin, VC.binI, VC.cmpI, VC.arithI, VC.ldv, VC.slv, VC.pickP, VC.holds, VC.chainOf, VC.look, VC.junk, VC.put, VC.eff, VC.callee, VC.pureB, VC.rdK, VC.rdKs, VC.okKs, VC.eqKs, VC.fillL, VC.putL, VC.stW, VC.stOK, VC.mixF, VC.setAll, Nat.reduceAdd, Nat.reduceSub, Nat.reduceMul, if_true, if_false, ↓reduceIte, forall_const, implies_true, reduceCtorEq, ne_eq, Nat.reduceBNe, Nat.reduceBEq, IntKind.signed, Nat.reduceEqDiff, Nat.reduceLeDiff, Nat.reduceLT, eq_self, Int.reduceEq, Int.reduceLT, Int.reduceLE, Int.reduceAdd, Int.reduceSub, VC.regC_nil, VC.regC_cons, VC.regCK_eq, VC.callQ, VC.tailQ, VC.goCall, VC.chStep]
  intro u9
  refine wp_plain fun Q5 hQ5 => ?_
  refine loop_slots Fa.mix [32, 7] [9, 33, 34, 35, 36, 37, 38, 39, 40, 41, 42, 43, 44, 45, 46] (fun mm vs wx => ∃ k : Nat, k + mm = n ∧ vs = [.int .i64 k, .int .i64 (xK m k)] ∧ wx = w2) n (by kernel_rfl) rfl ⟨0, by omega, rfl, rfl⟩ ?_
  rintro mm vs u wL ⟨k, hkm, rfl, rfl⟩
  by_cases hk : k < n
  · have e7 : ((k : Int) < n) = True := eq_true (by omega)
    obtain ⟨b, o, rfl, hb, hc⟩ := (hv.below hB2) (by omega)
    have s0 := hc k hk 0 _ rfl
    simp only [Nat.mul_one, Nat.add_zero] at s0
    clear hQ5
    cases hfk : farK m k with
    | true =>
      have ex : xK m k = 2 := by unfold xK; rw [hfk]; rfl
      have ex2 : xK m (k + 1) = 2 := by unfold xK; rw [farK_succ, hfk]; rfl
      rw [ex]
      simp -dsimp (maxSteps := 2000000) only [Fa.F6, e7, rdI_of s0, s0, hb, Int.toNat_natCast, undef, tu, uf, ul, ur, VC.Now, VC.vc, VC.lib, VC.mapN_drewN, VC.mapB_drewN, VC.regQ, VC.loopK, VC.reg, VC.opP, VC.opS, VC.opZ, VC.nomulB, VC.pv, VC.thenF, VC.blkF, VC.retF, VC.resV, VC.oneV, VC.evo, VC.bin, VC.binI, VC.cmpI, VC.arithI, VC.ldv, VC.slv, VC.pickP, VC.holds, VC.chainOf, VC.look, VC.junk, VC.put, VC.eff, VC.callee, VC.pureB, VC.rdK, VC.rdKs, VC.okKs, VC.eqKs, VC.fillL, VC.putL, VC.stW, VC.stOK, VC.mixF, VC.setAll, Nat.reduceAdd, Nat.reduceSub, Nat.reduceMul, if_true, if_false, ↓reduceIte, forall_const, implies_true, reduceCtorEq, ne_eq, Nat.reduceBNe, Nat.reduceBEq, IntKind.signed, Nat.reduceEqDiff, Nat.reduceLeDiff, Nat.reduceLT, eq_self, Int.reduceEq, Int.reduceLT, Int.reduceLE, Int.reduceAdd, Int.reduceSub, VC.regC_nil, VC.regC_cons, VC.regCK_eq, VC.callQ, VC.tailQ, VC.goCall, VC.chStep]
      refine ⟨by omega, ?_⟩
      first | exact ⟨fits_i64_nat (by omega), SAME.intro (by kernel_rfl), mm - 1, by omega, k + 1, by omega, by rw [ex2]; rfl⟩ | (intro u8; exact ⟨fits_i64_nat (by omega), SAME.intro (by kernel_rfl), mm - 1, by omega, k + 1, by omega, by rw [ex2]; rfl⟩)
    | false =>
      have ex : xK m k = 0 := by unfold xK; rw [hfk]; rfl
      rw [ex]
      by_cases q1 : m k < 0
      · have ex2 : xK m (k + 1) = 2 := by unfold xK; rw [farK_succ, hfk, show farI (m k) = true from decide_eq_true (Or.inl q1)]; rfl
        have c1 := eq_true q1
        simp -dsimp (maxSteps := 2000000) only [Fa.F6, e7, rdI_of s0, s0, hb, c1, Int.toNat_natCast, undef, tu, uf, ul, ur, VC.Now, VC.vc, VC.lib, VC.mapN_drewN, VC.mapB_drewN, VC.regQ, VC.loopK, VC.reg, VC.opP, VC.opS, VC.opZ, VC.nomulB, VC.pv, VC.thenF, VC.blkF, VC.retF, VC.resV, VC.oneV, VC.evo, VC.bin, VC.binI, VC.cmpI, VC.arithI, VC.ldv, VC.slv, VC.pickP, VC.holds, VC.chainOf, VC.look, VC.junk, VC.put, VC.eff, VC.callee, VC.pureB, VC.rdK, VC.rdKs, VC.okKs, VC.eqKs, VC.fillL, VC.putL, VC.stW, VC.stOK, VC.mixF, VC.setAll, Nat.reduceAdd, Nat.reduceSub, Nat.reduceMul, if_true, if_false, ↓reduceIte, forall_const, implies_true, reduceCtorEq, ne_eq, Nat.reduceBNe, Nat.reduceBEq, IntKind.signed, Nat.reduceEqDiff, Nat.reduceLeDiff, Nat.reduceLT, eq_self, Int.reduceEq, Int.reduceLT, Int.reduceLE, Int.reduceAdd, Int.reduceSub, VC.regC_nil, VC.regC_cons, VC.regCK_eq, VC.callQ, VC.tailQ, VC.goCall, VC.chStep]
        refine ⟨by omega, ?_⟩
        first | exact ⟨fits_i64_nat (by omega), SAME.intro (by kernel_rfl), mm - 1, by omega, k + 1, by omega, by rw [ex2]; rfl⟩ | (intro u8; exact ⟨fits_i64_nat (by omega), SAME.intro (by kernel_rfl), mm - 1, by omega, k + 1, by omega, by rw [ex2]; rfl⟩)
      have c1 := eq_false q1
      by_cases q2 : 1000 < m k
      · have ex2 : xK m (k + 1) = 2 := by unfold xK; rw [farK_succ, hfk, show farI (m k) = true from decide_eq_true (Or.inr q2)]; rfl
        have c2 := eq_true q2
        simp -dsimp (maxSteps := 2000000) only [Fa.F6, e7, rdI_of s0, s0, hb, c1, c2, Int.toNat_natCast, undef, tu, uf, ul, ur, VC.Now, VC.vc, VC.lib, VC.mapN_drewN, VC.mapB_drewN, VC.regQ, VC.loopK, VC.reg, VC.opP, VC.opS, VC.opZ, VC.nomulB, VC.pv, VC.thenF, VC.blkF, VC.retF, VC.resV, VC.oneV, VC.evo, VC.bin, VC.binI, VC.cmpI, VC.arithI, VC.ldv, VC.slv, VC.pickP, VC.holds, VC.chainOf, VC.look, VC.junk, VC.put, VC.eff, VC.callee, VC.pureB, VC.rdK, VC.rdKs, VC.okKs, VC.eqKs, VC.fillL, VC.putL, VC.stW, VC.stOK, VC.mixF, VC.setAll, Nat.reduceAdd, Nat.reduceSub, Nat.reduceMul, if_true, if_false, ↓reduceIte, forall_const, implies_true, reduceCtorEq, ne_eq, Nat.reduceBNe, Nat.reduceBEq, IntKind.signed, Nat.reduceEqDiff, Nat.reduceLeDiff, Nat.reduceLT, eq_self, Int.reduceEq, Int.reduceLT, Int.reduceLE, Int.reduceAdd, Int.reduceSub, VC.regC_nil, VC.regC_cons, VC.regCK_eq, VC.callQ, VC.tailQ, VC.goCall, VC.chStep]
        refine ⟨by omega, ?_⟩
        first | exact ⟨fits_i64_nat (by omega), SAME.intro (by kernel_rfl), mm - 1, by omega, k + 1, by omega, by rw [ex2]; rfl⟩ | (intro u8; exact ⟨fits_i64_nat (by omega), SAME.intro (by kernel_rfl), mm - 1, by omega, k + 1, by omega, by rw [ex2]; rfl⟩)
      have ex2 : xK m (k + 1) = 0 := by unfold xK; rw [farK_succ, hfk, show farI (m k) = false from decide_eq_false (fun h => h.elim q1 q2)]; rfl
      have c2 := eq_false q2
      simp -dsimp (maxSteps := 2000000) only [Fa.F6, e7, rdI_of s0, s0, hb, c1, c2, Int.toNat_natCast, undef, tu, uf, ul, ur, VC.Now, VC.vc, VC.lib, VC.mapN_drewN, VC.mapB_drewN, VC.regQ, VC.loopK, VC.reg, VC.opP, VC.opS, VC.opZ, VC.nomulB, VC.pv, VC.thenF, VC.blkF, VC.retF, VC.resV, VC.oneV, VC.evo, VC.bin, VC.binI, VC.cmpI, VC.arithI, VC.ldv, VC.slv, VC.pickP, VC.holds, VC.chainOf, VC.look, VC.junk, VC.put, VC.eff, VC.callee, VC.pureB, VC.rdK, VC.rdKs, VC.okKs, VC.eqKs, VC.fillL, VC.putL, VC.stW, VC.stOK, VC.mixF, VC.setAll, Nat.reduceAdd, Nat.reduceSub, Nat.reduceMul, if_true, if_false, ↓reduceIte, forall_const, implies_true, reduceCtorEq, ne_eq, Nat.reduceBNe, Nat.reduceBEq, IntKind.signed, Nat.reduceEqDiff, Nat.reduceLeDiff, Nat.reduceLT, eq_self, Int.reduceEq, Int.reduceLT, Int.reduceLE, Int.reduceAdd, Int.reduceSub, VC.regC_nil, VC.regC_cons, VC.regCK_eq, VC.callQ, VC.tailQ, VC.goCall, VC.chStep]
      refine ⟨by omega, ?_⟩
      first | exact ⟨fits_i64_nat (by omega), SAME.intro (by kernel_rfl), mm - 1, by omega, k + 1, by omega, by rw [ex2]; rfl⟩ | (intro u8; exact ⟨fits_i64_nat (by omega), SAME.intro (by kernel_rfl), mm - 1, by omega, k + 1, by omega, by rw [ex2]; rfl⟩)
  obtain rfl : k = n := by omega
  have e7 : ((k : Int) < k) = False := eq_false (by omega)
  subst hQ5
  have ex : xK m k = 2 := by unfold xK; rw [hf]; rfl
  rw [ex]
  have bxL := bx
  have hBL := hB2
  obtain ⟨f1, f2, f3⟩ := boxMade wL [nilS, nilS, nilS, nilS, .bool false] [nilS, nilS, nilS, nilS, .bool false] 56 rfl zeroS
  have bx := (bxL.below f3)
  have hB4 := hBL.trans (f3.mono hBL.size)
  have x0 := bx.at (i := 0) rfl
  have x1 := bx.at (i := 1) rfl
  have x2 := bx.at (i := 2) rfl
  have x3 := bx.at (i := 3) rfl
  have x4 := bx.at (i := 4) rfl
  have y0 := f2.at (i := 0) rfl
  have y1 := f2.at (i := 1) rfl
  have y2 := f2.at (i := 2) rfl
  have y3 := f2.at (i := 3) rfl
  have y4 := f2.at (i := 4) rfl
  have hlx := bx.1
  have hly := f2.1
  simp -dsimp (maxSteps := 2000000) only [Fa.F6, e7, hlx, hly, rdSA_of x0, rdSN_of x0, rdSC_of x0, x0, rdSA_of x1, rdSN_of x1, rdSC_of x1, x1, rdSA_of x2, rdSN_of x2, rdSC_of x2, x2, rdSA_of x3, rdSN_of x3, rdSC_of x3, x3, rdB_of x4, x4, rdSA_of y0, rdSN_of y0, rdSC_of y0, y0, rdSA_of y1, rdSN_of y1, rdSC_of y1, y1, rdSA_of y2, rdSN_of y2, rdSC_of y2, y2, rdSA_of y3, rdSN_of y3, rdSC_of y3, y3, rdB_of y4, y4, undef, tu, uf, ul, ur, VC.Now, VC.vc, VC.lib, VC.mapN_drewN, VC.mapB_drewN, VC.regQ, VC.loopK, VC.reg, VC.opP, VC.opS, VC.opZ, VC.nomulB, VC.pv, VC.thenF, VC.blkF, VC.retF, VC.resV, VC.oneV, VC.evo, VC.bin, VC.binI, VC.cmpI, VC.arithI, VC.ldv, VC.slv, VC.pickP, VC.holds, VC.chainOf, VC.look, VC.junk, VC.put, VC.eff, VC.callee, VC.pureB, VC.rdK, VC.rdKs, VC.okKs, VC.eqKs, VC.fillL, VC.putL, VC.mixF, VC.setAll, Nat.reduceAdd, Nat.reduceSub, Nat.reduceMul, if_true, if_false, ↓reduceIte, forall_const, implies_true, reduceCtorEq, ne_eq, Nat.reduceBNe, Nat.reduceBEq, IntKind.signed, Nat.reduceEqDiff, Nat.reduceLeDiff, Nat.reduceLT, eq_self, Int.reduceEq, Int.reduceLT, Int.reduceLE, Int.reduceAdd, Int.reduceSub, VC.regC_nil, VC.regC_cons, VC.regCK_eq, VC.callQ, VC.tailQ, VC.goCall, VC.chStep]
  refine ⟨f1, ?_⟩
  refine CALL_of (snaps_zero _) fun w5 hw5 => ?_
  rw [VC.Now, VC.seqK_eq]
  simp -dsimp (maxSteps := 2000000) only [Fa.F6, undef, tu, uf, ul, ur, VC.Now, VC.vc, VC.lib, VC.mapN_drewN, VC.mapB_drewN, VC.regQ, VC.loopK, VC.reg, VC.opP, VC.opS, VC.opZ, VC.nomulB, VC.pv, VC.thenF, VC.blkF, VC.retF, VC.resV, VC.oneV, VC.evo, VC.bin, VC.binI, VC.cmpI, VC.arithI, VC.ldv, VC.slv, VC.pickP, VC.holds, VC.chainOf, VC.look, VC.junk, VC.put, VC.eff, VC.callee, VC.pureB, VC.rdK, VC.rdKs, VC.okKs, VC.eqKs, VC.fillL, VC.putL, VC.stW, VC.stOK, VC.mixF, VC.setAll, Nat.reduceAdd, Nat.reduceSub, Nat.reduceMul, if_true, if_false, ↓reduceIte, forall_const, implies_true, reduceCtorEq, ne_eq, Nat.reduceBNe, Nat.reduceBEq, IntKind.signed, Nat.reduceEqDiff, Nat.reduceLeDiff, Nat.reduceLT, eq_self, Int.reduceEq, Int.reduceLT, Int.reduceLE, Int.reduceAdd, Int.reduceSub, VC.regC_nil, VC.regC_cons, VC.regCK_eq, VC.callQ, VC.tailQ, VC.goCall, VC.chStep]
  exact hB4.trans (hw5.mono hB4.size)
set_option maxRecDepth 8000 in
set_option maxHeartbeats 4000000 in
/-- The law, where nothing is wrong. -/
theorem snap_law3 (A0 : Option Addr) (n c0 : Nat) (A : Option Addr) (len cap : Nat) (m : Nat → Int) (g : Nat → PassC) (w : World) (hv : RdT w A0 n 1 (fun i => [.int .i64 (m i)])) (hm : ∀ i, 0 ≤ m i ∧ m i ≤ 1000) (hr : RdT w A len 4 (fun i => passL (g i))) (hgf : ∀ i, fits .i64 (g i).n) (h1 : 1 ≤ n) (hn : n ≤ 6) (hlen : len ≤ 120) :
    Calls Try.prog 6 #[.slice A0 n c0, .slice A len cap] w fun e w' => e = .returned (.bool true) ∧ Below w.heap.size w w' := by
  refine calls_vc (rs := [.tmp 4]) Fa.mix Try.func6 rfl Try.ntmps6 rfl (by kernel_rfl) (Nat.le_of_ble_eq_true rfl) ?_
  (repeat rw [vc_seq]); refine vc_plain _ fun Q hQ => ?_; simp -dsimp (maxSteps := 2000000) only [Fa.F6, VC.Now, VC.vc_skip, VC.vc_ret, VC.vc_exit, VC.vc_block, VC.vc_cond, VC.vc_region, VC.lib, VC.mapN_drewN, VC.mapB_drewN, VC.regQ, VC.loopK, VC.reg, VC.opP, VC.opS, VC.opZ, VC.nomulB, VC.pv, VC.thenF, VC.blkF, VC.retF, VC.resV, VC.oneV, VC.evo, VC.bin, VC.binI, VC.cmpI, VC.arithI, VC.ldv, VC.slv, VC.pickP, VC.holds, VC.chainOf, VC.look, VC.junk, VC.put, VC.eff, VC.callee, VC.pureB, VC.rdK, VC.rdKs, VC.okKs, VC.eqKs, VC.fillL, VC.putL, VC.stW, VC.stOK, VC.mixF, VC.setAll, Nat.reduceAdd, Nat.reduceSub, Nat.reduceMul, if_true, if_false, ↓reduceIte, forall_const, implies_true, reduceCtorEq, ne_eq, Nat.reduceBNe, Nat.reduceBEq, IntKind.signed, Nat.reduceEqDiff, Nat.reduceLeDiff, Nat.reduceLT, eq_self, Int.reduceEq, Int.reduceLT, Int.reduceLE, Int.reduceAdd, Int.reduceSub, VC.regC_nil, VC.regC_cons, VC.regCK_eq, VC.callQ, VC.tailQ, VC.goCall, VC.chStep]
  subst hQ; simp -dsimp (maxSteps := 2000000) only [VC.Now, VC.vc_skip, VC.vc_ret, VC.vc_exit, VC.vc_block, VC.vc_cond, VC.vc_region, VC.lib, VC.mapN_drewN, VC.mapB_drewN, VC.regQ, VC.loopK, VC.reg, VC.opP, VC.opS, VC.opZ, VC.nomulB, VC.pv, VC.thenF, VC.blkF, VC.retF, VC.resV, VC.oneV, VC.evo, VC.bin, VC.binI, VC.cmpI, VC.arithI, VC.ldv, VC.slv, VC.pickP, VC.holds, VC.chainOf, VC.look, VC.junk, VC.put, VC.eff, VC.callee, VC.pureB, VC.rdK, VC.rdKs, VC.okKs, VC.eqKs, VC.fillL, VC.putL, VC.stW, VC.stOK, VC.mixF, VC.setAll, Nat.reduceAdd, Nat.reduceSub, Nat.reduceMul, if_true, if_false, ↓reduceIte, forall_const, implies_true, reduceCtorEq, ne_eq, Nat.reduceBNe, Nat.reduceBEq, IntKind.signed, Nat.reduceEqDiff, Nat.reduceLeDiff, Nat.reduceLT, eq_self, Int.reduceEq, Int.reduceLT, Int.reduceLE, Int.reduceAdd, Int.reduceSub, VC.regC_nil, VC.regC_cons, VC.regCK_eq, VC.callQ, VC.tailQ, VC.goCall, VC.chStep]; (repeat rw [vc_seq]); refine vc_plain _ fun Q hQ => ?_; simp -dsimp (maxSteps := 2000000) only [Fa.F6, VC.Now, VC.vc_skip, VC.vc_ret, VC.vc_exit, VC.vc_block, VC.vc_cond, VC.vc_region, VC.lib, VC.mapN_drewN, VC.mapB_drewN, VC.regQ, VC.loopK, VC.reg, VC.opP, VC.opS, VC.opZ, VC.nomulB, VC.pv, VC.thenF, VC.blkF, VC.retF, VC.resV, VC.oneV, VC.evo, VC.bin, VC.binI, VC.cmpI, VC.arithI, VC.ldv, VC.slv, VC.pickP, VC.holds, VC.chainOf, VC.look, VC.junk, VC.put, VC.eff, VC.callee, VC.pureB, VC.rdK, VC.rdKs, VC.okKs, VC.eqKs, VC.fillL, VC.putL, VC.stW, VC.stOK, VC.mixF, VC.setAll, Nat.reduceAdd, Nat.reduceSub, Nat.reduceMul, if_true, if_false, ↓reduceIte, forall_const, implies_true, reduceCtorEq, ne_eq, Nat.reduceBNe, Nat.reduceBEq, IntKind.signed, Nat.reduceEqDiff, Nat.reduceLeDiff, Nat.reduceLT, eq_self, Int.reduceEq, Int.reduceLT, Int.reduceLE, Int.reduceAdd, Int.reduceSub, VC.regC_nil, VC.regC_cons, VC.regCK_eq, VC.callQ, VC.tailQ, VC.goCall, VC.chStep]
  refine CALL_by (snapP_any A0 n c0 A len cap m g w hv hm hr hgf h1 hn hlen) ?_
  rintro _ w1 ⟨v, rfl, hsq, hB1⟩
  refine ⟨_, rfl, ?_⟩
  have hdc := fun (w4 : World) (hB4 : Below w.heap.size w w4) => snapD_any (A := A0) (n := n) (c0 := c0) (A2 := A) (len := len) (cap := cap) (m := m) (g := g) (hv.below hB4) hm (hr.below hB4) hgf h1 hn hlen
  have hrow : ∀ x ∈ btwS n (nst n m g len), x.length ≤ 1000 := fun x hx => Nat.le_trans (btwS_row (nst_inv (n := n) (m := m) (g := g) hn hm len) x hx) (by omega)
  generalize (List.range len).map (ncode n m g) = codes at hsq hdc
  generalize nst n m g len = s at hsq hdc hrow
  obtain ⟨A1, c1, A2, c2, A3, c3, A4, c4, rfl, _⟩ := id hsq
  rw [VC.Now, VC.seqK_eq]
  obtain ⟨f1, f2, f3⟩ := boxMade w1 z5 [.slice A1 len c1, .slice A2 n c2, .slice A3 n c3, .slice A4 (n * n) c4, .bool (doneS n s)] 56 rfl oneS
  simp -dsimp (maxSteps := 2000000) only [Fa.F6, VC.Now, VC.vc_skip, VC.vc_ret, VC.vc_exit, VC.vc_block, VC.vc_cond, VC.vc_region, VC.lib, VC.mapN_drewN, VC.mapB_drewN, VC.regQ, VC.loopK, VC.reg, VC.opP, VC.opS, VC.opZ, VC.nomulB, VC.pv, VC.thenF, VC.blkF, VC.retF, VC.resV, VC.oneV, VC.evo, VC.bin, VC.binI, VC.cmpI, VC.arithI, VC.ldv, VC.slv, VC.pickP, VC.holds, VC.chainOf, VC.look, VC.junk, VC.put, VC.eff, VC.callee, VC.pureB, VC.rdK, VC.rdKs, VC.okKs, VC.eqKs, VC.fillL, VC.putL, VC.mixF, VC.setAll, Nat.reduceAdd, Nat.reduceSub, Nat.reduceMul, if_true, if_false, ↓reduceIte, forall_const, implies_true, reduceCtorEq, ne_eq, Nat.reduceBNe, Nat.reduceBEq, IntKind.signed, Nat.reduceEqDiff, Nat.reduceLeDiff, Nat.reduceLT, eq_self, Int.reduceEq, Int.reduceLT, Int.reduceLE, Int.reduceAdd, Int.reduceSub, VC.regC_nil, VC.regC_cons, VC.regCK_eq, VC.callQ, VC.tailQ, VC.goCall, VC.chStep]
  refine ⟨f1, ?_⟩
  clear f1
  generalize stW (w1.alloc (.cells #[nilS, nilS, nilS, nilS, .bool false] 56)) ⟨w1.heap.size, 0, none⟩ 0 [.slice A1 len c1, .slice A2 n c2, .slice A3 n c3, .slice A4 (n * n) c4, .bool (doneS n s)] = w2 at *
  have hB2 := hB1.trans (f3.mono hB1.size)
  replace hsq := hsq.below f3
  have bx := f2
  clear f2 f3
  generalize w1.heap.size = xb at *
  subst hQ; simp -dsimp (maxSteps := 2000000) only [VC.Now, VC.vc_skip, VC.vc_ret, VC.vc_exit, VC.vc_block, VC.vc_cond, VC.vc_region, VC.lib, VC.mapN_drewN, VC.mapB_drewN, VC.regQ, VC.loopK, VC.reg, VC.opP, VC.opS, VC.opZ, VC.nomulB, VC.pv, VC.thenF, VC.blkF, VC.retF, VC.resV, VC.oneV, VC.evo, VC.bin, VC.binI, VC.cmpI, VC.arithI, VC.ldv, VC.slv, VC.pickP, VC.holds, VC.chainOf, VC.look, VC.junk, VC.put, VC.eff, VC.callee, VC.pureB, VC.rdK, VC.rdKs, VC.okKs, VC.eqKs, VC.fillL, VC.putL, VC.stW, VC.stOK, VC.mixF, VC.setAll, Nat.reduceAdd, Nat.reduceSub, Nat.reduceMul, if_true, if_false, ↓reduceIte, forall_const, implies_true, reduceCtorEq, ne_eq, Nat.reduceBNe, Nat.reduceBEq, IntKind.signed, Nat.reduceEqDiff, Nat.reduceLeDiff, Nat.reduceLT, eq_self, Int.reduceEq, Int.reduceLT, Int.reduceLE, Int.reduceAdd, Int.reduceSub, VC.regC_nil, VC.regC_cons, VC.regCK_eq, VC.callQ, VC.tailQ, VC.goCall, VC.chStep]; (repeat rw [vc_seq]); refine vc_plain _ fun Q hQ => ?_; simp -dsimp (maxSteps := 2000000) only [Fa.F6, VC.Now, VC.vc_skip, VC.vc_ret, VC.vc_exit, VC.vc_block, VC.vc_cond, VC.vc_region, VC.lib, VC.mapN_drewN, VC.mapB_drewN, VC.regQ, VC.loopK, VC.reg, VC.opP, VC.opS, VC.opZ, VC.nomulB, VC.pv, VC.thenF, VC.blkF, VC.retF, VC.resV, VC.oneV, VC.evo, VC.bin, VC.binI, VC.cmpI, VC.arithI, VC.ldv, VC.slv, VC.pickP, VC.holds, VC.chainOf, VC.look, VC.junk, VC.put, VC.eff, VC.callee, VC.pureB, VC.rdK, VC.rdKs, VC.okKs, VC.eqKs, VC.fillL, VC.putL, VC.stW, VC.stOK, VC.mixF, VC.setAll, Nat.reduceAdd, Nat.reduceSub, Nat.reduceMul, if_true, if_false, ↓reduceIte, forall_const, implies_true, reduceCtorEq, ne_eq, Nat.reduceBNe, Nat.reduceBEq, IntKind.signed, Nat.reduceEqDiff, Nat.reduceLeDiff, Nat.reduceLT, eq_self, Int.reduceEq, Int.reduceLT, Int.reduceLE, Int.reduceAdd, Int.reduceSub, VC.regC_nil, VC.regC_cons, VC.regCK_eq, VC.callQ, VC.tailQ, VC.goCall, VC.chStep]
  have e1 : ((n : Int) = 0) = False := eq_false (by omega)
  have e2 : ((6 : Int) < n) = False := eq_false (by omega)
  have e3 : ((120 : Int) < len) = False := eq_false (by omega)
  subst hQ
  simp -dsimp (maxSteps := 2000000) only [Fa.F6, e1, e2, e3, undef, tu, uf, ul, ur, VC.Now, VC.vc, VC.lib, VC.mapN_drewN, VC.mapB_drewN, VC.regQ, VC.loopK, VC.reg, VC.opP, VC.opS, VC.opZ, VC.nomulB, VC.pv, VC.thenF, VC.blkF, VC.retF, VC.resV, VC.oneV, VC.evo, VC.bin, VC.binI, VC.cmpI, VC.arithI, VC.ldv, VC.slv, VC.pickP, VC.holds, VC.chainOf, VC.look, VC.junk, VC.put, VC.eff, VC.callee, VC.pureB, VC.rdK, VC.rdKs, VC.okKs, VC.eqKs, VC.fillL, VC.putL, VC.stW, VC.stOK, VC.mixF, VC.setAll, Nat.reduceAdd, Nat.reduceSub, Nat.reduceMul, if_true, if_false, ↓reduceIte, forall_const, implies_true, reduceCtorEq, ne_eq, Nat.reduceBNe, Nat.reduceBEq, IntKind.signed, Nat.reduceEqDiff, Nat.reduceLeDiff, Nat.reduceLT, eq_self, Int.reduceEq, Int.reduceLT, Int.reduceLE, Int.reduceAdd, Int.reduceSub, VC.regC_nil, VC.regC_cons, VC.regCK_eq, VC.callQ, VC.tailQ, VC.goCall, VC.chStep]
  intro u9
  refine wp_plain fun Q5 hQ5 => ?_
  refine loop_slots Fa.mix [32, 7] [9, 33, 34, 35, 36, 37, 38, 39, 40, 41, 42, 43, 44, 45, 46] (fun mm vs wx => ∃ k : Nat, k + mm = n ∧ vs = [.int .i64 k, .int .i64 (xK m k)] ∧ wx = w2) n (by kernel_rfl) rfl ⟨0, by omega, rfl, rfl⟩ ?_
  rintro mm vs u wL ⟨k, hkm, rfl, rfl⟩
  by_cases hk : k < n
  · have e7 : ((k : Int) < n) = True := eq_true (by omega)
    obtain ⟨b, o, rfl, hb, hc⟩ := (hv.below hB2) (by omega)
    have s0 := hc k hk 0 _ rfl
    simp only [Nat.mul_one, Nat.add_zero] at s0
    clear hQ5
    cases hfk : farK m k with
    | true =>
      have ex : xK m k = 2 := by unfold xK; rw [hfk]; rfl
      have ex2 : xK m (k + 1) = 2 := by unfold xK; rw [farK_succ, hfk]; rfl
      rw [ex]
      simp -dsimp (maxSteps := 2000000) only [Fa.F6, e7, rdI_of s0, s0, hb, Int.toNat_natCast, undef, tu, uf, ul, ur, VC.Now, VC.vc, VC.lib, VC.mapN_drewN, VC.mapB_drewN, VC.regQ, VC.loopK, VC.reg, VC.opP, VC.opS, VC.opZ, VC.nomulB, VC.pv, VC.thenF, VC.blkF, VC.retF, VC.resV, VC.oneV, VC.evo, VC.bin, VC.binI, VC.cmpI, VC.arithI, VC.ldv, VC.slv, VC.pickP, VC.holds, VC.chainOf, VC.look, VC.junk, VC.put, VC.eff, VC.callee, VC.pureB, VC.rdK, VC.rdKs, VC.okKs, VC.eqKs, VC.fillL, VC.putL, VC.stW, VC.stOK, VC.mixF, VC.setAll, Nat.reduceAdd, Nat.reduceSub, Nat.reduceMul, if_true, if_false, ↓reduceIte, forall_const, implies_true, reduceCtorEq, ne_eq, Nat.reduceBNe, Nat.reduceBEq, IntKind.signed, Nat.reduceEqDiff, Nat.reduceLeDiff, Nat.reduceLT, eq_self, Int.reduceEq, Int.reduceLT, Int.reduceLE, Int.reduceAdd, Int.reduceSub, VC.regC_nil, VC.regC_cons, VC.regCK_eq, VC.callQ, VC.tailQ, VC.goCall, VC.chStep]
      refine ⟨by omega, ?_⟩
      first | exact ⟨fits_i64_nat (by omega), SAME.intro (by kernel_rfl), mm - 1, by omega, k + 1, by omega, by rw [ex2]; rfl⟩ | (intro u8; exact ⟨fits_i64_nat (by omega), SAME.intro (by kernel_rfl), mm - 1, by omega, k + 1, by omega, by rw [ex2]; rfl⟩)
    | false =>
      have ex : xK m k = 0 := by unfold xK; rw [hfk]; rfl
      rw [ex]
      by_cases q1 : m k < 0
      · have ex2 : xK m (k + 1) = 2 := by unfold xK; rw [farK_succ, hfk, show farI (m k) = true from decide_eq_true (Or.inl q1)]; rfl
        have c1 := eq_true q1
        simp -dsimp (maxSteps := 2000000) only [Fa.F6, e7, rdI_of s0, s0, hb, c1, Int.toNat_natCast, undef, tu, uf, ul, ur, VC.Now, VC.vc, VC.lib, VC.mapN_drewN, VC.mapB_drewN, VC.regQ, VC.loopK, VC.reg, VC.opP, VC.opS, VC.opZ, VC.nomulB, VC.pv, VC.thenF, VC.blkF, VC.retF, VC.resV, VC.oneV, VC.evo, VC.bin, VC.binI, VC.cmpI, VC.arithI, VC.ldv, VC.slv, VC.pickP, VC.holds, VC.chainOf, VC.look, VC.junk, VC.put, VC.eff, VC.callee, VC.pureB, VC.rdK, VC.rdKs, VC.okKs, VC.eqKs, VC.fillL, VC.putL, VC.stW, VC.stOK, VC.mixF, VC.setAll, Nat.reduceAdd, Nat.reduceSub, Nat.reduceMul, if_true, if_false, ↓reduceIte, forall_const, implies_true, reduceCtorEq, ne_eq, Nat.reduceBNe, Nat.reduceBEq, IntKind.signed, Nat.reduceEqDiff, Nat.reduceLeDiff, Nat.reduceLT, eq_self, Int.reduceEq, Int.reduceLT, Int.reduceLE, Int.reduceAdd, Int.reduceSub, VC.regC_nil, VC.regC_cons, VC.regCK_eq, VC.callQ, VC.tailQ, VC.goCall, VC.chStep]
        refine ⟨by omega, ?_⟩
        first | exact ⟨fits_i64_nat (by omega), SAME.intro (by kernel_rfl), mm - 1, by omega, k + 1, by omega, by rw [ex2]; rfl⟩ | (intro u8; exact ⟨fits_i64_nat (by omega), SAME.intro (by kernel_rfl), mm - 1, by omega, k + 1, by omega, by rw [ex2]; rfl⟩)
      have c1 := eq_false q1
      by_cases q2 : 1000 < m k
      · have ex2 : xK m (k + 1) = 2 := by unfold xK; rw [farK_succ, hfk, show farI (m k) = true from decide_eq_true (Or.inr q2)]; rfl
        have c2 := eq_true q2
        simp -dsimp (maxSteps := 2000000) only [Fa.F6, e7, rdI_of s0, s0, hb, c1, c2, Int.toNat_natCast, undef, tu, uf, ul, ur, VC.Now, VC.vc, VC.lib, VC.mapN_drewN, VC.mapB_drewN, VC.regQ, VC.loopK, VC.reg, VC.opP, VC.opS, VC.opZ, VC.nomulB, VC.pv, VC.thenF, VC.blkF, VC.retF, VC.resV, VC.oneV, VC.evo, VC.bin, VC.binI, VC.cmpI, VC.arithI, VC.ldv, VC.slv, VC.pickP, VC.holds, VC.chainOf, VC.look, VC.junk, VC.put, VC.eff, VC.callee, VC.pureB, VC.rdK, VC.rdKs, VC.okKs, VC.eqKs, VC.fillL, VC.putL, VC.stW, VC.stOK, VC.mixF, VC.setAll, Nat.reduceAdd, Nat.reduceSub, Nat.reduceMul, if_true, if_false, ↓reduceIte, forall_const, implies_true, reduceCtorEq, ne_eq, Nat.reduceBNe, Nat.reduceBEq, IntKind.signed, Nat.reduceEqDiff, Nat.reduceLeDiff, Nat.reduceLT, eq_self, Int.reduceEq, Int.reduceLT, Int.reduceLE, Int.reduceAdd, Int.reduceSub, VC.regC_nil, VC.regC_cons, VC.regCK_eq, VC.callQ, VC.tailQ, VC.goCall, VC.chStep]
        refine ⟨by omega, ?_⟩
        first | exact ⟨fits_i64_nat (by omega), SAME.intro (by kernel_rfl), mm - 1, by omega, k + 1, by omega, by rw [ex2]; rfl⟩ | (intro u8; exact ⟨fits_i64_nat (by omega), SAME.intro (by kernel_rfl), mm - 1, by omega, k + 1, by omega, by rw [ex2]; rfl⟩)
      have ex2 : xK m (k + 1) = 0 := by unfold xK; rw [farK_succ, hfk, show farI (m k) = false from decide_eq_false (fun h => h.elim q1 q2)]; rfl
      have c2 := eq_false q2
      simp -dsimp (maxSteps := 2000000) only [Fa.F6, e7, rdI_of s0, s0, hb, c1, c2, Int.toNat_natCast, undef, tu, uf, ul, ur, VC.Now, VC.vc, VC.lib, VC.mapN_drewN, VC.mapB_drewN, VC.regQ, VC.loopK, VC.reg, VC.opP, VC.opS, VC.opZ, VC.nomulB, VC.pv, VC.thenF, VC.blkF, VC.retF, VC.resV, VC.oneV, VC.evo, VC.bin, VC.binI, VC.cmpI, VC.arithI, VC.ldv, VC.slv, VC.pickP, VC.holds, VC.chainOf, VC.look, VC.junk, VC.put, VC.eff, VC.callee, VC.pureB, VC.rdK, VC.rdKs, VC.okKs, VC.eqKs, VC.fillL, VC.putL, VC.stW, VC.stOK, VC.mixF, VC.setAll, Nat.reduceAdd, Nat.reduceSub, Nat.reduceMul, if_true, if_false, ↓reduceIte, forall_const, implies_true, reduceCtorEq, ne_eq, Nat.reduceBNe, Nat.reduceBEq, IntKind.signed, Nat.reduceEqDiff, Nat.reduceLeDiff, Nat.reduceLT, eq_self, Int.reduceEq, Int.reduceLT, Int.reduceLE, Int.reduceAdd, Int.reduceSub, VC.regC_nil, VC.regC_cons, VC.regCK_eq, VC.callQ, VC.tailQ, VC.goCall, VC.chStep]
      refine ⟨by omega, ?_⟩
      first | exact ⟨fits_i64_nat (by omega), SAME.intro (by kernel_rfl), mm - 1, by omega, k + 1, by omega, by rw [ex2]; rfl⟩ | (intro u8; exact ⟨fits_i64_nat (by omega), SAME.intro (by kernel_rfl), mm - 1, by omega, k + 1, by omega, by rw [ex2]; rfl⟩)
  obtain rfl : k = n := by omega
  have e7 : ((k : Int) < k) = False := eq_false (by omega)
  subst hQ5
  have hff : farK m k = false := by
    unfold farK
    rw [List.any_eq_false]
    intro x hx
    obtain ⟨i, _, rfl⟩ := List.mem_map.1 hx
    have := hm i
    unfold farI
    rw [decide_eq_true_eq]; omega
  have ex : xK m k = 0 := by unfold xK; rw [hff]; rfl
  rw [ex]
  obtain ⟨f1, f2, f3⟩ := boxMade wL [nilS, nilS, nilS, nilS, .bool false] [nilS, nilS, nilS, nilS, .bool false] 56 rfl zeroS
  have hyn : xb < wL.heap.size := bx.1
  have bx := (bx.below f3)
  have hB4 := hB2.trans (f3.mono hB2.size)
  simp -dsimp (maxSteps := 2000000) only [Fa.F6, e7, undef, tu, uf, ul, ur, VC.Now, VC.vc, VC.lib, VC.mapN_drewN, VC.mapB_drewN, VC.regQ, VC.loopK, VC.reg, VC.opP, VC.opS, VC.opZ, VC.nomulB, VC.pv, VC.thenF, VC.blkF, VC.retF, VC.resV, VC.oneV, VC.evo, VC.bin, VC.binI, VC.cmpI, VC.arithI, VC.ldv, VC.slv, VC.pickP, VC.holds, VC.chainOf, VC.look, VC.junk, VC.put, VC.eff, VC.callee, VC.pureB, VC.rdK, VC.rdKs, VC.okKs, VC.eqKs, VC.fillL, VC.putL, VC.mixF, VC.setAll, Nat.reduceAdd, Nat.reduceSub, Nat.reduceMul, if_true, if_false, ↓reduceIte, forall_const, implies_true, reduceCtorEq, ne_eq, Nat.reduceBNe, Nat.reduceBEq, IntKind.signed, Nat.reduceEqDiff, Nat.reduceLeDiff, Nat.reduceLT, eq_self, Int.reduceEq, Int.reduceLT, Int.reduceLE, Int.reduceAdd, Int.reduceSub, VC.regC_nil, VC.regC_cons, VC.regCK_eq, VC.callQ, VC.tailQ, VC.goCall, VC.chStep]
  refine ⟨f1, ?_⟩
  clear f1
  generalize stW (wL.alloc (.cells #[nilS, nilS, nilS, nilS, .bool false] 56)) ⟨wL.heap.size, 0, none⟩ 0 [nilS, nilS, nilS, nilS, .bool false] = w4 at *
  have bY := f2
  clear f2
  have hyw : w.heap.size ≤ wL.heap.size := hB2.size
  have h34 := f3
  clear f3
  have hy4 : wL.heap.size < w4.heap.size := bY.1
  generalize hyb : wL.heap.size = yb at *
  refine CALL_by (hdc w4 hB4) ?_
  rintro _ w5 ⟨v5, rfl, hv5, hw5⟩
  refine ⟨_, rfl, ?_⟩
  obtain ⟨D0, d0, D1, d1, D2, d2, D3, d3, rfl, _⟩ := id (hv5 w5 (Agree.refl _ _))
  have hB5 := hB4.trans (hw5.mono hB4.size)
  replace bx := bx.below hw5
  replace bY := bY.below hw5
  obtain ⟨ok, bz⟩ := bY.stAll (vs := [.slice D0 len d0, .slice D1 k d1, .slice D2 k d2, .slice D3 (k * k) d3, .bool (doneS k s)]) rfl oneS
  have hag : Agree (fun j => j = yb) w5 (stW w5 ⟨yb, 0, none⟩ 0 [.slice D0 len d0, .slice D1 k d1, .slice D2 k d2, .slice D3 (k * k) d3, .bool (doneS k s)]) := stW_agree (X := fun j => j = yb) rfl _ _ _
  have hbx2 := bx.agree hag (by omega)
  have hdv := hv5 _ (hag.mono fun j _ hj => (by subst hj; exact hy4 : j < w4.heap.size))
  have h35 := h34.trans (hw5.mono (by omega))
  have h36 := hag.to_below h35 (by have := h35.size; omega) fun j hj => by omega
  replace hsq := hsq.below (by rw [hyb]; exact h36)
  have hB6 := hag.to_below hB5 hB5.size fun j hj => by omega
  have x0 := hbx2.at (i := 0) rfl
  have x1 := hbx2.at (i := 1) rfl
  have x2 := hbx2.at (i := 2) rfl
  have x3 := hbx2.at (i := 3) rfl
  have x4 := hbx2.at (i := 4) rfl
  have y0 := bz.at (i := 0) rfl
  have y1 := bz.at (i := 1) rfl
  have y2 := bz.at (i := 2) rfl
  have y3 := bz.at (i := 3) rfl
  have y4 := bz.at (i := 4) rfl
  have hlx := hbx2.1
  have hly := bz.1
  rw [VC.Now, VC.seqK_eq]
  simp -dsimp (maxSteps := 2000000) only [Fa.F6, hlx, hly, rdSA_of x0, rdSN_of x0, rdSC_of x0, x0, rdSA_of x1, rdSN_of x1, rdSC_of x1, x1, rdSA_of x2, rdSN_of x2, rdSC_of x2, x2, rdSA_of x3, rdSN_of x3, rdSC_of x3, x3, rdB_of x4, x4, rdSA_of y0, rdSN_of y0, rdSC_of y0, y0, rdSA_of y1, rdSN_of y1, rdSC_of y1, y1, rdSA_of y2, rdSN_of y2, rdSC_of y2, y2, rdSA_of y3, rdSN_of y3, rdSC_of y3, y3, rdB_of y4, y4, undef, tu, uf, ul, ur, VC.Now, VC.vc, VC.lib, VC.mapN_drewN, VC.mapB_drewN, VC.regQ, VC.loopK, VC.reg, VC.opP, VC.opS, VC.opZ, VC.nomulB, VC.pv, VC.thenF, VC.blkF, VC.retF, VC.resV, VC.oneV, VC.evo, VC.bin, VC.binI, VC.cmpI, VC.arithI, VC.ldv, VC.slv, VC.pickP, VC.holds, VC.chainOf, VC.look, VC.junk, VC.put, VC.eff, VC.callee, VC.pureB, VC.rdK, VC.rdKs, VC.okKs, VC.eqKs, VC.fillL, VC.putL, VC.mixF, VC.setAll, Nat.reduceAdd, Nat.reduceSub, Nat.reduceMul, if_true, if_false, ↓reduceIte, forall_const, implies_true, reduceCtorEq, ne_eq, Nat.reduceBNe, Nat.reduceBEq, IntKind.signed, Nat.reduceEqDiff, Nat.reduceLeDiff, Nat.reduceLT, eq_self, Int.reduceEq, Int.reduceLT, Int.reduceLE, Int.reduceAdd, Int.reduceSub, VC.regC_nil, VC.regC_cons, VC.regCK_eq, VC.callQ, VC.tailQ, VC.goCall, VC.chStep]
  refine ⟨ok, ?_⟩
  refine CALL_of (snaps_any _ hsq hdv (by omega) hn hrow) fun w7 hw7 => ?_
  rw [VC.Now, VC.seqK_eq]
  simp -dsimp (maxSteps := 2000000) only [Fa.F6, undef, tu, uf, ul, ur, VC.Now, VC.vc, VC.lib, VC.mapN_drewN, VC.mapB_drewN, VC.regQ, VC.loopK, VC.reg, VC.opP, VC.opS, VC.opZ, VC.nomulB, VC.pv, VC.thenF, VC.blkF, VC.retF, VC.resV, VC.oneV, VC.evo, VC.bin, VC.binI, VC.cmpI, VC.arithI, VC.ldv, VC.slv, VC.pickP, VC.holds, VC.chainOf, VC.look, VC.junk, VC.put, VC.eff, VC.callee, VC.pureB, VC.rdK, VC.rdKs, VC.okKs, VC.eqKs, VC.fillL, VC.putL, VC.stW, VC.stOK, VC.mixF, VC.setAll, Nat.reduceAdd, Nat.reduceSub, Nat.reduceMul, if_true, if_false, ↓reduceIte, forall_const, implies_true, reduceCtorEq, ne_eq, Nat.reduceBNe, Nat.reduceBEq, IntKind.signed, Nat.reduceEqDiff, Nat.reduceLeDiff, Nat.reduceLT, eq_self, Int.reduceEq, Int.reduceLT, Int.reduceLE, Int.reduceAdd, Int.reduceSub, VC.regC_nil, VC.regC_cons, VC.regCK_eq, VC.callQ, VC.tailQ, VC.goCall, VC.chStep]
  exact hB6.trans (hw7.mono hB6.size)
/-- The law. -/
theorem snapPlays_walk (A0 : Option Addr) (n c0 : Nat) (A : Option Addr) (len cap : Nat) (w : World) (r0 : ArgS w A0 n 1 [.i .i64]) (hl0 : n ≤ c0) (hm0 : c0 ≤ maxLen) (r : ArgS w A len 4 [.i .i64, .i .i64, .i .i64, .i .i64]) (hl : len ≤ cap) (hm : cap ≤ maxLen) :
    Calls Try.prog 6 #[.slice A0 n c0, .slice A len cap] w fun e w' => e = .returned (.bool true) ∧ Below w.heap.size w w' := by
  obtain ⟨gg, hgf, hv⟩ := RdT.of_ints r0 (fun j hj => by rcases j with _ | j <;> first | rfl | omega)
  obtain ⟨m, hv⟩ : ∃ m : Nat → Int, RdT w A0 n 1 (fun i => [.int .i64 (m i)]) := ⟨fun i => gg i 0, hv⟩
  obtain ⟨gs, hgs, hr⟩ := RdT.of_ints r (fun j hj => by rcases j with _ | _ | _ | _ | j <;> first | rfl | omega)
  obtain ⟨g, hg, hr⟩ : ∃ g : Nat → PassC, (∀ i, fits .i64 (g i).n) ∧ RdT w A len 4 (fun i => passL (g i)) := ⟨fun i => ⟨gs i 0, gs i 1, gs i 2, gs i 3⟩, fun i => hgs i 3, hr⟩
  have hn63 : n ≤ 9223372036854775807 := Nat.le_trans hl0 hm0
  by_cases hbad : n = 0 ∨ 6 < n ∨ 120 < len
  · exact snap_law1 A0 n c0 A len cap m w hv hn63 hbad
  cases hf : farK m n with
  | true => exact snap_law2 A0 n c0 A len cap m w hv (by omega) (by omega) (by omega) hf
  | false =>
    have hgood : ∀ i, i < n → 0 ≤ m i ∧ m i ≤ 1000 := fun i hi => by
      unfold farK at hf
      rw [List.any_eq_false] at hf
      have := hf (m i) (List.mem_map.2 ⟨i, by simpa using hi, rfl⟩)
      unfold farI at this
      rw [decide_eq_true_eq] at this
      omega
    refine snap_law3 A0 n c0 A len cap (fun i => if i < n then m i else 0) g w (hv.congr fun i hi => by rw [if_pos hi]) (fun i => ?_) hr hg (by omega) (by omega) (by omega)
    by_cases hi : i < n
    · simp only [if_pos hi]; exact hgood i hi
    · simp only [if_neg hi]; omega
end Go.Proofs.Ytelfmhiaafkimaa
