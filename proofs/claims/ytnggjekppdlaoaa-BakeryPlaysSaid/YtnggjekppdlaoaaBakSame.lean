/- Are two answers the same? And the program where the arguments do not fit. -/
import Derived.Test.YtnggjekppdlaoaaBak2
import Derived.Test.YtnggjekppdlaoaaRefSameI
import Derived.Test.YtnggjekppdlaoaaRefSameB
import Derived.Test.YtnggjekppdlaoaaRefSameC
namespace Go.Proofs.Ytnggjekppdlaoaa
open Go Go.RowKit Go.VC
set_option linter.unusedSimpArgs false
set_option linter.unusedVariables false

theorem ints_len (l : List Int) : (ints l).length = l.length := by simp
theorem bools_len (l : List Bool) : (bools l).length = l.length := by simp
theorem SV.below {v : Value} {xs : List Value} {w w' : World} (h : SV v xs w) (hB : Below w.heap.size w w') : SV v xs w' := by
  obtain ⟨A, c, rfl, hr⟩ := h; exact ⟨A, c, rfl, hr.below hB⟩
/-- Five lists. -/
def Five (cs a t : List Int) (h : List Bool) (i : List Int) (v : Value) (w : World) : Prop := ∃ v0 v1 v2 v3 v4, v = .agg #[v0, v1, v2, v3, v4] ∧ SV v0 (ints cs) w ∧ SV v1 (ints a) w ∧ SV v2 (ints t) w ∧ SV v3 (bools h) w ∧ SV v4 (ints i) w
theorem Five.below {cs a t i : List Int} {h : List Bool} {v : Value} {w w' : World} (H : Five cs a t h i v w) (hB : Below w.heap.size w w') : Five cs a t h i v w' := by
  obtain ⟨v0, v1, v2, v3, v4, rfl, s0, s1, s2, s3, s4⟩ := H
  exact ⟨v0, v1, v2, v3, v4, rfl, s0.below hB, s1.below hB, s2.below hB, s3.below hB, s4.below hB⟩
theorem Five.nil (w : World) : Five [] [] [] [] [] (.agg #[nilS, nilS, nilS, nilS, nilS]) w :=
  have s : SV nilS [] w := ⟨none, 0, rfl, Rd.nil _ _⟩
  ⟨_, _, _, _, _, rfl, s, s, s, s, s⟩
theorem Five.forms {cs a t i : List Int} {h : List Bool} {v : Value} {w : World} (H : Five cs a t h i v w) : ∃ A0 c0 A1 c1 A2 c2 A3 c3 A4 c4, v = .agg #[.slice A0 cs.length c0, .slice A1 a.length c1, .slice A2 t.length c2, .slice A3 h.length c3, .slice A4 i.length c4] ∧ Rd w A0 (ints cs) ∧ Rd w A1 (ints a) ∧ Rd w A2 (ints t) ∧ Rd w A3 (bools h) ∧ Rd w A4 (ints i) := by
  obtain ⟨v0, v1, v2, v3, v4, rfl, ⟨A0, c0, rfl, s0⟩, ⟨A1, c1, rfl, s1⟩, ⟨A2, c2, rfl, s2⟩, ⟨A3, c3, rfl, s3⟩, ⟨A4, c4, rfl, s4⟩⟩ := H
  rw [ints_len, ints_len, ints_len, bools_len, ints_len]
  exact ⟨A0, c0, A1, c1, A2, c2, A3, c3, A4, c4, rfl, s0, s1, s2, s3, s4⟩
set_option maxRecDepth 8000 in
set_option maxHeartbeats 4000000 in
theorem bakeries_any (cs a t i : List Int) (h : List Bool) (u v : Value) (w : World) (hu : Five cs a t h i u w) (hv : Five cs a t h i v w) (l0 : cs.length ≤ 1000) (l1 : a.length ≤ 1000) (l2 : t.length ≤ 1000) (l3 : h.length ≤ 1000) (l4 : i.length ≤ 1000) :
    Calls Try.prog 10 #[u, v] w fun e w' => e = .returned (.bool true) ∧ Below w.heap.size w w' := by
  obtain ⟨A0, c0, A1, c1, A2, c2, A3, c3, A4, c4, rfl, s0, s1, s2, s3, s4⟩ := hu.forms
  obtain ⟨B0, d0, B1, d1, B2, d2, B3, d3, B4, d4, rfl, t0, t1, t2, t3, t4⟩ := hv.forms
  refine calls_vc (rs := [.tmp 4]) Fa.mix Try.func10 rfl Try.ntmps10 rfl (by kernel_rfl) (Nat.le_of_ble_eq_true rfl) ?_
  (repeat rw [vc_seq]); refine vc_plain _ fun Q hQ => ?_; simp -dsimp only [Fa.F10, VC.Now, VC.vc_skip, VC.vc_ret, VC.vc_exit, VC.vc_block, VC.vc_cond, VC.vc_region, VC.lib, VC.regQ, VC.loopK, VC.reg, VC.opP, VC.pv, VC.thenF, VC.blkF, VC.retF, VC.resV, VC.oneV, VC.evo, VC.bin, VC.binI, VC.cmpI, VC.arithI, VC.ldv, VC.slv, VC.pickP, VC.holds, VC.chainOf, VC.look, VC.junk, VC.put, VC.eff, VC.callee, VC.pureB, VC.rdK, VC.rdKs, VC.okKs, VC.eqKs, VC.fillL, VC.putL, VC.stW, VC.stOK, VC.mixF, VC.setAll, Nat.reduceAdd, Nat.reduceSub, Nat.reduceMul, if_true, if_false, ↓reduceIte, forall_const, implies_true, reduceCtorEq, ne_eq, Nat.reduceBNe, Nat.reduceBEq, IntKind.signed, Nat.reduceEqDiff, Nat.reduceLeDiff, Nat.reduceLT, eq_self, Int.reduceEq, Int.reduceLT, Int.reduceLE, Int.reduceAdd, Int.reduceSub, VC.regC_nil, VC.regC_cons, VC.regCK_eq, VC.callQ, VC.tailQ, VC.goCall, VC.chStep]
  have bx1 := (Box.new w [.slice A0 cs.length c0, .slice A1 a.length c1, .slice A2 t.length c2, .slice A3 h.length c3, .slice A4 i.length c4] 26).below (below_box (Below.refl _ _) (.cells #[.slice B0 cs.length d0, .slice B1 a.length d1, .slice B2 t.length d2, .slice B3 h.length d3, .slice B4 i.length d4] 26))
  have bx2 := Box.new (w.alloc (.cells #[.slice A0 cs.length c0, .slice A1 a.length c1, .slice A2 t.length c2, .slice A3 h.length c3, .slice A4 i.length c4] 26)) [.slice B0 cs.length d0, .slice B1 a.length d1, .slice B2 t.length d2, .slice B3 h.length d3, .slice B4 i.length d4] 26
  rw [show (w.alloc (.cells #[.slice A0 cs.length c0, .slice A1 a.length c1, .slice A2 t.length c2, .slice A3 h.length c3, .slice A4 i.length c4] 26)).heap.size = w.heap.size + 1 from by simp] at bx2
  have hB := below_box (below_box (Below.refl w.heap.size w) (.cells #[.slice A0 cs.length c0, .slice A1 a.length c1, .slice A2 t.length c2, .slice A3 h.length c3, .slice A4 i.length c4] 26)) (.cells #[.slice B0 cs.length d0, .slice B1 a.length d1, .slice B2 t.length d2, .slice B3 h.length d3, .slice B4 i.length d4] 26)
  change Box ((w.alloc (.cells #[.slice A0 cs.length c0, .slice A1 a.length c1, .slice A2 t.length c2, .slice A3 h.length c3, .slice A4 i.length c4] 26)).alloc (.cells #[.slice B0 cs.length d0, .slice B1 a.length d1, .slice B2 t.length d2, .slice B3 h.length d3, .slice B4 i.length d4] 26)) _ _ at bx1
  change Box ((w.alloc (.cells #[.slice A0 cs.length c0, .slice A1 a.length c1, .slice A2 t.length c2, .slice A3 h.length c3, .slice A4 i.length c4] 26)).alloc (.cells #[.slice B0 cs.length d0, .slice B1 a.length d1, .slice B2 t.length d2, .slice B3 h.length d3, .slice B4 i.length d4] 26)) _ _ at bx2
  generalize (w.alloc (.cells #[.slice A0 cs.length c0, .slice A1 a.length c1, .slice A2 t.length c2, .slice A3 h.length c3, .slice A4 i.length c4] 26)).alloc (.cells #[.slice B0 cs.length d0, .slice B1 a.length d1, .slice B2 t.length d2, .slice B3 h.length d3, .slice B4 i.length d4] 26) = w1 at bx1 bx2 hB ⊢
  have cI : ∀ (A B : Option Addr) (c d : Nat) (l : List Int) (wx : World), l.length ≤ 1000 → Rd wx A (ints l) → Rd wx B (ints l) → Calls Try.prog 35 #[.slice A l.length c, .slice B l.length d] wx fun e w' => e = .returned (.bool true) ∧ Below wx.heap.size wx w' := fun A B c d l wx hl h1 h2 => by
    have := ints_any A B c d l l wx h1 h2 (by omega) (by omega)
    simpa using this
  have cC : ∀ (A B : Option Addr) (c d : Nat) (l : List Int) (wx : World), l.length ≤ 1000 → Rd wx A (ints l) → Rd wx B (ints l) → Calls Try.prog 34 #[.slice A l.length c, .slice B l.length d] wx fun e w' => e = .returned (.bool true) ∧ Below wx.heap.size wx w' := fun A B c d l wx hl h1 h2 => by
    have := codes_any A B c d l l wx h1 h2 (by omega) (by omega)
    simpa using this
  have cB : ∀ (A B : Option Addr) (c d : Nat) (l : List Bool) (wx : World), l.length ≤ 1000 → Rd wx A (bools l) → Rd wx B (bools l) → Calls Try.prog 36 #[.slice A l.length c, .slice B l.length d] wx fun e w' => e = .returned (.bool true) ∧ Below wx.heap.size wx w' := fun A B c d l wx hl h1 h2 => by
    have := bools_any A B c d l l wx h1 h2 (by omega) (by omega)
    simpa using this
  have x0 := bx1.at (i := 0) rfl
  have y0 := bx2.at (i := 0) rfl
  subst hQ; simp -dsimp only [VC.Now, VC.vc_skip, VC.vc_ret, VC.vc_exit, VC.vc_block, VC.vc_cond, VC.vc_region, VC.lib, VC.regQ, VC.loopK, VC.reg, VC.opP, VC.pv, VC.thenF, VC.blkF, VC.retF, VC.resV, VC.oneV, VC.evo, VC.bin, VC.binI, VC.cmpI, VC.arithI, VC.ldv, VC.slv, VC.pickP, VC.holds, VC.chainOf, VC.look, VC.junk, VC.put, VC.eff, VC.callee, VC.pureB, VC.rdK, VC.rdKs, VC.okKs, VC.eqKs, VC.fillL, VC.putL, VC.stW, VC.stOK, VC.mixF, VC.setAll, Nat.reduceAdd, Nat.reduceSub, Nat.reduceMul, if_true, if_false, ↓reduceIte, forall_const, implies_true, reduceCtorEq, ne_eq, Nat.reduceBNe, Nat.reduceBEq, IntKind.signed, Nat.reduceEqDiff, Nat.reduceLeDiff, Nat.reduceLT, eq_self, Int.reduceEq, Int.reduceLT, Int.reduceLE, Int.reduceAdd, Int.reduceSub, VC.regC_nil, VC.regC_cons, VC.regCK_eq, VC.callQ, VC.tailQ, VC.goCall, VC.chStep]; (repeat rw [vc_seq]); refine vc_plain _ fun Q hQ => ?_; simp -dsimp only [Fa.F10, rdSA_of x0, rdSN_of x0, rdSC_of x0, x0, rdSA_of y0, rdSN_of y0, rdSC_of y0, y0, VC.Now, VC.vc_skip, VC.vc_ret, VC.vc_exit, VC.vc_block, VC.vc_cond, VC.vc_region, VC.lib, VC.regQ, VC.loopK, VC.reg, VC.opP, VC.pv, VC.thenF, VC.blkF, VC.retF, VC.resV, VC.oneV, VC.evo, VC.bin, VC.binI, VC.cmpI, VC.arithI, VC.ldv, VC.slv, VC.pickP, VC.holds, VC.chainOf, VC.look, VC.junk, VC.put, VC.eff, VC.callee, VC.pureB, VC.rdK, VC.rdKs, VC.okKs, VC.eqKs, VC.fillL, VC.putL, VC.stW, VC.stOK, VC.mixF, VC.setAll, Nat.reduceAdd, Nat.reduceSub, Nat.reduceMul, if_true, if_false, ↓reduceIte, forall_const, implies_true, reduceCtorEq, ne_eq, Nat.reduceBNe, Nat.reduceBEq, IntKind.signed, Nat.reduceEqDiff, Nat.reduceLeDiff, Nat.reduceLT, eq_self, Int.reduceEq, Int.reduceLT, Int.reduceLE, Int.reduceAdd, Int.reduceSub, VC.regC_nil, VC.regC_cons, VC.regCK_eq, VC.callQ, VC.tailQ, VC.goCall, VC.chStep]
  refine CALL_of (cC A0 B0 c0 d0 cs w1 l0 (s0.below hB) (t0.below hB)) fun w2 hB2 => ?_
  rw [VC.Now, VC.seqK_eq]
  have hw2 := hB.trans (hB2.mono hB.size)
  have x1 := (bx1.below hB2).at (i := 1) rfl
  have y1 := (bx2.below hB2).at (i := 1) rfl
  simp -dsimp only [Fa.F10, rdSA_of x1, rdSN_of x1, rdSC_of x1, x1, rdSA_of y1, rdSN_of y1, rdSC_of y1, y1, VC.Now, VC.vc_skip, VC.vc_ret, VC.vc_exit, VC.vc_block, VC.vc_cond, VC.vc_region, VC.lib, VC.regQ, VC.loopK, VC.reg, VC.opP, VC.pv, VC.thenF, VC.blkF, VC.retF, VC.resV, VC.oneV, VC.evo, VC.bin, VC.binI, VC.cmpI, VC.arithI, VC.ldv, VC.slv, VC.pickP, VC.holds, VC.chainOf, VC.look, VC.junk, VC.put, VC.eff, VC.callee, VC.pureB, VC.rdK, VC.rdKs, VC.okKs, VC.eqKs, VC.fillL, VC.putL, VC.stW, VC.stOK, VC.mixF, VC.setAll, Nat.reduceAdd, Nat.reduceSub, Nat.reduceMul, if_true, if_false, ↓reduceIte, forall_const, implies_true, reduceCtorEq, ne_eq, Nat.reduceBNe, Nat.reduceBEq, IntKind.signed, Nat.reduceEqDiff, Nat.reduceLeDiff, Nat.reduceLT, eq_self, Int.reduceEq, Int.reduceLT, Int.reduceLE, Int.reduceAdd, Int.reduceSub, VC.regC_nil, VC.regC_cons, VC.regCK_eq, VC.callQ, VC.tailQ, VC.goCall, VC.chStep]
  refine CALL_of (cI A1 B1 c1 d1 a w2 l1 (s1.below hw2) (t1.below hw2)) fun w3 hB3 => ?_
  rw [VC.Now, VC.seqK_eq]
  have hw3 := hw2.trans (hB3.mono hw2.size)
  have x2 := ((bx1.below hB2).below hB3).at (i := 2) rfl
  have y2 := ((bx2.below hB2).below hB3).at (i := 2) rfl
  simp -dsimp only [Fa.F10, rdSA_of x2, rdSN_of x2, rdSC_of x2, x2, rdSA_of y2, rdSN_of y2, rdSC_of y2, y2, VC.Now, VC.vc_skip, VC.vc_ret, VC.vc_exit, VC.vc_block, VC.vc_cond, VC.vc_region, VC.lib, VC.regQ, VC.loopK, VC.reg, VC.opP, VC.pv, VC.thenF, VC.blkF, VC.retF, VC.resV, VC.oneV, VC.evo, VC.bin, VC.binI, VC.cmpI, VC.arithI, VC.ldv, VC.slv, VC.pickP, VC.holds, VC.chainOf, VC.look, VC.junk, VC.put, VC.eff, VC.callee, VC.pureB, VC.rdK, VC.rdKs, VC.okKs, VC.eqKs, VC.fillL, VC.putL, VC.stW, VC.stOK, VC.mixF, VC.setAll, Nat.reduceAdd, Nat.reduceSub, Nat.reduceMul, if_true, if_false, ↓reduceIte, forall_const, implies_true, reduceCtorEq, ne_eq, Nat.reduceBNe, Nat.reduceBEq, IntKind.signed, Nat.reduceEqDiff, Nat.reduceLeDiff, Nat.reduceLT, eq_self, Int.reduceEq, Int.reduceLT, Int.reduceLE, Int.reduceAdd, Int.reduceSub, VC.regC_nil, VC.regC_cons, VC.regCK_eq, VC.callQ, VC.tailQ, VC.goCall, VC.chStep]
  refine CALL_of (cI A2 B2 c2 d2 t w3 l2 (s2.below hw3) (t2.below hw3)) fun w4 hB4 => ?_
  rw [VC.Now, VC.seqK_eq]
  have hw4 := hw3.trans (hB4.mono hw3.size)
  have x3 := (((bx1.below hB2).below hB3).below hB4).at (i := 3) rfl
  have y3 := (((bx2.below hB2).below hB3).below hB4).at (i := 3) rfl
  simp -dsimp only [Fa.F10, rdSA_of x3, rdSN_of x3, rdSC_of x3, x3, rdSA_of y3, rdSN_of y3, rdSC_of y3, y3, VC.Now, VC.vc_skip, VC.vc_ret, VC.vc_exit, VC.vc_block, VC.vc_cond, VC.vc_region, VC.lib, VC.regQ, VC.loopK, VC.reg, VC.opP, VC.pv, VC.thenF, VC.blkF, VC.retF, VC.resV, VC.oneV, VC.evo, VC.bin, VC.binI, VC.cmpI, VC.arithI, VC.ldv, VC.slv, VC.pickP, VC.holds, VC.chainOf, VC.look, VC.junk, VC.put, VC.eff, VC.callee, VC.pureB, VC.rdK, VC.rdKs, VC.okKs, VC.eqKs, VC.fillL, VC.putL, VC.stW, VC.stOK, VC.mixF, VC.setAll, Nat.reduceAdd, Nat.reduceSub, Nat.reduceMul, if_true, if_false, ↓reduceIte, forall_const, implies_true, reduceCtorEq, ne_eq, Nat.reduceBNe, Nat.reduceBEq, IntKind.signed, Nat.reduceEqDiff, Nat.reduceLeDiff, Nat.reduceLT, eq_self, Int.reduceEq, Int.reduceLT, Int.reduceLE, Int.reduceAdd, Int.reduceSub, VC.regC_nil, VC.regC_cons, VC.regCK_eq, VC.callQ, VC.tailQ, VC.goCall, VC.chStep]
  refine CALL_of (cB A3 B3 c3 d3 h w4 l3 (s3.below hw4) (t3.below hw4)) fun w5 hB5 => ?_
  rw [VC.Now, VC.seqK_eq]
  have hw5 := hw4.trans (hB5.mono hw4.size)
  have x4 := ((((bx1.below hB2).below hB3).below hB4).below hB5).at (i := 4) rfl
  have y4 := ((((bx2.below hB2).below hB3).below hB4).below hB5).at (i := 4) rfl
  simp -dsimp only [Fa.F10, rdSA_of x4, rdSN_of x4, rdSC_of x4, x4, rdSA_of y4, rdSN_of y4, rdSC_of y4, y4, VC.Now, VC.vc_skip, VC.vc_ret, VC.vc_exit, VC.vc_block, VC.vc_cond, VC.vc_region, VC.lib, VC.regQ, VC.loopK, VC.reg, VC.opP, VC.pv, VC.thenF, VC.blkF, VC.retF, VC.resV, VC.oneV, VC.evo, VC.bin, VC.binI, VC.cmpI, VC.arithI, VC.ldv, VC.slv, VC.pickP, VC.holds, VC.chainOf, VC.look, VC.junk, VC.put, VC.eff, VC.callee, VC.pureB, VC.rdK, VC.rdKs, VC.okKs, VC.eqKs, VC.fillL, VC.putL, VC.stW, VC.stOK, VC.mixF, VC.setAll, Nat.reduceAdd, Nat.reduceSub, Nat.reduceMul, if_true, if_false, ↓reduceIte, forall_const, implies_true, reduceCtorEq, ne_eq, Nat.reduceBNe, Nat.reduceBEq, IntKind.signed, Nat.reduceEqDiff, Nat.reduceLeDiff, Nat.reduceLT, eq_self, Int.reduceEq, Int.reduceLT, Int.reduceLE, Int.reduceAdd, Int.reduceSub, VC.regC_nil, VC.regC_cons, VC.regCK_eq, VC.callQ, VC.tailQ, VC.goCall, VC.chStep]
  refine CALL_of (cI A4 B4 c4 d4 i w5 l4 (s4.below hw5) (t4.below hw5)) fun w6 hB6 => ?_
  rw [VC.Now, VC.seqK_eq]
  simp -dsimp only [Fa.F10, VC.Now, VC.vc_skip, VC.vc_ret, VC.vc_exit, VC.vc_block, VC.vc_cond, VC.vc_region, VC.lib, VC.regQ, VC.loopK, VC.reg, VC.opP, VC.pv, VC.thenF, VC.blkF, VC.retF, VC.resV, VC.oneV, VC.evo, VC.bin, VC.binI, VC.cmpI, VC.arithI, VC.ldv, VC.slv, VC.pickP, VC.holds, VC.chainOf, VC.look, VC.junk, VC.put, VC.eff, VC.callee, VC.pureB, VC.rdK, VC.rdKs, VC.okKs, VC.eqKs, VC.fillL, VC.putL, VC.stW, VC.stOK, VC.mixF, VC.setAll, Nat.reduceAdd, Nat.reduceSub, Nat.reduceMul, if_true, if_false, ↓reduceIte, forall_const, implies_true, reduceCtorEq, ne_eq, Nat.reduceBNe, Nat.reduceBEq, IntKind.signed, Nat.reduceEqDiff, Nat.reduceLeDiff, Nat.reduceLT, eq_self, Int.reduceEq, Int.reduceLT, Int.reduceLE, Int.reduceAdd, Int.reduceSub, VC.regC_nil, VC.regC_cons, VC.regCK_eq, VC.callQ, VC.tailQ, VC.goCall, VC.chStep]
  subst hQ
  simp -dsimp only [VC.Now, VC.vc_skip, VC.vc_ret, VC.vc_exit, VC.vc_block, VC.vc_cond, VC.vc_region, VC.lib, VC.regQ, VC.loopK, VC.reg, VC.opP, VC.pv, VC.thenF, VC.blkF, VC.retF, VC.resV, VC.oneV, VC.evo, VC.bin, VC.binI, VC.cmpI, VC.arithI, VC.ldv, VC.slv, VC.pickP, VC.holds, VC.chainOf, VC.look, VC.junk, VC.put, VC.eff, VC.callee, VC.pureB, VC.rdK, VC.rdKs, VC.okKs, VC.eqKs, VC.fillL, VC.putL, VC.stW, VC.stOK, VC.mixF, VC.setAll, Nat.reduceAdd, Nat.reduceSub, Nat.reduceMul, if_true, if_false, ↓reduceIte, forall_const, implies_true, reduceCtorEq, ne_eq, Nat.reduceBNe, Nat.reduceBEq, IntKind.signed, Nat.reduceEqDiff, Nat.reduceLeDiff, Nat.reduceLT, eq_self, Int.reduceEq, Int.reduceLT, Int.reduceLE, Int.reduceAdd, Int.reduceSub, VC.regC_nil, VC.regC_cons, VC.regCK_eq, VC.callQ, VC.tailQ, VC.goCall, VC.chStep]
  exact hw5.trans (hB6.mono hw5.size)

set_option maxRecDepth 8000 in
set_option maxHeartbeats 4000000 in
theorem play_bad (A : Option Addr) (n : Int) (len c : Nat) (w : World) (hbad : n < 1 ∨ 4 < n ∨ 120 < len) :
    Calls Try.prog 8 #[.int .i64 n, .slice A len c] w fun e w' => e = .returned (.tuple #[.agg #[nilS, nilS, nilS, nilS, nilS], .int .i64 1]) ∧ Below w.heap.size w w' := by
  have fin : ∀ {K : Prop}, K → K := fun h => h
  have hb0 := Box.new w [nilS, nilS, nilS, nilS, nilS] 26
  have hB0 := below_box (Below.refl w.heap.size w) (.cells #[nilS, nilS, nilS, nilS, nilS] 26)
  obtain ⟨ok, hb1⟩ := hb0.stAll (vs := [nilS, nilS, nilS, nilS, nilS]) rfl (by intro x hx; simp at hx; rw [hx]; rfl)
  have hag := (stW_agree (X := fun j => j = w.heap.size) (g := w.heap.size) rfl [nilS, nilS, nilS, nilS, nilS] (w.alloc (.cells #[nilS, nilS, nilS, nilS, nilS] 26)) 0).to_below hB0 hB0.size fun j hj => by omega
  change Box (stW (w.alloc (.cells #[nilS, nilS, nilS, nilS, nilS] 26)) _ _ _) _ _ at hb1
  change stOK (w.alloc (.cells #[nilS, nilS, nilS, nilS, nilS] 26)) _ _ _ at ok
  have x0 := hb1.at (i := 0) rfl
  have x1 := hb1.at (i := 1) rfl
  have x2 := hb1.at (i := 2) rfl
  have x3 := hb1.at (i := 3) rfl
  have x4 := hb1.at (i := 4) rfl
  by_cases h1 : n < 1
  · have e1 : (n < 1) = True := eq_true h1
    refine calls_vc (rs := [.cell 4 26, .tmp 5]) Fa.mix Try.func8 rfl Try.ntmps8 rfl (by kernel_rfl) (Nat.le_of_ble_eq_true rfl) ?_
    simp -dsimp only [Fa.F8, e1, rdSA_of x0, rdSN_of x0, rdSC_of x0, x0, rdSA_of x1, rdSN_of x1, rdSC_of x1, x1, rdSA_of x2, rdSN_of x2, rdSC_of x2, x2, rdSA_of x3, rdSN_of x3, rdSC_of x3, x3, rdSA_of x4, rdSN_of x4, rdSC_of x4, x4, VC.Now, VC.vc, VC.lib, VC.regQ, VC.loopK, VC.reg, VC.opP, VC.pv, VC.thenF, VC.blkF, VC.retF, VC.resV, VC.oneV, VC.evo, VC.bin, VC.binI, VC.cmpI, VC.arithI, VC.ldv, VC.slv, VC.pickP, VC.holds, VC.chainOf, VC.look, VC.junk, VC.put, VC.eff, VC.callee, VC.pureB, VC.rdK, VC.rdKs, VC.okKs, VC.eqKs, VC.fillL, VC.putL, VC.mixF, VC.setAll, Nat.reduceAdd, Nat.reduceSub, Nat.reduceMul, if_true, if_false, ↓reduceIte, forall_const, implies_true, reduceCtorEq, ne_eq, Nat.reduceBNe, Nat.reduceBEq, IntKind.signed, Nat.reduceEqDiff, Nat.reduceLeDiff, Nat.reduceLT, eq_self, Int.reduceEq, Int.reduceLT, Int.reduceLE, Int.reduceAdd, Int.reduceSub, VC.regC_nil, VC.regC_cons, VC.regCK_eq, VC.callQ, VC.tailQ, VC.goCall, VC.chStep]
    exact ⟨ok, hag⟩
  · have e1 : (n < 1) = False := eq_false h1
    by_cases h2 : 4 < n
    · have e2 : (4 < n) = True := eq_true h2
      refine calls_vc (rs := [.cell 4 26, .tmp 5]) Fa.mix Try.func8 rfl Try.ntmps8 rfl (by kernel_rfl) (Nat.le_of_ble_eq_true rfl) ?_
      simp -dsimp only [Fa.F8, e1, e2, rdSA_of x0, rdSN_of x0, rdSC_of x0, x0, rdSA_of x1, rdSN_of x1, rdSC_of x1, x1, rdSA_of x2, rdSN_of x2, rdSC_of x2, x2, rdSA_of x3, rdSN_of x3, rdSC_of x3, x3, rdSA_of x4, rdSN_of x4, rdSC_of x4, x4, VC.Now, VC.vc, VC.lib, VC.regQ, VC.loopK, VC.reg, VC.opP, VC.pv, VC.thenF, VC.blkF, VC.retF, VC.resV, VC.oneV, VC.evo, VC.bin, VC.binI, VC.cmpI, VC.arithI, VC.ldv, VC.slv, VC.pickP, VC.holds, VC.chainOf, VC.look, VC.junk, VC.put, VC.eff, VC.callee, VC.pureB, VC.rdK, VC.rdKs, VC.okKs, VC.eqKs, VC.fillL, VC.putL, VC.mixF, VC.setAll, Nat.reduceAdd, Nat.reduceSub, Nat.reduceMul, if_true, if_false, ↓reduceIte, forall_const, implies_true, reduceCtorEq, ne_eq, Nat.reduceBNe, Nat.reduceBEq, IntKind.signed, Nat.reduceEqDiff, Nat.reduceLeDiff, Nat.reduceLT, eq_self, Int.reduceEq, Int.reduceLT, Int.reduceLE, Int.reduceAdd, Int.reduceSub, VC.regC_nil, VC.regC_cons, VC.regCK_eq, VC.callQ, VC.tailQ, VC.goCall, VC.chStep]
      exact ⟨ok, hag⟩
    · have e2 : (4 < n) = False := eq_false h2
      have e3 : ((120 : Int) < len) = True := eq_true (by omega)
      refine calls_vc (rs := [.cell 4 26, .tmp 5]) Fa.mix Try.func8 rfl Try.ntmps8 rfl (by kernel_rfl) (Nat.le_of_ble_eq_true rfl) ?_
      simp -dsimp only [Fa.F8, e1, e2, e3, rdSA_of x0, rdSN_of x0, rdSC_of x0, x0, rdSA_of x1, rdSN_of x1, rdSC_of x1, x1, rdSA_of x2, rdSN_of x2, rdSC_of x2, x2, rdSA_of x3, rdSN_of x3, rdSC_of x3, x3, rdSA_of x4, rdSN_of x4, rdSC_of x4, x4, VC.Now, VC.vc, VC.lib, VC.regQ, VC.loopK, VC.reg, VC.opP, VC.pv, VC.thenF, VC.blkF, VC.retF, VC.resV, VC.oneV, VC.evo, VC.bin, VC.binI, VC.cmpI, VC.arithI, VC.ldv, VC.slv, VC.pickP, VC.holds, VC.chainOf, VC.look, VC.junk, VC.put, VC.eff, VC.callee, VC.pureB, VC.rdK, VC.rdKs, VC.okKs, VC.eqKs, VC.fillL, VC.putL, VC.mixF, VC.setAll, Nat.reduceAdd, Nat.reduceSub, Nat.reduceMul, if_true, if_false, ↓reduceIte, forall_const, implies_true, reduceCtorEq, ne_eq, Nat.reduceBNe, Nat.reduceBEq, IntKind.signed, Nat.reduceEqDiff, Nat.reduceLeDiff, Nat.reduceLT, eq_self, Int.reduceEq, Int.reduceLT, Int.reduceLE, Int.reduceAdd, Int.reduceSub, VC.regC_nil, VC.regC_cons, VC.regCK_eq, VC.callQ, VC.tailQ, VC.goCall, VC.chStep]
      exact ⟨ok, hag⟩
end Go.Proofs.Ytnggjekppdlaoaa
