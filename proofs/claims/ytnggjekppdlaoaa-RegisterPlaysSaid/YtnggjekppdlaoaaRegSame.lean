/- Many copies as one: are two answers the same? What the document says of the arguments. -/
import Derived.Test.YtnggjekppdlaoaaReg5
import Derived.Test.YtnggjekppdlaoaaRegD8
import Derived.Test.YtnggjekppdlaoaaRefSameC
namespace Go.Proofs.Ytnggjekppdlaoaa
open Go Go.RowKit Go.VC
set_option linter.unusedSimpArgs false
set_option linter.unusedVariables false

def Pair (codes : List Int) (k : Nat) (op : Nat → OpS) (v : Value) (w : World) : Prop :=
  ∃ A0 c0 A1 c1, v = .agg #[.slice A0 codes.length c0, .slice A1 k c1] ∧ Rd w A0 (codes.map (Value.int .i64)) ∧ RdOps w A1 k op
theorem Pair.nil (w : World) : Pair [] 0 (fun _ => ⟨0, false, 0, 0, 0, sto0, false, 0, 0⟩) (.agg #[nilS, nilS]) w :=
  ⟨none, 0, none, 0, rfl, fun h => absurd h (by simp), fun h => absurd h (by simp)⟩
theorem Pair.below {codes : List Int} {k : Nat} {op : Nat → OpS} {v : Value} {w w' : World} (h : Pair codes k op v w) (hB : Below w.heap.size w w') : Pair codes k op v w' := by
  obtain ⟨A0, c0, A1, c1, rfl, h0, h1⟩ := h
  exact ⟨A0, c0, A1, c1, rfl, h0.below hB, h1.below hB⟩
theorem RegV.pair {n k : Nat} {f : Nat → Call} {v : Value} {w : World} (h : RegV n f k v w) : Pair ((List.range k).map (rcode n f)) (rst n f k).k (rst n f k).op v w := by
  obtain ⟨A0, c0, A1, c1, rfl, h0, h1⟩ := h
  refine ⟨A0, c0, A1, c1, ?_, ?_, h1⟩
  · rw [List.length_map, List.length_range]
  · rw [List.map_map]; exact h0

set_option maxRecDepth 8000 in
set_option maxHeartbeats 4000000 in
theorem calleds_any {codes : List Int} {nb : Nat} {op : Nat → OpS} {x y : Value} (w : World) (hx : Pair codes nb op x w) (hy : Pair codes nb op y w) (hc : codes.length ≤ 1000) (hn : nb ≤ 1000) :
    Calls Try.prog 22 #[x, y] w fun e w' => e = .returned (.bool true) ∧ Below w.heap.size w w' := by
  obtain ⟨A0, a0, A1, a1, rfl, hA0, hA1⟩ := hx
  obtain ⟨B0, b0, B1, b1, rfl, hB0, hB1⟩ := hy
  have bx := Box.new w [.slice A0 codes.length a0, .slice A1 nb a1] 57
  have hBx : Below w.heap.size w (w.alloc (.cells #[.slice A0 codes.length a0, .slice A1 nb a1] 57)) := (Below.refl _ _).alloc (Nat.le_refl _) _
  have hzx : (w.alloc (.cells #[.slice A0 codes.length a0, .slice A1 nb a1] 57)).heap.size = w.heap.size + 1 := by simp
  refine calls_vc (rs := [.tmp 4]) Fa.mix Try.func22 rfl Try.ntmps22 rfl (by kernel_rfl) (Nat.le_of_ble_eq_true rfl) ?_
  (repeat rw [vc_seq]); refine vc_plain _ fun Q hQ => ?_; simp -dsimp only [Fa.F22, VC.Now, VC.vc_skip, VC.vc_ret, VC.vc_exit, VC.vc_block, VC.vc_cond, VC.vc_region, VC.lib, VC.regQ, VC.loopK, VC.reg, VC.opP, VC.pv, VC.thenF, VC.blkF, VC.retF, VC.resV, VC.oneV, VC.evo, VC.bin, VC.binI, VC.cmpI, VC.arithI, VC.ldv, VC.slv, VC.pickP, VC.holds, VC.chainOf, VC.look, VC.junk, VC.put, VC.eff, VC.callee, VC.pureB, VC.rdK, VC.rdKs, VC.okKs, VC.eqKs, VC.fillL, VC.putL, VC.stW, VC.stOK, VC.mixF, VC.setAll, Nat.reduceAdd, Nat.reduceSub, Nat.reduceMul, if_true, if_false, ↓reduceIte, forall_const, implies_true, reduceCtorEq, ne_eq, Nat.reduceBNe, Nat.reduceBEq, IntKind.signed, Nat.reduceEqDiff, Nat.reduceLeDiff, Nat.reduceLT, eq_self, Int.reduceEq, Int.reduceLT, Int.reduceLE, Int.reduceAdd, Int.reduceSub, VC.regC_nil, VC.regC_cons, VC.regCK_eq, VC.callQ, VC.tailQ, VC.goCall, VC.chStep]
  change Box (w.alloc (.cells #[.slice A0 codes.length a0, .slice A1 nb a1] 57)) _ _ at bx
  change Q _ _ ((w.alloc (.cells #[.slice A0 codes.length a0, .slice A1 nb a1] 57)).alloc _)
  generalize w.alloc (.cells #[.slice A0 codes.length a0, .slice A1 nb a1] 57) = w1 at bx hBx hzx ⊢
  have bY := Box.new w1 [.slice B0 codes.length b0, .slice B1 nb b1] 57
  have hBy : Below w1.heap.size w1 (w1.alloc (.cells #[.slice B0 codes.length b0, .slice B1 nb b1] 57)) := (Below.refl _ _).alloc (Nat.le_refl _) _
  change Box (w1.alloc (.cells #[.slice B0 codes.length b0, .slice B1 nb b1] 57)) _ _ at bY
  replace bx := bx.below hBy
  have hB := hBx.trans (hBy.mono (by omega))
  rw [hzx] at bY
  generalize w1.alloc (.cells #[.slice B0 codes.length b0, .slice B1 nb b1] 57) = w2 at bx bY hB ⊢
  clear hBy hBx
  clear hzx
  have x0 := bx.at (i := 0) rfl
  have x1 := bx.at (i := 1) rfl
  have y0 := bY.at (i := 0) rfl
  have y1 := bY.at (i := 1) rfl
  have hxl := bx.1
  have hyl := bY.1
  have bl := hB
  subst hQ; simp -dsimp only [VC.Now, VC.vc_skip, VC.vc_ret, VC.vc_exit, VC.vc_block, VC.vc_cond, VC.vc_region, VC.lib, VC.regQ, VC.loopK, VC.reg, VC.opP, VC.pv, VC.thenF, VC.blkF, VC.retF, VC.resV, VC.oneV, VC.evo, VC.bin, VC.binI, VC.cmpI, VC.arithI, VC.ldv, VC.slv, VC.pickP, VC.holds, VC.chainOf, VC.look, VC.junk, VC.put, VC.eff, VC.callee, VC.pureB, VC.rdK, VC.rdKs, VC.okKs, VC.eqKs, VC.fillL, VC.putL, VC.stW, VC.stOK, VC.mixF, VC.setAll, Nat.reduceAdd, Nat.reduceSub, Nat.reduceMul, if_true, if_false, ↓reduceIte, forall_const, implies_true, reduceCtorEq, ne_eq, Nat.reduceBNe, Nat.reduceBEq, IntKind.signed, Nat.reduceEqDiff, Nat.reduceLeDiff, Nat.reduceLT, eq_self, Int.reduceEq, Int.reduceLT, Int.reduceLE, Int.reduceAdd, Int.reduceSub, VC.regC_nil, VC.regC_cons, VC.regCK_eq, VC.callQ, VC.tailQ, VC.goCall, VC.chStep]; (repeat rw [vc_seq]); refine vc_plain _ fun Q hQ => ?_; simp -dsimp only [Fa.F22, rdSA_of x0, rdSN_of x0, rdSC_of x0, x0, rdSA_of x1, rdSN_of x1, rdSC_of x1, x1, rdSA_of y0, rdSN_of y0, rdSC_of y0, y0, rdSA_of y1, rdSN_of y1, rdSC_of y1, y1, VC.Now, VC.vc_skip, VC.vc_ret, VC.vc_exit, VC.vc_block, VC.vc_cond, VC.vc_region, VC.lib, VC.regQ, VC.loopK, VC.reg, VC.opP, VC.pv, VC.thenF, VC.blkF, VC.retF, VC.resV, VC.oneV, VC.evo, VC.bin, VC.binI, VC.cmpI, VC.arithI, VC.ldv, VC.slv, VC.pickP, VC.holds, VC.chainOf, VC.look, VC.junk, VC.put, VC.eff, VC.callee, VC.pureB, VC.rdK, VC.rdKs, VC.okKs, VC.eqKs, VC.fillL, VC.putL, VC.stW, VC.stOK, VC.mixF, VC.setAll, Nat.reduceAdd, Nat.reduceSub, Nat.reduceMul, if_true, if_false, ↓reduceIte, forall_const, implies_true, reduceCtorEq, ne_eq, Nat.reduceBNe, Nat.reduceBEq, IntKind.signed, Nat.reduceEqDiff, Nat.reduceLeDiff, Nat.reduceLT, eq_self, Int.reduceEq, Int.reduceLT, Int.reduceLE, Int.reduceAdd, Int.reduceSub, VC.regC_nil, VC.regC_cons, VC.regCK_eq, VC.callQ, VC.tailQ, VC.goCall, VC.chStep]
  refine CALL_of (codes_any A0 B0 a0 b0 codes codes w2 (hA0.below hB) (hB0.below hB) (by omega) (by omega)) fun w3 hw3 => ?_
  rw [VC.Now, VC.seqK_eq]
  replace bx := bx.below hw3
  replace bY := bY.below hw3
  replace hB := hB.trans (hw3.mono hB.size)
  clear x0 x1 y0 y1 hw3
  have x0 := bx.at (i := 0) rfl
  have x1 := bx.at (i := 1) rfl
  have y0 := bY.at (i := 0) rfl
  have y1 := bY.at (i := 1) rfl
  have e0 : decide (codes = codes) = true := decide_eq_true rfl
  have e7' : ((nb : Int) = nb) = True := eq_true rfl
  simp -dsimp only [Fa.F22, e0, e7', rdSA_of x0, rdSN_of x0, rdSC_of x0, x0, rdSA_of x1, rdSN_of x1, rdSC_of x1, x1, rdSA_of y0, rdSN_of y0, rdSC_of y0, y0, rdSA_of y1, rdSN_of y1, rdSC_of y1, y1, VC.Now, VC.vc_skip, VC.vc_ret, VC.vc_exit, VC.vc_block, VC.vc_cond, VC.vc_region, VC.lib, VC.regQ, VC.loopK, VC.reg, VC.opP, VC.pv, VC.thenF, VC.blkF, VC.retF, VC.resV, VC.oneV, VC.evo, VC.bin, VC.binI, VC.cmpI, VC.arithI, VC.ldv, VC.slv, VC.pickP, VC.holds, VC.chainOf, VC.look, VC.junk, VC.put, VC.eff, VC.callee, VC.pureB, VC.rdK, VC.rdKs, VC.okKs, VC.eqKs, VC.fillL, VC.putL, VC.stW, VC.stOK, VC.mixF, VC.setAll, Nat.reduceAdd, Nat.reduceSub, Nat.reduceMul, if_true, if_false, ↓reduceIte, forall_const, implies_true, reduceCtorEq, ne_eq, Nat.reduceBNe, Nat.reduceBEq, IntKind.signed, Nat.reduceEqDiff, Nat.reduceLeDiff, Nat.reduceLT, eq_self, Int.reduceEq, Int.reduceLT, Int.reduceLE, Int.reduceAdd, Int.reduceSub, VC.regC_nil, VC.regC_cons, VC.regCK_eq, VC.callQ, VC.tailQ, VC.goCall, VC.chStep]
  subst hQ
  simp -dsimp only [Fa.F22, e7', VC.Now, VC.vc, VC.lib, VC.regQ, VC.loopK, VC.reg, VC.opP, VC.pv, VC.thenF, VC.blkF, VC.retF, VC.resV, VC.oneV, VC.evo, VC.bin, VC.binI, VC.cmpI, VC.arithI, VC.ldv, VC.slv, VC.pickP, VC.holds, VC.chainOf, VC.look, VC.junk, VC.put, VC.eff, VC.callee, VC.pureB, VC.rdK, VC.rdKs, VC.okKs, VC.eqKs, VC.fillL, VC.putL, VC.stW, VC.stOK, VC.mixF, VC.setAll, Nat.reduceAdd, Nat.reduceSub, Nat.reduceMul, if_true, if_false, ↓reduceIte, forall_const, implies_true, reduceCtorEq, ne_eq, Nat.reduceBNe, Nat.reduceBEq, IntKind.signed, Nat.reduceEqDiff, Nat.reduceLeDiff, Nat.reduceLT, eq_self, Int.reduceEq, Int.reduceLT, Int.reduceLE, Int.reduceAdd, Int.reduceSub, VC.regC_nil, VC.regC_cons, VC.regCK_eq, VC.callQ, VC.tailQ, VC.goCall, VC.chStep]
  refine loop_slots Fa.mix [5] [4, 21, 22, 23, 24, 25, 26, 27, 28, 29, 30, 31, 32, 33, 34, 35, 36, 37, 38] (fun m vs wr => ∃ k : Nat, k + m = nb ∧ vs = [.int .i64 k] ∧ Below w.heap.size w wr ∧ Box wr w.heap.size [.slice A0 codes.length a0, .slice A1 nb a1] ∧ Box wr (w.heap.size + 1) [.slice B0 codes.length b0, .slice B1 nb b1]) nb (by kernel_rfl) rfl
    ⟨0, by omega, rfl, hB, bx, bY⟩ ?_
  clear x0 x1 y0 y1 bx bY hB bl
  rintro m vs u wr ⟨k, hkm, rfl, hB, bx, bY⟩
  have x1 := bx.at (i := 1) rfl
  have y1 := bY.at (i := 1) rfl
  by_cases hk : k < nb
  · have e7 : ((k : Int) < nb) = True := eq_true (by omega)
    obtain ⟨b, o, rfl, hb, hc⟩ := (hA1.below hB) (by omega)
    obtain ⟨b', o', rfl, hb', hc'⟩ := (hB1.below hB) (by omega)
    have p0 := hc k hk 0 _ rfl
    have p1 := hc k hk 1 _ rfl
    have p2 := hc k hk 2 _ rfl
    have p3 := hc k hk 3 _ rfl
    have p4 := hc k hk 4 _ rfl
    have p5 := hc k hk 5 _ rfl
    have q0 := hc' k hk 0 _ rfl
    have q1 := hc' k hk 1 _ rfl
    have q2 := hc' k hk 2 _ rfl
    have q3 := hc' k hk 3 _ rfl
    have q4 := hc' k hk 4 _ rfl
    have q5 := hc' k hk 5 _ rfl
    simp only [Nat.add_zero] at p0 q0
    have ebb : ((op k).wr == (op k).wr) = true := by simp
    simp -dsimp only [Fa.F22, e7, rdSA_of x1, rdSN_of x1, rdSC_of x1, x1, rdSA_of y1, rdSN_of y1, rdSC_of y1, y1, rdI_of p0, p0, rdI_of p1, p1, rdB_of p2, p2, rdI_of p3, p3, rdI_of p4, p4, rdI_of p5, p5, rdI_of q0, q0, rdI_of q1, q1, rdB_of q2, q2, rdI_of q3, q3, rdI_of q4, q4, rdI_of q5, q5, ebb, Int.toNat_natCast, VC.Now, VC.vc, VC.lib, VC.regQ, VC.loopK, VC.reg, VC.opP, VC.pv, VC.thenF, VC.blkF, VC.retF, VC.resV, VC.oneV, VC.evo, VC.bin, VC.binI, VC.cmpI, VC.arithI, VC.ldv, VC.slv, VC.pickP, VC.holds, VC.chainOf, VC.look, VC.junk, VC.put, VC.eff, VC.callee, VC.pureB, VC.rdK, VC.rdKs, VC.okKs, VC.eqKs, VC.fillL, VC.putL, VC.stW, VC.stOK, VC.mixF, VC.setAll, Nat.reduceAdd, Nat.reduceSub, Nat.reduceMul, if_true, if_false, ↓reduceIte, forall_const, implies_true, reduceCtorEq, ne_eq, Nat.reduceBNe, Nat.reduceBEq, IntKind.signed, Nat.reduceEqDiff, Nat.reduceLeDiff, Nat.reduceLT, eq_self, Int.reduceEq, Int.reduceLT, Int.reduceLE, Int.reduceAdd, Int.reduceSub, VC.regC_nil, VC.regC_cons, VC.regCK_eq, VC.callQ, VC.tailQ, VC.goCall, VC.chStep]
    refine ⟨by omega, by omega, fun u1 => ⟨fits_i64_nat (by omega), SAME.intro (by kernel_rfl), m - 1, by omega, k + 1, by omega, rfl, below_drewN hB u1, bx.below (below_drewN (Below.refl _ _) u1), bY.below (below_drewN (Below.refl _ _) u1)⟩⟩
  · obtain rfl : k = nb := by omega
    have e7 : ((k : Int) < k) = False := eq_false (by omega)
    simp -dsimp only [Fa.F22, e7, rdSA_of x1, rdSN_of x1, rdSC_of x1, x1, VC.Now, VC.vc, VC.lib, VC.regQ, VC.loopK, VC.reg, VC.opP, VC.pv, VC.thenF, VC.blkF, VC.retF, VC.resV, VC.oneV, VC.evo, VC.bin, VC.binI, VC.cmpI, VC.arithI, VC.ldv, VC.slv, VC.pickP, VC.holds, VC.chainOf, VC.look, VC.junk, VC.put, VC.eff, VC.callee, VC.pureB, VC.rdK, VC.rdKs, VC.okKs, VC.eqKs, VC.fillL, VC.putL, VC.stW, VC.stOK, VC.mixF, VC.setAll, Nat.reduceAdd, Nat.reduceSub, Nat.reduceMul, if_true, if_false, ↓reduceIte, forall_const, implies_true, reduceCtorEq, ne_eq, Nat.reduceBNe, Nat.reduceBEq, IntKind.signed, Nat.reduceEqDiff, Nat.reduceLeDiff, Nat.reduceLT, eq_self, Int.reduceEq, Int.reduceLT, Int.reduceLE, Int.reduceAdd, Int.reduceSub, VC.regC_nil, VC.regC_cons, VC.regCK_eq, VC.callQ, VC.tailQ, VC.goCall, VC.chStep]
    exact hB
def copCode (n : Int) (len : Nat) : Int := if n < 1 ∨ 5 < n ∨ 120 < len then 1 else 0
theorem copiesCheck_any (n : Int) (len : Nat) (w : World) :
    Calls Try.prog 20 #[.int .i64 n, .int .i64 len] w fun e w' => e = .returned (.int .i64 (copCode n len)) ∧ w' = w := by
  by_cases h1 : n < 1 ∨ 5 < n ∨ 120 < len
  · have hcode : copCode n len = 1 := by unfold copCode; rw [if_pos h1]
    rw [hcode]
    by_cases q1 : n < 1
    · have e1 := eq_true q1
      refine calls_vc (rs := [.tmp 4]) Fa.mix Try.func20 rfl Try.ntmps20 rfl (by kernel_rfl) (Nat.le_of_ble_eq_true rfl) ?_
      simp -dsimp only [Fa.F20, e1, undef, tu, uf, ul, ur, VC.Now, VC.vc, VC.lib, VC.regQ, VC.loopK, VC.reg, VC.opP, VC.pv, VC.thenF, VC.blkF, VC.retF, VC.resV, VC.oneV, VC.evo, VC.bin, VC.binI, VC.cmpI, VC.arithI, VC.ldv, VC.slv, VC.pickP, VC.holds, VC.chainOf, VC.look, VC.junk, VC.put, VC.eff, VC.callee, VC.pureB, VC.rdK, VC.rdKs, VC.okKs, VC.eqKs, VC.fillL, VC.putL, VC.stW, VC.stOK, VC.mixF, VC.setAll, Nat.reduceAdd, Nat.reduceSub, Nat.reduceMul, if_true, if_false, ↓reduceIte, forall_const, implies_true, reduceCtorEq, ne_eq, Nat.reduceBNe, Nat.reduceBEq, IntKind.signed, Nat.reduceEqDiff, Nat.reduceLeDiff, Nat.reduceLT, eq_self, Int.reduceEq, Int.reduceLT, Int.reduceLE, Int.reduceAdd, Int.reduceSub, VC.regC_nil, VC.regC_cons, VC.regCK_eq, VC.callQ, VC.tailQ, VC.goCall, VC.chStep]
    have e1 := eq_false q1
    by_cases q2 : 5 < n
    · have e2 := eq_true q2
      refine calls_vc (rs := [.tmp 4]) Fa.mix Try.func20 rfl Try.ntmps20 rfl (by kernel_rfl) (Nat.le_of_ble_eq_true rfl) ?_
      simp -dsimp only [Fa.F20, e1, e2, undef, tu, uf, ul, ur, VC.Now, VC.vc, VC.lib, VC.regQ, VC.loopK, VC.reg, VC.opP, VC.pv, VC.thenF, VC.blkF, VC.retF, VC.resV, VC.oneV, VC.evo, VC.bin, VC.binI, VC.cmpI, VC.arithI, VC.ldv, VC.slv, VC.pickP, VC.holds, VC.chainOf, VC.look, VC.junk, VC.put, VC.eff, VC.callee, VC.pureB, VC.rdK, VC.rdKs, VC.okKs, VC.eqKs, VC.fillL, VC.putL, VC.stW, VC.stOK, VC.mixF, VC.setAll, Nat.reduceAdd, Nat.reduceSub, Nat.reduceMul, if_true, if_false, ↓reduceIte, forall_const, implies_true, reduceCtorEq, ne_eq, Nat.reduceBNe, Nat.reduceBEq, IntKind.signed, Nat.reduceEqDiff, Nat.reduceLeDiff, Nat.reduceLT, eq_self, Int.reduceEq, Int.reduceLT, Int.reduceLE, Int.reduceAdd, Int.reduceSub, VC.regC_nil, VC.regC_cons, VC.regCK_eq, VC.callQ, VC.tailQ, VC.goCall, VC.chStep]
    have e2 := eq_false q2
    have e3 : ((120 : Int) < len) = True := eq_true (by omega)
    refine calls_vc (rs := [.tmp 4]) Fa.mix Try.func20 rfl Try.ntmps20 rfl (by kernel_rfl) (Nat.le_of_ble_eq_true rfl) ?_
    simp -dsimp only [Fa.F20, e1, e2, e3, undef, tu, uf, ul, ur, VC.Now, VC.vc, VC.lib, VC.regQ, VC.loopK, VC.reg, VC.opP, VC.pv, VC.thenF, VC.blkF, VC.retF, VC.resV, VC.oneV, VC.evo, VC.bin, VC.binI, VC.cmpI, VC.arithI, VC.ldv, VC.slv, VC.pickP, VC.holds, VC.chainOf, VC.look, VC.junk, VC.put, VC.eff, VC.callee, VC.pureB, VC.rdK, VC.rdKs, VC.okKs, VC.eqKs, VC.fillL, VC.putL, VC.stW, VC.stOK, VC.mixF, VC.setAll, Nat.reduceAdd, Nat.reduceSub, Nat.reduceMul, if_true, if_false, ↓reduceIte, forall_const, implies_true, reduceCtorEq, ne_eq, Nat.reduceBNe, Nat.reduceBEq, IntKind.signed, Nat.reduceEqDiff, Nat.reduceLeDiff, Nat.reduceLT, eq_self, Int.reduceEq, Int.reduceLT, Int.reduceLE, Int.reduceAdd, Int.reduceSub, VC.regC_nil, VC.regC_cons, VC.regCK_eq, VC.callQ, VC.tailQ, VC.goCall, VC.chStep]
  have e1 : (n < 1) = False := eq_false (by omega)
  have e2 : (5 < n) = False := eq_false (by omega)
  have e3 : ((120 : Int) < len) = False := eq_false (by omega)
  have hcode : copCode n len = 0 := by unfold copCode; rw [if_neg h1]
  rw [hcode]
  refine calls_vc (rs := [.tmp 4]) Fa.mix Try.func20 rfl Try.ntmps20 rfl (by kernel_rfl) (Nat.le_of_ble_eq_true rfl) ?_
  simp -dsimp only [Fa.F20, e1, e2, e3, undef, tu, uf, ul, ur, VC.Now, VC.vc, VC.lib, VC.regQ, VC.loopK, VC.reg, VC.opP, VC.pv, VC.thenF, VC.blkF, VC.retF, VC.resV, VC.oneV, VC.evo, VC.bin, VC.binI, VC.cmpI, VC.arithI, VC.ldv, VC.slv, VC.pickP, VC.holds, VC.chainOf, VC.look, VC.junk, VC.put, VC.eff, VC.callee, VC.pureB, VC.rdK, VC.rdKs, VC.okKs, VC.eqKs, VC.fillL, VC.putL, VC.stW, VC.stOK, VC.mixF, VC.setAll, Nat.reduceAdd, Nat.reduceSub, Nat.reduceMul, if_true, if_false, ↓reduceIte, forall_const, implies_true, reduceCtorEq, ne_eq, Nat.reduceBNe, Nat.reduceBEq, IntKind.signed, Nat.reduceEqDiff, Nat.reduceLeDiff, Nat.reduceLT, eq_self, Int.reduceEq, Int.reduceLT, Int.reduceLE, Int.reduceAdd, Int.reduceSub, VC.regC_nil, VC.regC_cons, VC.regCK_eq, VC.callQ, VC.tailQ, VC.goCall, VC.chStep]
end Go.Proofs.Ytnggjekppdlaoaa
