/- A picture of what moves, the document's: money is sent. -/
import Derived.Test.YtelfmhiaafkimaaSnapD3
namespace Go.Proofs.Ytelfmhiaafkimaa
open Go Go.RowKit Go.VC
set_option linter.unusedSimpArgs false
set_option linter.unusedVariables false
set_option maxRecDepth 8000 in
set_option maxHeartbeats 8000000 in
theorem pass_rest : passBut.1 := by
  unfold passBut
  refine ⟨?_, trivial⟩
  intro B n a p sv vc bv dn w h hb hn c hcf hnn36 w2 hB h2 sb hsb y0 z0 z1 z2 z3 hyl q0 k3 e3 k2 e1
  (repeat rw [vc_seq]); refine vc_plain _ fun Q3 hQ3 => ?_; simp -dsimp (maxSteps := 2000000) only [Fa.F58, rdI_of z0, z0, hyl, e1, undef, tu, uf, ul, ur, VC.Now, VC.vc_skip, VC.vc_ret, VC.vc_exit, VC.vc_block, VC.vc_cond, VC.vc_region, VC.lib, VC.mapN_drewN, VC.mapB_drewN, VC.regQ, VC.loopK, VC.reg, VC.opP, VC.opS, VC.opZ, VC.nomulB, VC.pv, VC.thenF, VC.blkF, VC.retF, VC.resV, VC.oneV, VC.evo, VC.bin, VC.binI, VC.cmpI, VC.arithI, VC.ldv, VC.slv, VC.pickP, VC.holds, VC.chainOf, VC.look, VC.junk, VC.put, VC.eff, VC.callee, VC.pureB, VC.rdK, VC.rdKs, VC.okKs, VC.eqKs, VC.fillL, VC.putL, VC.stW, VC.stOK, VC.mixF, VC.setAll, Nat.reduceAdd, Nat.reduceSub, Nat.reduceMul, if_true, if_false, ↓reduceIte, forall_const, implies_true, reduceCtorEq, ne_eq, Nat.reduceBNe, Nat.reduceBEq, IntKind.signed, Nat.reduceEqDiff, Nat.reduceLeDiff, Nat.reduceLT, eq_self, Int.reduceEq, Int.reduceLT, Int.reduceLE, Int.reduceAdd, Int.reduceSub, VC.regC_nil, VC.regC_cons, VC.regCK_eq, VC.callQ, VC.tailQ, VC.goCall, VC.chStep]
  subst hQ3
  by_cases q1 : c.who < 0 ∨ n ≤ c.who
  · have hr : dpass n c p = (2, p) := by unfold dpass; rw [if_neg q0, if_pos q1]
    by_cases a1 : c.who < 0
    · have b1 := eq_true a1
      simp -dsimp (maxSteps := 2000000) only [Fa.F58, rdI_of z1, z1, hyl, b1, undef, tu, uf, ul, ur, VC.Now, VC.vc, VC.lib, VC.mapN_drewN, VC.mapB_drewN, VC.regQ, VC.loopK, VC.reg, VC.opP, VC.opS, VC.opZ, VC.nomulB, VC.pv, VC.thenF, VC.blkF, VC.retF, VC.resV, VC.oneV, VC.evo, VC.bin, VC.binI, VC.cmpI, VC.arithI, VC.ldv, VC.slv, VC.pickP, VC.holds, VC.chainOf, VC.look, VC.junk, VC.put, VC.eff, VC.callee, VC.pureB, VC.rdK, VC.rdKs, VC.okKs, VC.eqKs, VC.fillL, VC.putL, VC.stW, VC.stOK, VC.mixF, VC.setAll, Nat.reduceAdd, Nat.reduceSub, Nat.reduceMul, if_true, if_false, ↓reduceIte, forall_const, implies_true, reduceCtorEq, ne_eq, Nat.reduceBNe, Nat.reduceBEq, IntKind.signed, Nat.reduceEqDiff, Nat.reduceLeDiff, Nat.reduceLT, eq_self, Int.reduceEq, Int.reduceLT, Int.reduceLE, Int.reduceAdd, Int.reduceSub, VC.regC_nil, VC.regC_cons, VC.regCK_eq, VC.callQ, VC.tailQ, VC.goCall, VC.chStep]
      all_goals try intros
      exact ⟨by rw [hr], sv, by rw [hr]; exact (h.below_st hB)⟩
    · have b1 := eq_false a1
      have b2 : ((n : Int) ≤ c.who) = True := eq_true (by omega)
      simp -dsimp (maxSteps := 2000000) only [Fa.F58, rdI_of z1, z1, hyl, b1, b2, undef, tu, uf, ul, ur, VC.Now, VC.vc, VC.lib, VC.mapN_drewN, VC.mapB_drewN, VC.regQ, VC.loopK, VC.reg, VC.opP, VC.opS, VC.opZ, VC.nomulB, VC.pv, VC.thenF, VC.blkF, VC.retF, VC.resV, VC.oneV, VC.evo, VC.bin, VC.binI, VC.cmpI, VC.arithI, VC.ldv, VC.slv, VC.pickP, VC.holds, VC.chainOf, VC.look, VC.junk, VC.put, VC.eff, VC.callee, VC.pureB, VC.rdK, VC.rdKs, VC.okKs, VC.eqKs, VC.fillL, VC.putL, VC.stW, VC.stOK, VC.mixF, VC.setAll, Nat.reduceAdd, Nat.reduceSub, Nat.reduceMul, if_true, if_false, ↓reduceIte, forall_const, implies_true, reduceCtorEq, ne_eq, Nat.reduceBNe, Nat.reduceBEq, IntKind.signed, Nat.reduceEqDiff, Nat.reduceLeDiff, Nat.reduceLT, eq_self, Int.reduceEq, Int.reduceLT, Int.reduceLE, Int.reduceAdd, Int.reduceSub, VC.regC_nil, VC.regC_cons, VC.regCK_eq, VC.callQ, VC.tailQ, VC.goCall, VC.chStep]
      all_goals try intros
      exact ⟨by rw [hr], sv, by rw [hr]; exact (h.below_st hB)⟩
  have b1 : (c.who < 0) = False := eq_false (by omega)
  have b2 : ((n : Int) ≤ c.who) = False := eq_false (by omega)
  obtain ⟨x, hx0⟩ : ∃ x : Nat, c.who = x := ⟨c.who.toNat, by omega⟩
  have hxn : x < n := by omega
  have hxt : c.who.toNat = x := by omega
  rw [hx0] at z1 b1 b2
  have bo : Box w2 a.ob [vc, .slice (some ⟨a.gm, 0, none⟩) n a.cm, .slice (some ⟨a.go, 0, none⟩) n a.co, bv, .bool dn] := h2.get 0 rfl
  have m1 := bo.at (i := 1) rfl
  have m2 := bo.at (i := 2) rfl
  have hol := bo.1
  have bm : Box w2 a.gm ((List.range n).map fun i => iV (p.money i)) := h2.get 1 rfl
  have bg : Box w2 a.go ((List.range n).map fun i => iV (p.own i)) := h2.get 2 rfl
  have c0 : w2.cell? ⟨a.gm, x, none⟩ = some (iV (p.money x)) := bm.at (i := x) (by simp [hxn])
  have c1 : w2.cell? ⟨a.go, x, none⟩ = some (iV (p.own x)) := bg.at (i := x) (by simp [hxn])
  have hml := bm.1
  have hgl := bg.1
  by_cases q3 : (c.other < 0 ∨ n ≤ c.other) ∨ c.other = c.who
  · have hr : dpass n c p = (2, p) := by unfold dpass; rw [if_neg q0, if_neg q1, if_neg (by omega), if_pos q3]
    by_cases a1 : c.other < 0
    · have b3 := eq_true a1
      simp -dsimp (maxSteps := 2000000) only [Fa.F58, rdI_of z0, z0, rdI_of z1, z1, rdI_of z2, z2, hyl, b1, b2, e3, b3, undef, tu, uf, ul, ur, VC.Now, VC.vc, VC.lib, VC.mapN_drewN, VC.mapB_drewN, VC.regQ, VC.loopK, VC.reg, VC.opP, VC.opS, VC.opZ, VC.nomulB, VC.pv, VC.thenF, VC.blkF, VC.retF, VC.resV, VC.oneV, VC.evo, VC.bin, VC.binI, VC.cmpI, VC.arithI, VC.ldv, VC.slv, VC.pickP, VC.holds, VC.chainOf, VC.look, VC.junk, VC.put, VC.eff, VC.callee, VC.pureB, VC.rdK, VC.rdKs, VC.okKs, VC.eqKs, VC.fillL, VC.putL, VC.stW, VC.stOK, VC.mixF, VC.setAll, Nat.reduceAdd, Nat.reduceSub, Nat.reduceMul, if_true, if_false, ↓reduceIte, forall_const, implies_true, reduceCtorEq, ne_eq, Nat.reduceBNe, Nat.reduceBEq, IntKind.signed, Nat.reduceEqDiff, Nat.reduceLeDiff, Nat.reduceLT, eq_self, Int.reduceEq, Int.reduceLT, Int.reduceLE, Int.reduceAdd, Int.reduceSub, VC.regC_nil, VC.regC_cons, VC.regCK_eq, VC.callQ, VC.tailQ, VC.goCall, VC.chStep]
      intros
      exact ⟨by rw [hr], sv, by rw [hr]; exact (h.below_st hB)⟩
    have b3 := eq_false a1
    by_cases a2 : n ≤ c.other
    · have b4 : ((n : Int) ≤ c.other) = True := eq_true (by omega)
      simp -dsimp (maxSteps := 2000000) only [Fa.F58, rdI_of z0, z0, rdI_of z1, z1, rdI_of z2, z2, hyl, b1, b2, e3, b3, b4, undef, tu, uf, ul, ur, VC.Now, VC.vc, VC.lib, VC.mapN_drewN, VC.mapB_drewN, VC.regQ, VC.loopK, VC.reg, VC.opP, VC.opS, VC.opZ, VC.nomulB, VC.pv, VC.thenF, VC.blkF, VC.retF, VC.resV, VC.oneV, VC.evo, VC.bin, VC.binI, VC.cmpI, VC.arithI, VC.ldv, VC.slv, VC.pickP, VC.holds, VC.chainOf, VC.look, VC.junk, VC.put, VC.eff, VC.callee, VC.pureB, VC.rdK, VC.rdKs, VC.okKs, VC.eqKs, VC.fillL, VC.putL, VC.stW, VC.stOK, VC.mixF, VC.setAll, Nat.reduceAdd, Nat.reduceSub, Nat.reduceMul, if_true, if_false, ↓reduceIte, forall_const, implies_true, reduceCtorEq, ne_eq, Nat.reduceBNe, Nat.reduceBEq, IntKind.signed, Nat.reduceEqDiff, Nat.reduceLeDiff, Nat.reduceLT, eq_self, Int.reduceEq, Int.reduceLT, Int.reduceLE, Int.reduceAdd, Int.reduceSub, VC.regC_nil, VC.regC_cons, VC.regCK_eq, VC.callQ, VC.tailQ, VC.goCall, VC.chStep]
      intros
      exact ⟨by rw [hr], sv, by rw [hr]; exact (h.below_st hB)⟩
    have b4 : ((n : Int) ≤ c.other) = False := eq_false (by omega)
    have b5 : (c.other = x) = True := eq_true (by omega)
    simp -dsimp (maxSteps := 2000000) only [Fa.F58, rdI_of z0, z0, rdI_of z1, z1, rdI_of z2, z2, hyl, b1, b2, e3, b3, b4, b5, undef, tu, uf, ul, ur, VC.Now, VC.vc, VC.lib, VC.mapN_drewN, VC.mapB_drewN, VC.regQ, VC.loopK, VC.reg, VC.opP, VC.opS, VC.opZ, VC.nomulB, VC.pv, VC.thenF, VC.blkF, VC.retF, VC.resV, VC.oneV, VC.evo, VC.bin, VC.binI, VC.cmpI, VC.arithI, VC.ldv, VC.slv, VC.pickP, VC.holds, VC.chainOf, VC.look, VC.junk, VC.put, VC.eff, VC.callee, VC.pureB, VC.rdK, VC.rdKs, VC.okKs, VC.eqKs, VC.fillL, VC.putL, VC.stW, VC.stOK, VC.mixF, VC.setAll, Nat.reduceAdd, Nat.reduceSub, Nat.reduceMul, if_true, if_false, ↓reduceIte, forall_const, implies_true, reduceCtorEq, ne_eq, Nat.reduceBNe, Nat.reduceBEq, IntKind.signed, Nat.reduceEqDiff, Nat.reduceLeDiff, Nat.reduceLT, eq_self, Int.reduceEq, Int.reduceLT, Int.reduceLE, Int.reduceAdd, Int.reduceSub, VC.regC_nil, VC.regC_cons, VC.regCK_eq, VC.callQ, VC.tailQ, VC.goCall, VC.chStep]
    intros
    exact ⟨by rw [hr], sv, by rw [hr]; exact (h.below_st hB)⟩
  obtain ⟨y, hy0⟩ : ∃ y : Nat, c.other = y := ⟨c.other.toNat, by omega⟩
  have hyn : y < n := by omega
  have hyt : c.other.toNat = y := by omega
  have hxy : y ≠ x := by omega
  rw [hy0] at z2
  have b3 : ((y : Int) < 0) = False := eq_false (by omega)
  have b4 : ((n : Int) ≤ (y : Int)) = False := eq_false (by omega)
  have b5 : ((y : Int) = x) = False := eq_false (by omega)
  intro u0
  have hmx := hb.mon x hxn
  by_cases q4 : c.n < 1
  · have e4 := eq_true q4
    have hr : dpass n c p = (2, p) := by unfold dpass; rw [if_neg q0, if_neg q1, if_neg k3, if_neg q3, if_neg k2, if_pos (Or.inl q4)]
    simp -dsimp (maxSteps := 2000000) only [Fa.F58, rdI_of z0, z0, rdI_of z1, z1, rdI_of z2, z2, rdI_of z3, z3, hyl, b1, b2, e3, b3, b4, b5, e1, e4, rdSA_of m1, rdSN_of m1, rdSC_of m1, m1, rdI_of c0, c0, hol, hml, Int.toNat_natCast, Nat.zero_add, undef, tu, uf, ul, ur, VC.Now, VC.vc, VC.lib, VC.mapN_drewN, VC.mapB_drewN, VC.regQ, VC.loopK, VC.reg, VC.opP, VC.opS, VC.opZ, VC.nomulB, VC.pv, VC.thenF, VC.blkF, VC.retF, VC.resV, VC.oneV, VC.evo, VC.bin, VC.binI, VC.cmpI, VC.arithI, VC.ldv, VC.slv, VC.pickP, VC.holds, VC.chainOf, VC.look, VC.junk, VC.put, VC.eff, VC.callee, VC.pureB, VC.rdK, VC.rdKs, VC.okKs, VC.eqKs, VC.fillL, VC.putL, VC.stW, VC.stOK, VC.mixF, VC.setAll, Nat.reduceAdd, Nat.reduceSub, Nat.reduceMul, if_true, if_false, ↓reduceIte, forall_const, implies_true, reduceCtorEq, ne_eq, Nat.reduceBNe, Nat.reduceBEq, IntKind.signed, Nat.reduceEqDiff, Nat.reduceLeDiff, Nat.reduceLT, eq_self, Int.reduceEq, Int.reduceLT, Int.reduceLE, Int.reduceAdd, Int.reduceSub, VC.regC_nil, VC.regC_cons, VC.regCK_eq, VC.callQ, VC.tailQ, VC.goCall, VC.chStep]
    intros
    exact ⟨by rw [hr], sv, by rw [hr]; exact (h.below_st hB).drewN _⟩
  have e4 := eq_false q4
  by_cases q5 : p.money x < c.n
  · have e5 := eq_true q5
    have hr : dpass n c p = (2, p) := by unfold dpass; rw [if_neg q0, if_neg q1, if_neg k3, if_neg q3, if_neg k2, hxt, if_pos (Or.inr q5)]
    simp -dsimp (maxSteps := 2000000) only [Fa.F58, rdI_of z0, z0, rdI_of z1, z1, rdI_of z2, z2, rdI_of z3, z3, hyl, b1, b2, e3, b3, b4, b5, e1, e4, e5, rdSA_of m1, rdSN_of m1, rdSC_of m1, m1, rdI_of c0, c0, hol, hml, Int.toNat_natCast, Nat.zero_add, undef, tu, uf, ul, ur, VC.Now, VC.vc, VC.lib, VC.mapN_drewN, VC.mapB_drewN, VC.regQ, VC.loopK, VC.reg, VC.opP, VC.opS, VC.opZ, VC.nomulB, VC.pv, VC.thenF, VC.blkF, VC.retF, VC.resV, VC.oneV, VC.evo, VC.bin, VC.binI, VC.cmpI, VC.arithI, VC.ldv, VC.slv, VC.pickP, VC.holds, VC.chainOf, VC.look, VC.junk, VC.put, VC.eff, VC.callee, VC.pureB, VC.rdK, VC.rdKs, VC.okKs, VC.eqKs, VC.fillL, VC.putL, VC.stW, VC.stOK, VC.mixF, VC.setAll, Nat.reduceAdd, Nat.reduceSub, Nat.reduceMul, if_true, if_false, ↓reduceIte, forall_const, implies_true, reduceCtorEq, ne_eq, Nat.reduceBNe, Nat.reduceBEq, IntKind.signed, Nat.reduceEqDiff, Nat.reduceLeDiff, Nat.reduceLT, eq_self, Int.reduceEq, Int.reduceLT, Int.reduceLE, Int.reduceAdd, Int.reduceSub, VC.regC_nil, VC.regC_cons, VC.regCK_eq, VC.callQ, VC.tailQ, VC.goCall, VC.chStep]
    intros
    exact ⟨⟨by omega, by omega⟩, fun m => ⟨by rw [hr], sv, by rw [hr]; exact (h.below_st hB).drewN _⟩⟩
  have e5 := eq_false q5
  have hr : dpass n c p = (0, { p with money := upd p.money x (p.money x - c.n), lt := upd p.lt (x * n + y) { p.lt (x * n + y) with sent := (p.lt (x * n + y)).sent ++ [c.n] } }) := by unfold dpass; rw [if_neg q0, if_neg q1, if_neg k3, if_neg q3, if_neg k2, hxt, hyt, if_neg (fun hh => hh.elim q4 q5)]
  simp -dsimp (maxSteps := 2000000) only [Fa.F58, rdI_of z0, z0, rdI_of z1, z1, rdI_of z2, z2, rdI_of z3, z3, hyl, b1, b2, e3, b3, b4, b5, e1, e4, e5, rdSA_of m1, rdSN_of m1, rdSC_of m1, m1, rdI_of c0, c0, hol, hml, Int.toNat_natCast, Nat.zero_add, undef, tu, uf, ul, ur, VC.Now, VC.vc, VC.lib, VC.mapN_drewN, VC.mapB_drewN, VC.regQ, VC.loopK, VC.reg, VC.opP, VC.opS, VC.opZ, VC.nomulB, VC.pv, VC.thenF, VC.blkF, VC.retF, VC.resV, VC.oneV, VC.evo, VC.bin, VC.binI, VC.cmpI, VC.arithI, VC.ldv, VC.slv, VC.pickP, VC.holds, VC.chainOf, VC.look, VC.junk, VC.put, VC.eff, VC.callee, VC.pureB, VC.rdK, VC.rdKs, VC.okKs, VC.eqKs, VC.fillL, VC.putL, VC.stW, VC.stOK, VC.mixF, VC.setAll, Nat.reduceAdd, Nat.reduceSub, Nat.reduceMul, if_true, if_false, ↓reduceIte, forall_const, implies_true, reduceCtorEq, ne_eq, Nat.reduceBNe, Nat.reduceBEq, IntKind.signed, Nat.reduceEqDiff, Nat.reduceLeDiff, Nat.reduceLT, eq_self, Int.reduceEq, Int.reduceLT, Int.reduceLE, Int.reduceAdd, Int.reduceSub, VC.regC_nil, VC.regC_cons, VC.regCK_eq, VC.callQ, VC.tailQ, VC.goCall, VC.chStep]
  intro u1 u2
  refine ⟨⟨by omega, by omega⟩, fun u3 m => ?_⟩
  have h4 := h2.drewN m
  have hB4 := below_drewN hB m
  have y4 := y0.below (below_drewN (Below.refl _ w2) m)
  clear m1 m2 hol bo bm bg c0 c1 hml hgl z0 z1 z2 z3 hyl h2 hB y0
  generalize w2.drewN m = w4 at h4 hB4 y4 ⊢
  have bo : Box w4 a.ob [vc, .slice (some ⟨a.gm, 0, none⟩) n a.cm, .slice (some ⟨a.go, 0, none⟩) n a.co, bv, .bool dn] := h4.get 0 rfl
  have m1 := bo.at (i := 1) rfl
  have hol := bo.1
  have bm : Box w4 a.gm ((List.range n).map fun i => iV (p.money i)) := h4.get 1 rfl
  have c0 : w4.cell? ⟨a.gm, x, none⟩ = some (iV (p.money x)) := bm.at (i := x) (by simp [hxn])
  have hml := bm.1
  have z1 := y4.at (i := 1) rfl
  have z3 := y4.at (i := 3) rfl
  have hyl := y4.1
  rw [hx0] at z1
  refine wp_plain fun Q hQ => ?_
  refine WP_tail 18 Fa.mix (by kernel_rfl) (by kernel_rfl) (by kernel_rfl) rfl ?_
  simp -dsimp (maxSteps := 2000000) only [Fa.F58, rdSA_of m1, rdSN_of m1, rdSC_of m1, m1, rdI_of c0, c0, rdI_of z1, z1, rdI_of z3, z3, hol, hml, hyl, Int.toNat_natCast, Nat.zero_add, VC.Now, VC.vc_skip, VC.vc_ret, VC.vc_exit, VC.vc_block, VC.vc_cond, VC.vc_region, VC.lib, VC.mapN_drewN, VC.mapB_drewN, VC.regQ, VC.loopK, VC.reg, VC.opP, VC.opS, VC.opZ, VC.nomulB, VC.pv, VC.thenF, VC.blkF, VC.retF, VC.resV, VC.oneV, VC.evo, VC.bin, VC.binI, VC.cmpI, VC.arithI, VC.ldv, VC.slv, VC.pickP, VC.holds, VC.chainOf, VC.look, VC.junk, VC.put, VC.eff, VC.callee, VC.pureB, VC.rdK, VC.rdKs, VC.okKs, VC.eqKs, VC.fillL, VC.putL, VC.stW, VC.stOK, VC.mixF, VC.setAll, Nat.reduceAdd, Nat.reduceSub, Nat.reduceMul, if_true, if_false, ↓reduceIte, forall_const, implies_true, reduceCtorEq, ne_eq, Nat.reduceBNe, Nat.reduceBEq, IntKind.signed, Nat.reduceEqDiff, Nat.reduceLeDiff, Nat.reduceLT, eq_self, Int.reduceEq, Int.reduceLT, Int.reduceLE, Int.reduceAdd, Int.reduceSub, VC.regC_nil, VC.regC_cons, VC.regCK_eq, VC.callQ, VC.tailQ, VC.goCall, VC.chStep]
  refine ⟨⟨by omega, by omega⟩, fits_i64 (by omega) (by omega), ⟨by omega, by omega⟩, fun w7 hB7 => ?_⟩
  have h7 := h4.below hB7
  have bm7 : Box w7 a.gm ((List.range n).map fun i => iV (p.money i)) := h7.get 1 rfl
  have n7 : w7.cell? ⟨a.gm, x, none⟩ = some (iV (p.money x)) := bm7.at (i := x) (by simp [hxn])
  refine ⟨⟨by rw [n7]; rfl, bm7.soft (i := x) (by simpa using hxn)⟩, ?_⟩
  have st8 := ((h.below_st hB4).later hB7).trans (DObs.pay h7 hxn (p.money x - c.n))
  have hgm : a.gm < sb := by rw [← hsb]; exact (h.lt 1 rfl (g := a.gm) rfl).2
  have y8 := (y4.below hB7).agree (Agree.setCell (X := fun g => g = a.gm) w7 (iV (p.money x - c.n)) (a := ⟨a.gm, x, none⟩) rfl) (by omega)
  generalize w7.setCell ⟨a.gm, x, none⟩ (iV (p.money x - c.n)) = w8 at st8 y8 ⊢
  clear h7 bm7 n7 hB7 m1 hol bo bm c0 hml z1 z3 hyl h4 hB4 y4
  have h8 := st8.hp
  have z1 := y8.at (i := 1) rfl
  have z2 := y8.at (i := 2) rfl
  have z3 := y8.at (i := 3) rfl
  rw [hx0] at z1
  rw [hy0] at z2
  have hyl := y8.1
  have ht := idx_lt hxn hyn
  have hRc : Recs w8 a.gl (n * n) 3 (linL p.lt sv) := h8.get 3 rfl
  have d0 := hRc.at ht (j := 0) (by omega) rfl
  have hO := DObs.get h8 ht
  have hO : OwnK w8 0 3 1 (p.lt (x * n + y)).sent.length (sv (x * n + y)) ((p.lt (x * n + y)).sent.map iV) := hO
  obtain ⟨As, cs, es, _⟩ := id hO
  have hOe := hO
  rw [es] at d0 hOe
  simp only [Nat.add_zero] at d0
  have hll := hRc.1
  have ej1 : (x : Int) * n = ((x * n : Nat) : Int) := by simp
  have ej2 : ((x * n : Nat) : Int) + (y : Int) = ((x * n + y : Nat) : Int) := by simp
  have hyn2 : x * n ≤ n * n := Nat.mul_le_mul_right n (Nat.le_of_lt hxn)
  have w1 : IntKind.i64.wrap ((x * n : Nat) : Int) = ((x * n : Nat) : Int) := fits_wrap (fits_i64 (by omega) (by omega))
  have w2' : IntKind.i64.wrap ((x * n + y : Nat) : Int) = ((x * n + y : Nat) : Int) := fits_wrap (fits_i64 (by omega) (by omega))
  subst hQ
  simp -dsimp (maxSteps := 2000000) only [Fa.F58, rdI_of z1, z1, rdI_of z2, z2, hyl, ej1, ej2, w1, w2', Int.toNat_natCast, Nat.zero_add, VC.Now, VC.vc, VC.lib, VC.mapN_drewN, VC.mapB_drewN, VC.regQ, VC.loopK, VC.reg, VC.opP, VC.opS, VC.opZ, VC.nomulB, VC.pv, VC.thenF, VC.blkF, VC.retF, VC.resV, VC.oneV, VC.evo, VC.bin, VC.binI, VC.cmpI, VC.arithI, VC.ldv, VC.slv, VC.pickP, VC.holds, VC.chainOf, VC.look, VC.junk, VC.put, VC.eff, VC.callee, VC.pureB, VC.rdK, VC.rdKs, VC.okKs, VC.eqKs, VC.fillL, VC.putL, VC.stW, VC.stOK, VC.mixF, VC.setAll, Nat.reduceAdd, Nat.reduceSub, Nat.reduceMul, if_true, if_false, ↓reduceIte, forall_const, implies_true, reduceCtorEq, ne_eq, Nat.reduceBNe, Nat.reduceBEq, IntKind.signed, Nat.reduceEqDiff, Nat.reduceLeDiff, Nat.reduceLT, eq_self, Int.reduceEq, Int.reduceLT, Int.reduceLE, Int.reduceAdd, Int.reduceSub, VC.regC_nil, VC.regC_cons, VC.regCK_eq, VC.callQ, VC.tailQ, VC.goCall, VC.chStep]
  refine ⟨⟨by omega, by omega⟩, ?_⟩
  have hll0 : (sv (x * n + y)).ownBlock ≠ some a.gl := fun e => by
    have h8' : Hp B (headD n a { p with money := upd p.money x (p.money x - c.n) } sv vc bv dn ++ (fam (n * n) (senF p.lt sv) ++ [])) w8 := by rw [List.append_nil]; exact h8
    exact h8'.ne 3 (4 + (x * n + y)) (by omega) rfl (fam_at (L := headD n a { p with money := upd p.money x (p.money x - c.n) } sv vc bv dn) ht) a.gl rfl e
  have nyq : ¬ (sv (x * n + y)).ownBlock = some sb := fun e => by have := (h.foot_lt (DObs.fs ht e)).2; omega
  refine wp_plain fun Q hQ => ?_
  refine WP_held 11 (fun l => (sv (x * n + y)).ownBlock = some l) (.take 0 (.take 1 (.take 2 (.take 3 (.take 4 (.take 5 (.take 6 (.one 7 (.one 8 (.one 9 (.take 10 (.one 11 .done)))))))))))) Fa.mix (by kernel_rfl) rfl ?_
  simp -dsimp (maxSteps := 2000000) only [VC.heldF_done, VC.heldF_last, VC.planF_done, VC.planF_take, VC.planF_one, VC.planF_two, VC.planK_eq, VC.heldF_take, VC.heldF_one, VC.heldF_two, VC.heldF_twoL, VC.heldK_eq, VC.okRd, Fa.F58, rdSA_of d0, rdSN_of d0, rdSC_of d0, d0, rdI_of z3, z3, hll, hyl, VC.Now, VC.vc, VC.lib, VC.mapN_drewN, VC.mapB_drewN, VC.regQ, VC.loopK, VC.reg, VC.opP, VC.opS, VC.opZ, VC.nomulB, VC.pv, VC.thenF, VC.blkF, VC.retF, VC.resV, VC.oneV, VC.evo, VC.bin, VC.binI, VC.cmpI, VC.arithI, VC.ldv, VC.slv, VC.pickP, VC.holds, VC.chainOf, VC.look, VC.junk, VC.put, VC.eff, VC.callee, VC.pureB, VC.rdK, VC.rdKs, VC.okKs, VC.eqKs, VC.fillL, VC.putL, VC.stW, VC.stOK, VC.mixF, VC.setAll, Nat.reduceAdd, Nat.reduceSub, Nat.reduceMul, if_true, if_false, ↓reduceIte, forall_const, implies_true, reduceCtorEq, ne_eq, Nat.reduceBNe, Nat.reduceBEq, IntKind.signed, Nat.reduceEqDiff, Nat.reduceLeDiff, Nat.reduceLT, eq_self, Int.reduceEq, Int.reduceLT, Int.reduceLE, Int.reduceAdd, Int.reduceSub, VC.regC_nil, VC.regC_cons, VC.regCK_eq, VC.callQ, VC.tailQ, VC.goCall, VC.chStep]
  refine ⟨hll0, nyq, Agree.of_below ((below_drewN (Below.refl _ w8) 1).alloc (Nat.le_refl _) _), ?_⟩
  have st10 := st8.drewN 1
  have hQd : OwnK (w8.drewN 1) 0 3 1 (p.lt (x * n + y)).sent.length (.slice As (p.lt (x * n + y)).sent.length cs) ((p.lt (x * n + y)).sent.map iV) := hOe
  have hlq := hb.len (x * n + y)
  refine OPW_appK (v := .slice As (p.lt (x * n + y)).sent.length cs) (us := [iV c.n]) rfl Fa.apI23 rfl rfl rfl (by simp [Value.oneCell']) hQd (Nat.zero_le _) (by omega) (by decide) fun v7 w10 ho7 hg7 hst7 => ?_
  have ho7' : OwnK w10 0 3 1 ((p.lt (x * n + y)).sent ++ [c.n]).length v7 (((p.lt (x * n + y)).sent ++ [c.n]).map iV) := by rw [List.length_append, List.map_append]; exact ho7
  obtain ⟨A7, c7, e7v, _⟩ := id ho7
  rw [← es] at hg7 hst7
  obtain ⟨⟨g1, g2⟩, st11⟩ := DObs.sent st10.hp ht (x := c.n) ho7' hg7 hst7
  have ag1 : Agree (fun l => (sv (x * n + y)).ownBlock = some l) w8 w10 := (Agree.of_below (below_drewN (Below.refl _ w8) 1)).trans (Agree.grown hg7 fun g hg => hg)
  have hbl10 : a.gl < w10.heap.size := Nat.lt_of_lt_of_le hll ag1.size
  have st12 := st10.trans st11
  subst e7v
  simp -dsimp (maxSteps := 2000000) only [VC.heldF_done, VC.heldF_last, VC.planF_done, VC.planF_take, VC.planF_one, VC.planF_two, VC.planK_eq, VC.heldF_take, VC.heldF_one, VC.heldF_two, VC.heldF_twoL, VC.heldK_eq, VC.okRd, Fa.F58, rdSA_of d0, rdSN_of d0, rdSC_of d0, d0, rdI_of z3, z3, hll, hyl, hbl10, g1, g2, VC.Now, VC.vc, VC.lib, VC.mapN_drewN, VC.mapB_drewN, VC.regQ, VC.loopK, VC.reg, VC.opP, VC.opS, VC.opZ, VC.nomulB, VC.pv, VC.thenF, VC.blkF, VC.retF, VC.resV, VC.oneV, VC.evo, VC.bin, VC.binI, VC.cmpI, VC.arithI, VC.ldv, VC.slv, VC.pickP, VC.holds, VC.chainOf, VC.look, VC.junk, VC.put, VC.eff, VC.callee, VC.pureB, VC.rdK, VC.rdKs, VC.okKs, VC.eqKs, VC.fillL, VC.putL, VC.stW, VC.stOK, VC.mixF, VC.setAll, Nat.reduceAdd, Nat.reduceSub, Nat.reduceMul, if_true, if_false, ↓reduceIte, forall_const, implies_true, reduceCtorEq, ne_eq, Nat.reduceBNe, Nat.reduceBEq, IntKind.signed, Nat.reduceEqDiff, Nat.reduceLeDiff, Nat.reduceLT, eq_self, Int.reduceEq, Int.reduceLT, Int.reduceLE, Int.reduceAdd, Int.reduceSub, VC.regC_nil, VC.regC_cons, VC.regCK_eq, VC.callQ, VC.tailQ, VC.goCall, VC.chStep]
  refine ⟨ag1, ag1, ?_⟩
  subst hQ
  simp -dsimp (maxSteps := 2000000) only [Fa.F58, VC.Now, VC.vc, VC.lib, VC.mapN_drewN, VC.mapB_drewN, VC.regQ, VC.loopK, VC.reg, VC.opP, VC.opS, VC.opZ, VC.nomulB, VC.pv, VC.thenF, VC.blkF, VC.retF, VC.resV, VC.oneV, VC.evo, VC.bin, VC.binI, VC.cmpI, VC.arithI, VC.ldv, VC.slv, VC.pickP, VC.holds, VC.chainOf, VC.look, VC.junk, VC.put, VC.eff, VC.callee, VC.pureB, VC.rdK, VC.rdKs, VC.okKs, VC.eqKs, VC.fillL, VC.putL, VC.stW, VC.stOK, VC.mixF, VC.setAll, Nat.reduceAdd, Nat.reduceSub, Nat.reduceMul, if_true, if_false, ↓reduceIte, forall_const, implies_true, reduceCtorEq, ne_eq, Nat.reduceBNe, Nat.reduceBEq, IntKind.signed, Nat.reduceEqDiff, Nat.reduceLeDiff, Nat.reduceLT, eq_self, Int.reduceEq, Int.reduceLT, Int.reduceLE, Int.reduceAdd, Int.reduceSub, VC.regC_nil, VC.regC_cons, VC.regCK_eq, VC.callQ, VC.tailQ, VC.goCall, VC.chStep]
  exact ⟨by rw [hr], _, by rw [hr]; exact st12⟩
theorem pass_any {B n : Nat} {a : DA} {p : DP} {sv : Nat → Value} {vc bv : Value} {dn : Bool} {w : World} (h : Hp B (DObs n a p sv vc bv dn) w) (hb : DB n p) (hn : n ≤ 6) (c : PassC) (hcf : fits .i64 c.n) :
    Calls Try.prog 58 #[.agg #[iV c.kind, iV c.who, iV c.other, iV c.n], iV n, ptrV a.ob, .slice (some ⟨a.gl, 0, none⟩) (n * n) (n * n)] w fun e w' => e = .returned (iV (dpass n c p).1) ∧ ∃ sv', St B (DObs n a p sv vc bv dn) w (DObs n a (dpass n c p).2 sv' vc bv dn) w' :=
  passBut.2 pass_rest B n a p sv vc bv dn w h hb hn c hcf
end Go.Proofs.Ytelfmhiaafkimaa
