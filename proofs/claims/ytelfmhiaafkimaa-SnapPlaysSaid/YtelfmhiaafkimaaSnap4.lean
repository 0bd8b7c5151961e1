/- A picture of what moves: one step. -/
import Derived.Test.YtelfmhiaafkimaaSnap3
namespace Go.Proofs.Ytelfmhiaafkimaa
open Go Go.RowKit Go.VC
set_option linter.unusedSimpArgs false
set_option linter.unusedVariables false
def pstep (n : Nat) (c : PassC) (p : NP) : Int × NP :=
  if c.kind < 1 ∨ 3 < c.kind then (4, p)
  else if c.who < 0 ∨ n ≤ c.who then (2, p)
  else if c.kind = 3 then (if p.own c.who.toNat = -1 then (0, pnote n c.who.toNat p) else (6, p))
  else if (c.other < 0 ∨ n ≤ c.other) ∨ c.other = c.who then (2, p)
  else if c.kind = 2 then ptake n c.who.toNat c.other.toNat p
  else if c.n < 1 ∨ p.money c.who.toNat < c.n then (2, p)
  else (0, { p with money := upd p.money c.who.toNat (p.money c.who.toNat - c.n), que := upd p.que (c.who.toNat * n + c.other.toNat) (p.que (c.who.toNat * n + c.other.toNat) ++ [c.n]) })
abbrev passL (c : PassC) : List Value := [iV c.kind, iV c.who, iV c.other, iV c.n]
/-- What the program's state keeps to. -/
structure PB (n : Nat) (p : NP) : Prop where
  que : ∀ t, (p.que t).length ≤ 5000
  nts : ∀ t, (p.nts t).length ≤ 5000
  mon : ∀ i, i < n → 0 ≤ p.money i ∧ p.money i ≤ 6000
  own : ∀ i, -1 ≤ p.own i ∧ p.own i ≤ 6000
  val : ∀ t, ∀ x ∈ p.que t, -1 ≤ x ∧ x ≤ 6000
section
variable {B n : Nat} {a : NA} {p : NP} {v : NV} {w : World}
theorem pis_any {w : World} {pb wb gv gc n : Nat} (hp : w.cell? ⟨pb, 0, none⟩ = some (ptrV wb)) (hpl : pb < w.heap.size) (hm : w.cell? ⟨wb, 0, none⟩ = some (.slice (some ⟨gv, 0, none⟩) n gc)) (hwl : wb < w.heap.size) (i : Int) :
    Calls Try.prog 92 #[.int .i64 i, .pointer (some ⟨pb, 0, none⟩)] w fun e w' => e = .returned (.bool (decide (0 ≤ i ∧ i < n))) ∧ w' = w := by
  by_cases q1 : 0 ≤ i
  · have e1 := eq_true q1
    refine calls_vc (rs := [.tmp 3]) Fa.mix Try.func92 rfl Try.ntmps92 rfl (by kernel_rfl) (Nat.le_of_ble_eq_true rfl) ?_
    simp -dsimp (maxSteps := 2000000) only [Fa.F92, e1, rdP_of hp, hp, hpl, rdSA_of hm, rdSN_of hm, rdSC_of hm, hm, hwl, undef, tu, uf, ul, ur, VC.Now, VC.vc, VC.lib, VC.mapN_drewN, VC.mapB_drewN, VC.regQ, VC.loopK, VC.reg, VC.opP, VC.opS, VC.opZ, VC.nomulB, VC.pv, VC.thenF, VC.blkF, VC.retF, VC.resV, VC.oneV, VC.evo, VC.bin, VC.binI, VC.cmpI, VC.arithI, VC.ldv, VC.slv, VC.pickP, VC.holds, VC.chainOf, VC.look, VC.junk, VC.put, VC.eff, VC.callee, VC.pureB, VC.rdK, VC.rdKs, VC.okKs, VC.eqKs, VC.fillL, VC.putL, VC.stW, VC.stOK, VC.mixF, VC.setAll, Nat.reduceAdd, Nat.reduceSub, Nat.reduceMul, if_true, if_false, ↓reduceIte, forall_const, implies_true, reduceCtorEq, ne_eq, Nat.reduceBNe, Nat.reduceBEq, IntKind.signed, Nat.reduceEqDiff, Nat.reduceLeDiff, Nat.reduceLT, eq_self, Int.reduceEq, Int.reduceLT, Int.reduceLE, Int.reduceAdd, Int.reduceSub, VC.regC_nil, VC.regC_cons, VC.regCK_eq, VC.callQ, VC.tailQ, VC.goCall, VC.chStep]
  · have e1 := eq_false q1
    refine calls_vc (rs := [.tmp 3]) Fa.mix Try.func92 rfl Try.ntmps92 rfl (by kernel_rfl) (Nat.le_of_ble_eq_true rfl) ?_
    simp -dsimp (maxSteps := 2000000) only [Fa.F92, e1, rdP_of hp, hp, hpl, rdSA_of hm, rdSN_of hm, rdSC_of hm, hm, hwl, undef, tu, uf, ul, ur, VC.Now, VC.vc, VC.lib, VC.mapN_drewN, VC.mapB_drewN, VC.regQ, VC.loopK, VC.reg, VC.opP, VC.opS, VC.opZ, VC.nomulB, VC.pv, VC.thenF, VC.blkF, VC.retF, VC.resV, VC.oneV, VC.evo, VC.bin, VC.binI, VC.cmpI, VC.arithI, VC.ldv, VC.slv, VC.pickP, VC.holds, VC.chainOf, VC.look, VC.junk, VC.put, VC.eff, VC.callee, VC.pureB, VC.rdK, VC.rdKs, VC.okKs, VC.eqKs, VC.fillL, VC.putL, VC.stW, VC.stOK, VC.mixF, VC.setAll, Nat.reduceAdd, Nat.reduceSub, Nat.reduceMul, if_true, if_false, ↓reduceIte, forall_const, implies_true, reduceCtorEq, ne_eq, Nat.reduceBNe, Nat.reduceBEq, IntKind.signed, Nat.reduceEqDiff, Nat.reduceLeDiff, Nat.reduceLT, eq_self, Int.reduceEq, Int.reduceLT, Int.reduceLE, Int.reduceAdd, Int.reduceSub, VC.regC_nil, VC.regC_cons, VC.regCK_eq, VC.callQ, VC.tailQ, VC.goCall, VC.chStep]
set_option maxRecDepth 8000 in
set_option maxHeartbeats 8000000 in
theorem pstep_any (h : Hp B (NObs n a p v) w) (hb : PB n p) (hn : n ≤ 6) (c : PassC) (hcf : fits .i64 c.n) :
    Calls Try.prog 57 #[ptrV a.wb, .agg #[iV c.kind, iV c.who, iV c.other, iV c.n]] w fun e w' => e = .returned (iV (pstep n c p).1) ∧ ∃ v', St B (NObs n a p v) w (NObs n a (pstep n c p).2 v') w' := by
  have x0 := Box.new w [ptrV a.wb] 143
  have hB0 : Below w.heap.size w (w.alloc (.cells #[ptrV a.wb] 143)) := (Below.refl _ _).alloc (Nat.le_refl _) _
  have hsz : (w.alloc (.cells #[ptrV a.wb] 143)).heap.size = w.heap.size + 1 := by simp
  refine calls_vc (rs := [.tmp 4]) Fa.mix Try.func57 rfl Try.ntmps57 rfl (by kernel_rfl) (Nat.le_of_ble_eq_true rfl) ?_
  (repeat rw [vc_seq]); refine vc_plain _ fun Q hQ => ?_; simp -dsimp (maxSteps := 2000000) only [Fa.F57, VC.Now, VC.vc_skip, VC.vc_ret, VC.vc_exit, VC.vc_block, VC.vc_cond, VC.vc_region, VC.lib, VC.mapN_drewN, VC.mapB_drewN, VC.regQ, VC.loopK, VC.reg, VC.opP, VC.opS, VC.opZ, VC.nomulB, VC.pv, VC.thenF, VC.blkF, VC.retF, VC.resV, VC.oneV, VC.evo, VC.bin, VC.binI, VC.cmpI, VC.arithI, VC.ldv, VC.slv, VC.pickP, VC.holds, VC.chainOf, VC.look, VC.junk, VC.put, VC.eff, VC.callee, VC.pureB, VC.rdK, VC.rdKs, VC.okKs, VC.eqKs, VC.fillL, VC.putL, VC.stW, VC.stOK, VC.mixF, VC.setAll, Nat.reduceAdd, Nat.reduceSub, Nat.reduceMul, if_true, if_false, ↓reduceIte, forall_const, implies_true, reduceCtorEq, ne_eq, Nat.reduceBNe, Nat.reduceBEq, IntKind.signed, Nat.reduceEqDiff, Nat.reduceLeDiff, Nat.reduceLT, eq_self, Int.reduceEq, Int.reduceLT, Int.reduceLE, Int.reduceAdd, Int.reduceSub, VC.regC_nil, VC.regC_cons, VC.regCK_eq, VC.callQ, VC.tailQ, VC.goCall, VC.chStep]
  change Box (w.alloc (.cells #[ptrV a.wb] 143)) _ _ at x0
  change Q _ _ ((w.alloc (.cells #[ptrV a.wb] 143)).alloc _)
  generalize w.alloc (.cells #[ptrV a.wb] 143) = w1 at x0 hB0 hsz ⊢
  have y0 := Box.new w1 (passL c) 146
  have hB1 : Below w1.heap.size w1 (w1.alloc (.cells (passL c).toArray 146)) := (Below.refl _ _).alloc (Nat.le_refl _) _
  change Q _ _ (w1.alloc (.cells (passL c).toArray 146))
  replace x0 := x0.below hB1
  have hB := hB0.trans (hB1.mono (by omega))
  rw [hsz] at y0
  generalize w1.alloc (.cells (passL c).toArray 146) = w2 at x0 y0 hB ⊢
  clear hB0 hB1 hsz
  have h2 := h.below hB
  generalize hsb : w.heap.size = sb at x0 y0 ⊢
  rw [hsb] at hB
  rw [← hsb] at hB
  have px := x0.at (i := 0) rfl
  have z0 := y0.at (i := 0) rfl
  have z1 := y0.at (i := 1) rfl
  have z2 := y0.at (i := 2) rfl
  have z3 := y0.at (i := 3) rfl
  have hxl := x0.1
  have hyl := y0.1
  subst hQ
  simp -dsimp (maxSteps := 2000000) only [Fa.F57, VC.Now, VC.vc_skip, VC.vc_ret, VC.vc_exit, VC.vc_block, VC.vc_cond, VC.vc_region, VC.lib, VC.mapN_drewN, VC.mapB_drewN, VC.regQ, VC.loopK, VC.reg, VC.opP, VC.opS, VC.opZ, VC.nomulB, VC.pv, VC.thenF, VC.blkF, VC.retF, VC.resV, VC.oneV, VC.evo, VC.bin, VC.binI, VC.cmpI, VC.arithI, VC.ldv, VC.slv, VC.pickP, VC.holds, VC.chainOf, VC.look, VC.junk, VC.put, VC.eff, VC.callee, VC.pureB, VC.rdK, VC.rdKs, VC.okKs, VC.eqKs, VC.fillL, VC.putL, VC.stW, VC.stOK, VC.mixF, VC.setAll, Nat.reduceAdd, Nat.reduceSub, Nat.reduceMul, if_true, if_false, ↓reduceIte, forall_const, implies_true, reduceCtorEq, ne_eq, Nat.reduceBNe, Nat.reduceBEq, IntKind.signed, Nat.reduceEqDiff, Nat.reduceLeDiff, Nat.reduceLT, eq_self, Int.reduceEq, Int.reduceLT, Int.reduceLE, Int.reduceAdd, Int.reduceSub, VC.regC_nil, VC.regC_cons, VC.regCK_eq, VC.callQ, VC.tailQ, VC.goCall, VC.chStep]
  (repeat rw [vc_seq]); refine vc_plain _ fun Q hQ => ?_; simp -dsimp (maxSteps := 2000000) only [Fa.F57, VC.Now, VC.vc_skip, VC.vc_ret, VC.vc_exit, VC.vc_block, VC.vc_cond, VC.vc_region, VC.lib, VC.mapN_drewN, VC.mapB_drewN, VC.regQ, VC.loopK, VC.reg, VC.opP, VC.opS, VC.opZ, VC.nomulB, VC.pv, VC.thenF, VC.blkF, VC.retF, VC.resV, VC.oneV, VC.evo, VC.bin, VC.binI, VC.cmpI, VC.arithI, VC.ldv, VC.slv, VC.pickP, VC.holds, VC.chainOf, VC.look, VC.junk, VC.put, VC.eff, VC.callee, VC.pureB, VC.rdK, VC.rdKs, VC.okKs, VC.eqKs, VC.fillL, VC.putL, VC.stW, VC.stOK, VC.mixF, VC.setAll, Nat.reduceAdd, Nat.reduceSub, Nat.reduceMul, if_true, if_false, ↓reduceIte, forall_const, implies_true, reduceCtorEq, ne_eq, Nat.reduceBNe, Nat.reduceBEq, IntKind.signed, Nat.reduceEqDiff, Nat.reduceLeDiff, Nat.reduceLT, eq_self, Int.reduceEq, Int.reduceLT, Int.reduceLE, Int.reduceAdd, Int.reduceSub, VC.regC_nil, VC.regC_cons, VC.regCK_eq, VC.callQ, VC.tailQ, VC.goCall, VC.chStep]
  by_cases q0 : c.kind < 1 ∨ 3 < c.kind
  · have hr : pstep n c p = (4, p) := by unfold pstep; rw [if_pos q0]
    by_cases q1 : c.kind < 1
    · have e1 := eq_true q1
      subst hQ
      simp -dsimp (maxSteps := 2000000) only [Fa.F57, rdI_of z0, z0, hyl, e1, undef, tu, uf, ul, ur, VC.Now, VC.vc, VC.lib, VC.mapN_drewN, VC.mapB_drewN, VC.regQ, VC.loopK, VC.reg, VC.opP, VC.opS, VC.opZ, VC.nomulB, VC.pv, VC.thenF, VC.blkF, VC.retF, VC.resV, VC.oneV, VC.evo, VC.bin, VC.binI, VC.cmpI, VC.arithI, VC.ldv, VC.slv, VC.pickP, VC.holds, VC.chainOf, VC.look, VC.junk, VC.put, VC.eff, VC.callee, VC.pureB, VC.rdK, VC.rdKs, VC.okKs, VC.eqKs, VC.fillL, VC.putL, VC.stW, VC.stOK, VC.mixF, VC.setAll, Nat.reduceAdd, Nat.reduceSub, Nat.reduceMul, if_true, if_false, ↓reduceIte, forall_const, implies_true, reduceCtorEq, ne_eq, Nat.reduceBNe, Nat.reduceBEq, IntKind.signed, Nat.reduceEqDiff, Nat.reduceLeDiff, Nat.reduceLT, eq_self, Int.reduceEq, Int.reduceLT, Int.reduceLE, Int.reduceAdd, Int.reduceSub, VC.regC_nil, VC.regC_cons, VC.regCK_eq, VC.callQ, VC.tailQ, VC.goCall, VC.chStep]
      intros
      exact ⟨by rw [hr], v, by rw [hr]; exact h.below_st hB⟩
    · have e1 := eq_false q1
      have e2 : (3 < c.kind) = True := eq_true (by omega)
      subst hQ
      simp -dsimp (maxSteps := 2000000) only [Fa.F57, rdI_of z0, z0, hyl, e1, e2, undef, tu, uf, ul, ur, VC.Now, VC.vc, VC.lib, VC.mapN_drewN, VC.mapB_drewN, VC.regQ, VC.loopK, VC.reg, VC.opP, VC.opS, VC.opZ, VC.nomulB, VC.pv, VC.thenF, VC.blkF, VC.retF, VC.resV, VC.oneV, VC.evo, VC.bin, VC.binI, VC.cmpI, VC.arithI, VC.ldv, VC.slv, VC.pickP, VC.holds, VC.chainOf, VC.look, VC.junk, VC.put, VC.eff, VC.callee, VC.pureB, VC.rdK, VC.rdKs, VC.okKs, VC.eqKs, VC.fillL, VC.putL, VC.stW, VC.stOK, VC.mixF, VC.setAll, Nat.reduceAdd, Nat.reduceSub, Nat.reduceMul, if_true, if_false, ↓reduceIte, forall_const, implies_true, reduceCtorEq, ne_eq, Nat.reduceBNe, Nat.reduceBEq, IntKind.signed, Nat.reduceEqDiff, Nat.reduceLeDiff, Nat.reduceLT, eq_self, Int.reduceEq, Int.reduceLT, Int.reduceLE, Int.reduceAdd, Int.reduceSub, VC.regC_nil, VC.regC_cons, VC.regCK_eq, VC.callQ, VC.tailQ, VC.goCall, VC.chStep]
      intros
      exact ⟨by rw [hr], v, by rw [hr]; exact h.below_st hB⟩
  have e1 : (c.kind < 1) = False := eq_false (by omega)
  have e2 : (3 < c.kind) = False := eq_false (by omega)
  have bw : Box w2 a.wb [.slice (some ⟨a.gp, 0, none⟩) n a.gc, .map (some a.mb)] := h2.get 0 rfl
  have his := fun i => pis_any (w := w2) px hxl (bw.at (i := 0) rfl) bw.1 i
  subst hQ
  simp -dsimp (maxSteps := 2000000) only [Fa.F57, rdI_of z0, z0, rdI_of z1, z1, hyl, e1, e2, undef, tu, uf, ul, ur, VC.Now, VC.vc, VC.lib, VC.mapN_drewN, VC.mapB_drewN, VC.regQ, VC.loopK, VC.reg, VC.opP, VC.opS, VC.opZ, VC.nomulB, VC.pv, VC.thenF, VC.blkF, VC.retF, VC.resV, VC.oneV, VC.evo, VC.bin, VC.binI, VC.cmpI, VC.arithI, VC.ldv, VC.slv, VC.pickP, VC.holds, VC.chainOf, VC.look, VC.junk, VC.put, VC.eff, VC.callee, VC.pureB, VC.rdK, VC.rdKs, VC.okKs, VC.eqKs, VC.fillL, VC.putL, VC.stW, VC.stOK, VC.mixF, VC.setAll, Nat.reduceAdd, Nat.reduceSub, Nat.reduceMul, if_true, if_false, ↓reduceIte, forall_const, implies_true, reduceCtorEq, ne_eq, Nat.reduceBNe, Nat.reduceBEq, IntKind.signed, Nat.reduceEqDiff, Nat.reduceLeDiff, Nat.reduceLT, eq_self, Int.reduceEq, Int.reduceLT, Int.reduceLE, Int.reduceAdd, Int.reduceSub, VC.regC_nil, VC.regC_cons, VC.regCK_eq, VC.callQ, VC.tailQ, VC.goCall, VC.chStep]
  intro u
  refine CALL_of (his c.who) fun w3 hw3 => ?_
  subst hw3
  rw [VC.Now, VC.seqK_eq]
  by_cases q1 : c.who < 0 ∨ n ≤ c.who
  · have hr : pstep n c p = (2, p) := by unfold pstep; rw [if_neg q0, if_pos q1]
    have eb : decide (0 ≤ c.who ∧ c.who < n) = false := decide_eq_false (by omega)
    simp -dsimp (maxSteps := 2000000) only [Fa.F57, eb, undef, tu, uf, ul, ur, VC.Now, VC.vc, VC.lib, VC.mapN_drewN, VC.mapB_drewN, VC.regQ, VC.loopK, VC.reg, VC.opP, VC.opS, VC.opZ, VC.nomulB, VC.pv, VC.thenF, VC.blkF, VC.retF, VC.resV, VC.oneV, VC.evo, VC.bin, VC.binI, VC.cmpI, VC.arithI, VC.ldv, VC.slv, VC.pickP, VC.holds, VC.chainOf, VC.look, VC.junk, VC.put, VC.eff, VC.callee, VC.pureB, VC.rdK, VC.rdKs, VC.okKs, VC.eqKs, VC.fillL, VC.putL, VC.stW, VC.stOK, VC.mixF, VC.setAll, Nat.reduceAdd, Nat.reduceSub, Nat.reduceMul, if_true, if_false, ↓reduceIte, forall_const, implies_true, reduceCtorEq, ne_eq, Nat.reduceBNe, Nat.reduceBEq, IntKind.signed, Nat.reduceEqDiff, Nat.reduceLeDiff, Nat.reduceLT, eq_self, Int.reduceEq, Int.reduceLT, Int.reduceLE, Int.reduceAdd, Int.reduceSub, VC.regC_nil, VC.regC_cons, VC.regCK_eq, VC.callQ, VC.tailQ, VC.goCall, VC.chStep]
    intros
    exact ⟨by rw [hr], v, by rw [hr]; exact h.below_st hB⟩
  have eb : decide (0 ≤ c.who ∧ c.who < n) = true := decide_eq_true (by omega)
  obtain ⟨x, hx0⟩ : ∃ x : Nat, c.who = x := ⟨c.who.toNat, by omega⟩
  have hxn : x < n := by omega
  have hxt : c.who.toNat = x := by omega
  have m0 := bw.at (i := 0) rfl
  have m1 := bw.at (i := 1) rfl
  have hwl := bw.1
  have hR : Recs w3 a.gp n 2 (fun k => prL p k) := h2.get 1 rfl
  have c0 := hR.at hxn (j := 0) (by omega) rfl
  have c1 := hR.at hxn (j := 1) (by omega) rfl
  rw [Nat.add_zero] at c0
  have hgl := hR.1
  rw [hx0] at z1
  by_cases k3 : c.kind = 3
  · have ek := eq_true k3
    by_cases ho : p.own x = -1
    case neg =>
      have eo := eq_false ho
      have hr : pstep n c p = (6, p) := by unfold pstep; rw [if_neg q0, if_neg q1, if_pos k3, hxt, if_neg ho]
      simp -dsimp (maxSteps := 2000000) only [Fa.F57, eb, ek, eo, rdP_of px, px, rdI_of z0, z0, rdI_of z1, z1, rdI_of c1, c1, rdSA_of m0, rdSN_of m0, rdSC_of m0, m0, hxl, hyl, hwl, hgl, Int.toNat_natCast, Nat.zero_add, undef, tu, uf, ul, ur, VC.Now, VC.vc, VC.lib, VC.mapN_drewN, VC.mapB_drewN, VC.regQ, VC.loopK, VC.reg, VC.opP, VC.opS, VC.opZ, VC.nomulB, VC.pv, VC.thenF, VC.blkF, VC.retF, VC.resV, VC.oneV, VC.evo, VC.bin, VC.binI, VC.cmpI, VC.arithI, VC.ldv, VC.slv, VC.pickP, VC.holds, VC.chainOf, VC.look, VC.junk, VC.put, VC.eff, VC.callee, VC.pureB, VC.rdK, VC.rdKs, VC.okKs, VC.eqKs, VC.fillL, VC.putL, VC.stW, VC.stOK, VC.mixF, VC.setAll, Nat.reduceAdd, Nat.reduceSub, Nat.reduceMul, if_true, if_false, ↓reduceIte, forall_const, implies_true, reduceCtorEq, ne_eq, Nat.reduceBNe, Nat.reduceBEq, IntKind.signed, Nat.reduceEqDiff, Nat.reduceLeDiff, Nat.reduceLT, eq_self, Int.reduceEq, Int.reduceLT, Int.reduceLE, Int.reduceAdd, Int.reduceSub, VC.regC_nil, VC.regC_cons, VC.regCK_eq, VC.callQ, VC.tailQ, VC.goCall, VC.chStep]
      exact ⟨⟨by omega, by omega⟩, fun m => ⟨by rw [hr], v, by rw [hr]; exact (h.below_st hB).drewN m⟩⟩
    have eo := eq_true ho
    have hr : pstep n c p = (0, pnote n x p) := by unfold pstep; rw [if_neg q0, if_neg q1, if_pos k3, hxt, if_pos ho]
    simp -dsimp (maxSteps := 2000000) only [Fa.F57, eb, ek, eo, rdP_of px, px, rdI_of z0, z0, rdI_of z1, z1, rdI_of c1, c1, rdSA_of m0, rdSN_of m0, rdSC_of m0, m0, hxl, hyl, hwl, hgl, Int.toNat_natCast, Nat.zero_add, undef, tu, uf, ul, ur, VC.Now, VC.vc, VC.lib, VC.mapN_drewN, VC.mapB_drewN, VC.regQ, VC.loopK, VC.reg, VC.opP, VC.opS, VC.opZ, VC.nomulB, VC.pv, VC.thenF, VC.blkF, VC.retF, VC.resV, VC.oneV, VC.evo, VC.bin, VC.binI, VC.cmpI, VC.arithI, VC.ldv, VC.slv, VC.pickP, VC.holds, VC.chainOf, VC.look, VC.junk, VC.put, VC.eff, VC.callee, VC.pureB, VC.rdK, VC.rdKs, VC.okKs, VC.eqKs, VC.fillL, VC.putL, VC.stW, VC.stOK, VC.mixF, VC.setAll, Nat.reduceAdd, Nat.reduceSub, Nat.reduceMul, if_true, if_false, ↓reduceIte, forall_const, implies_true, reduceCtorEq, ne_eq, Nat.reduceBNe, Nat.reduceBEq, IntKind.signed, Nat.reduceEqDiff, Nat.reduceLeDiff, Nat.reduceLT, eq_self, Int.reduceEq, Int.reduceLT, Int.reduceLE, Int.reduceAdd, Int.reduceSub, VC.regC_nil, VC.regC_cons, VC.regCK_eq, VC.callQ, VC.tailQ, VC.goCall, VC.chStep]
    refine ⟨⟨by omega, by omega⟩, fun u9 m => ?_⟩
    refine CALL_by (note_any (h2.drewN m) hxn hn (fun t => by have := hb.que t; omega)) ?_
    rintro _ w4 ⟨rfl, v4, st4, _⟩
    refine ⟨_, rfl, ?_⟩
    rw [VC.Now, VC.seqK_eq]
    simp -dsimp (maxSteps := 2000000) only [Fa.F57, VC.Now, VC.vc, VC.lib, VC.mapN_drewN, VC.mapB_drewN, VC.regQ, VC.loopK, VC.reg, VC.opP, VC.opS, VC.opZ, VC.nomulB, VC.pv, VC.thenF, VC.blkF, VC.retF, VC.resV, VC.oneV, VC.evo, VC.bin, VC.binI, VC.cmpI, VC.arithI, VC.ldv, VC.slv, VC.pickP, VC.holds, VC.chainOf, VC.look, VC.junk, VC.put, VC.eff, VC.callee, VC.pureB, VC.rdK, VC.rdKs, VC.okKs, VC.eqKs, VC.fillL, VC.putL, VC.stW, VC.stOK, VC.mixF, VC.setAll, Nat.reduceAdd, Nat.reduceSub, Nat.reduceMul, if_true, if_false, ↓reduceIte, forall_const, implies_true, reduceCtorEq, ne_eq, Nat.reduceBNe, Nat.reduceBEq, IntKind.signed, Nat.reduceEqDiff, Nat.reduceLeDiff, Nat.reduceLT, eq_self, Int.reduceEq, Int.reduceLT, Int.reduceLE, Int.reduceAdd, Int.reduceSub, VC.regC_nil, VC.regC_cons, VC.regCK_eq, VC.callQ, VC.tailQ, VC.goCall, VC.chStep]
    exact ⟨by rw [hr], v4, ((h.below_st hB).drewN m).trans (by rw [hr]; exact st4)⟩
  have ek := eq_false k3
  simp -dsimp (maxSteps := 2000000) only [Fa.F57, eb, ek, rdP_of px, px, rdI_of z0, z0, rdI_of z1, z1, rdI_of z2, z2, rdI_of c1, c1, rdSA_of m0, rdSN_of m0, rdSC_of m0, m0, hxl, hyl, hwl, hgl, Int.toNat_natCast, Nat.zero_add, undef, tu, uf, ul, ur, VC.Now, VC.vc, VC.lib, VC.mapN_drewN, VC.mapB_drewN, VC.regQ, VC.loopK, VC.reg, VC.opP, VC.opS, VC.opZ, VC.nomulB, VC.pv, VC.thenF, VC.blkF, VC.retF, VC.resV, VC.oneV, VC.evo, VC.bin, VC.binI, VC.cmpI, VC.arithI, VC.ldv, VC.slv, VC.pickP, VC.holds, VC.chainOf, VC.look, VC.junk, VC.put, VC.eff, VC.callee, VC.pureB, VC.rdK, VC.rdKs, VC.okKs, VC.eqKs, VC.fillL, VC.putL, VC.stW, VC.stOK, VC.mixF, VC.setAll, Nat.reduceAdd, Nat.reduceSub, Nat.reduceMul, if_true, if_false, ↓reduceIte, forall_const, implies_true, reduceCtorEq, ne_eq, Nat.reduceBNe, Nat.reduceBEq, IntKind.signed, Nat.reduceEqDiff, Nat.reduceLeDiff, Nat.reduceLT, eq_self, Int.reduceEq, Int.reduceLT, Int.reduceLE, Int.reduceAdd, Int.reduceSub, VC.regC_nil, VC.regC_cons, VC.regCK_eq, VC.callQ, VC.tailQ, VC.goCall, VC.chStep]
  intro u3 m
  have h3 := h2.drewN m
  have hB3 := below_drewN hB m
  replace px : (w3.drewN m).cell? ⟨sb, 0, none⟩ = _ := px
  replace z0 : (w3.drewN m).cell? ⟨sb + 1, 0, none⟩ = _ := z0
  replace z1 : (w3.drewN m).cell? ⟨sb + 1, 1, none⟩ = _ := z1
  replace z2 : (w3.drewN m).cell? ⟨sb + 1, 2, none⟩ = _ := z2
  replace z3 : (w3.drewN m).cell? ⟨sb + 1, 3, none⟩ = _ := z3
  replace hxl : sb < (w3.drewN m).heap.size := hxl
  replace hyl : sb + 1 < (w3.drewN m).heap.size := hyl
  clear his bw m0 m1 hwl hR c0 c1 hgl
  replace x0 := x0.below (below_drewN (Below.refl _ w3) m)
  replace y0 := y0.below (below_drewN (Below.refl _ w3) m)
  generalize w3.drewN m = w4 at h3 hB3 px z0 z1 z2 z3 hxl hyl x0 y0 ⊢
  clear hB h2
  have bw : Box w4 a.wb [.slice (some ⟨a.gp, 0, none⟩) n a.gc, .map (some a.mb)] := h3.get 0 rfl
  have his := fun i => pis_any (w := w4) px hxl (bw.at (i := 0) rfl) bw.1 i
  refine CALL_of (his c.other) fun w5 hw5 => ?_
  subst hw5
  rw [VC.Now, VC.seqK_eq]
  by_cases q2 : c.other < 0 ∨ n ≤ c.other
  · have hr : pstep n c p = (2, p) := by unfold pstep; rw [if_neg q0, if_neg q1, if_neg k3, if_pos (Or.inl q2)]
    have ec : decide (0 ≤ c.other ∧ c.other < n) = false := decide_eq_false (by omega)
    simp -dsimp (maxSteps := 2000000) only [Fa.F57, ec, undef, tu, uf, ul, ur, VC.Now, VC.vc, VC.lib, VC.mapN_drewN, VC.mapB_drewN, VC.regQ, VC.loopK, VC.reg, VC.opP, VC.opS, VC.opZ, VC.nomulB, VC.pv, VC.thenF, VC.blkF, VC.retF, VC.resV, VC.oneV, VC.evo, VC.bin, VC.binI, VC.cmpI, VC.arithI, VC.ldv, VC.slv, VC.pickP, VC.holds, VC.chainOf, VC.look, VC.junk, VC.put, VC.eff, VC.callee, VC.pureB, VC.rdK, VC.rdKs, VC.okKs, VC.eqKs, VC.fillL, VC.putL, VC.stW, VC.stOK, VC.mixF, VC.setAll, Nat.reduceAdd, Nat.reduceSub, Nat.reduceMul, if_true, if_false, ↓reduceIte, forall_const, implies_true, reduceCtorEq, ne_eq, Nat.reduceBNe, Nat.reduceBEq, IntKind.signed, Nat.reduceEqDiff, Nat.reduceLeDiff, Nat.reduceLT, eq_self, Int.reduceEq, Int.reduceLT, Int.reduceLE, Int.reduceAdd, Int.reduceSub, VC.regC_nil, VC.regC_cons, VC.regCK_eq, VC.callQ, VC.tailQ, VC.goCall, VC.chStep]
    intros
    exact ⟨by rw [hr], v, by rw [hr]; exact h.below_st hB3⟩
  have ec : decide (0 ≤ c.other ∧ c.other < n) = true := decide_eq_true (by omega)
  obtain ⟨y, hy0⟩ : ∃ y : Nat, c.other = y := ⟨c.other.toNat, by omega⟩
  have hyn : y < n := by omega
  have hyt : c.other.toNat = y := by omega
  rw [hy0] at z2
  by_cases q3 : c.other = c.who
  · have hr : pstep n c p = (2, p) := by unfold pstep; rw [if_neg q0, if_neg q1, if_neg k3, if_pos (Or.inr q3)]
    have ed : ((y : Int) = x) = True := eq_true (by omega)
    simp -dsimp (maxSteps := 2000000) only [Fa.F57, ec, ed, rdI_of z1, z1, rdI_of z2, z2, hyl, undef, tu, uf, ul, ur, VC.Now, VC.vc, VC.lib, VC.mapN_drewN, VC.mapB_drewN, VC.regQ, VC.loopK, VC.reg, VC.opP, VC.opS, VC.opZ, VC.nomulB, VC.pv, VC.thenF, VC.blkF, VC.retF, VC.resV, VC.oneV, VC.evo, VC.bin, VC.binI, VC.cmpI, VC.arithI, VC.ldv, VC.slv, VC.pickP, VC.holds, VC.chainOf, VC.look, VC.junk, VC.put, VC.eff, VC.callee, VC.pureB, VC.rdK, VC.rdKs, VC.okKs, VC.eqKs, VC.fillL, VC.putL, VC.stW, VC.stOK, VC.mixF, VC.setAll, Nat.reduceAdd, Nat.reduceSub, Nat.reduceMul, if_true, if_false, ↓reduceIte, forall_const, implies_true, reduceCtorEq, ne_eq, Nat.reduceBNe, Nat.reduceBEq, IntKind.signed, Nat.reduceEqDiff, Nat.reduceLeDiff, Nat.reduceLT, eq_self, Int.reduceEq, Int.reduceLT, Int.reduceLE, Int.reduceAdd, Int.reduceSub, VC.regC_nil, VC.regC_cons, VC.regCK_eq, VC.callQ, VC.tailQ, VC.goCall, VC.chStep]
    intros
    exact ⟨by rw [hr], v, by rw [hr]; exact h.below_st hB3⟩
  have hxy : y ≠ x := by omega
  have ed : ((y : Int) = x) = False := eq_false (by omega)
  have hcond : ¬ ((c.other < 0 ∨ n ≤ c.other) ∨ c.other = c.who) := fun hh => hh.elim q2 q3
  by_cases k2 : c.kind = 2
  · have el := eq_true k2
    have hr : pstep n c p = ptake n x y p := by unfold pstep; rw [if_neg q0, if_neg q1, if_neg k3, if_neg hcond, if_pos k2, hxt, hyt]
    simp -dsimp (maxSteps := 2000000) only [Fa.F57, ec, ed, el, rdP_of px, px, rdI_of z0, z0, rdI_of z1, z1, rdI_of z2, z2, hxl, hyl, undef, tu, uf, ul, ur, VC.Now, VC.vc, VC.lib, VC.mapN_drewN, VC.mapB_drewN, VC.regQ, VC.loopK, VC.reg, VC.opP, VC.opS, VC.opZ, VC.nomulB, VC.pv, VC.thenF, VC.blkF, VC.retF, VC.resV, VC.oneV, VC.evo, VC.bin, VC.binI, VC.cmpI, VC.arithI, VC.ldv, VC.slv, VC.pickP, VC.holds, VC.chainOf, VC.look, VC.junk, VC.put, VC.eff, VC.callee, VC.pureB, VC.rdK, VC.rdKs, VC.okKs, VC.eqKs, VC.fillL, VC.putL, VC.stW, VC.stOK, VC.mixF, VC.setAll, Nat.reduceAdd, Nat.reduceSub, Nat.reduceMul, if_true, if_false, ↓reduceIte, forall_const, implies_true, reduceCtorEq, ne_eq, Nat.reduceBNe, Nat.reduceBEq, IntKind.signed, Nat.reduceEqDiff, Nat.reduceLeDiff, Nat.reduceLT, eq_self, Int.reduceEq, Int.reduceLT, Int.reduceLE, Int.reduceAdd, Int.reduceSub, VC.regC_nil, VC.regC_cons, VC.regCK_eq, VC.callQ, VC.tailQ, VC.goCall, VC.chStep]
    refine CALL_by (take_any h3 hxn hyn hxy hn (fun t => by have := hb.que t; omega) (by have := hb.nts (y * n + x); omega) (fun z hz => ?_)) ?_
    · have h5 := hb.val _ z hz
      have h6 := hb.mon x hxn
      exact fits_i64 (by omega) (by omega)
    rintro _ w6 ⟨rfl, v6, st6⟩
    refine ⟨_, rfl, ?_⟩
    rw [VC.Now, VC.seqK_eq]
    simp -dsimp (maxSteps := 2000000) only [Fa.F57, VC.Now, VC.vc, VC.lib, VC.mapN_drewN, VC.mapB_drewN, VC.regQ, VC.loopK, VC.reg, VC.opP, VC.opS, VC.opZ, VC.nomulB, VC.pv, VC.thenF, VC.blkF, VC.retF, VC.resV, VC.oneV, VC.evo, VC.bin, VC.binI, VC.cmpI, VC.arithI, VC.ldv, VC.slv, VC.pickP, VC.holds, VC.chainOf, VC.look, VC.junk, VC.put, VC.eff, VC.callee, VC.pureB, VC.rdK, VC.rdKs, VC.okKs, VC.eqKs, VC.fillL, VC.putL, VC.stW, VC.stOK, VC.mixF, VC.setAll, Nat.reduceAdd, Nat.reduceSub, Nat.reduceMul, if_true, if_false, ↓reduceIte, forall_const, implies_true, reduceCtorEq, ne_eq, Nat.reduceBNe, Nat.reduceBEq, IntKind.signed, Nat.reduceEqDiff, Nat.reduceLeDiff, Nat.reduceLT, eq_self, Int.reduceEq, Int.reduceLT, Int.reduceLE, Int.reduceAdd, Int.reduceSub, VC.regC_nil, VC.regC_cons, VC.regCK_eq, VC.callQ, VC.tailQ, VC.goCall, VC.chStep]
    exact ⟨by rw [hr], v6, (h.below_st hB3).trans (by rw [hr]; exact st6)⟩
  have el := eq_false k2
  have m0 := bw.at (i := 0) rfl
  have m1 := bw.at (i := 1) rfl
  have hwl := bw.1
  have hR : Recs w5 a.gp n 2 (fun k => prL p k) := h3.get 1 rfl
  have c0 := hR.at hxn (j := 0) (by omega) rfl
  rw [Nat.add_zero] at c0
  have hgl := hR.1
  have pxd : ∀ m, (w5.drewN m).cell? ⟨sb, 0, none⟩ = _ := fun m => px
  have z1d : ∀ m, (w5.drewN m).cell? ⟨sb + 1, 1, none⟩ = _ := fun m => z1
  have z2d : ∀ m, (w5.drewN m).cell? ⟨sb + 1, 2, none⟩ = _ := fun m => z2
  have z3d : ∀ m, (w5.drewN m).cell? ⟨sb + 1, 3, none⟩ = _ := fun m => z3
  have m0d : ∀ m, (w5.drewN m).cell? ⟨a.wb, 0, none⟩ = _ := fun m => m0
  have c0d : ∀ m, (w5.drewN m).cell? ⟨a.gp, x * 2, none⟩ = _ := fun m => c0
  by_cases q4 : c.n < 1
  · have e4 := eq_true q4
    have hr : pstep n c p = (2, p) := by unfold pstep; rw [if_neg q0, if_neg q1, if_neg k3, if_neg hcond, if_neg k2, if_pos (Or.inl q4)]
    simp -dsimp (maxSteps := 2000000) only [Fa.F57, ec, ed, el, e4, rdP_of px, px, rdI_of z0, z0, rdI_of z1, z1, rdI_of z2, z2, rdSA_of m0, rdSN_of m0, rdSC_of m0, m0, fun m => rdP_of (pxd m), pxd, fun m => rdI_of (z1d m), z1d, fun m => rdI_of (z2d m), z2d, fun m => rdI_of (z3d m), z3d, fun m => rdSA_of (m0d m), fun m => rdSN_of (m0d m), fun m => rdSC_of (m0d m), m0d, fun m => rdI_of (c0d m), c0d, hxl, hyl, hwl, hgl, Int.toNat_natCast, Nat.zero_add, undef, tu, uf, ul, ur, VC.Now, VC.vc, VC.lib, VC.mapN_drewN, VC.mapB_drewN, VC.regQ, VC.loopK, VC.reg, VC.opP, VC.opS, VC.opZ, VC.nomulB, VC.pv, VC.thenF, VC.blkF, VC.retF, VC.resV, VC.oneV, VC.evo, VC.bin, VC.binI, VC.cmpI, VC.arithI, VC.ldv, VC.slv, VC.pickP, VC.holds, VC.chainOf, VC.look, VC.junk, VC.put, VC.eff, VC.callee, VC.pureB, VC.rdK, VC.rdKs, VC.okKs, VC.eqKs, VC.fillL, VC.putL, VC.stW, VC.stOK, VC.mixF, VC.setAll, Nat.reduceAdd, Nat.reduceSub, Nat.reduceMul, if_true, if_false, ↓reduceIte, forall_const, implies_true, reduceCtorEq, ne_eq, Nat.reduceBNe, Nat.reduceBEq, IntKind.signed, Nat.reduceEqDiff, Nat.reduceLeDiff, Nat.reduceLT, eq_self, Int.reduceEq, Int.reduceLT, Int.reduceLE, Int.reduceAdd, Int.reduceSub, VC.regC_nil, VC.regC_cons, VC.regCK_eq, VC.callQ, VC.tailQ, VC.goCall, VC.chStep]
    exact ⟨⟨by omega, by omega⟩, fun m m1 => ⟨by rw [hr], v, by rw [hr]; exact (h.below_st hB3).drewN _⟩⟩
  have e4 := eq_false q4
  by_cases q5 : p.money x < c.n
  · have e5 := eq_true q5
    have hr : pstep n c p = (2, p) := by unfold pstep; rw [if_neg q0, if_neg q1, if_neg k3, if_neg hcond, if_neg k2, hxt, if_pos (Or.inr q5)]
    simp -dsimp (maxSteps := 2000000) only [Fa.F57, ec, ed, el, e4, e5, rdP_of px, px, rdI_of z0, z0, rdI_of z1, z1, rdI_of z2, z2, rdSA_of m0, rdSN_of m0, rdSC_of m0, m0, fun m => rdP_of (pxd m), pxd, fun m => rdI_of (z1d m), z1d, fun m => rdI_of (z2d m), z2d, fun m => rdI_of (z3d m), z3d, fun m => rdSA_of (m0d m), fun m => rdSN_of (m0d m), fun m => rdSC_of (m0d m), m0d, fun m => rdI_of (c0d m), c0d, hxl, hyl, hwl, hgl, Int.toNat_natCast, Nat.zero_add, undef, tu, uf, ul, ur, VC.Now, VC.vc, VC.lib, VC.mapN_drewN, VC.mapB_drewN, VC.regQ, VC.loopK, VC.reg, VC.opP, VC.opS, VC.opZ, VC.nomulB, VC.pv, VC.thenF, VC.blkF, VC.retF, VC.resV, VC.oneV, VC.evo, VC.bin, VC.binI, VC.cmpI, VC.arithI, VC.ldv, VC.slv, VC.pickP, VC.holds, VC.chainOf, VC.look, VC.junk, VC.put, VC.eff, VC.callee, VC.pureB, VC.rdK, VC.rdKs, VC.okKs, VC.eqKs, VC.fillL, VC.putL, VC.stW, VC.stOK, VC.mixF, VC.setAll, Nat.reduceAdd, Nat.reduceSub, Nat.reduceMul, if_true, if_false, ↓reduceIte, forall_const, implies_true, reduceCtorEq, ne_eq, Nat.reduceBNe, Nat.reduceBEq, IntKind.signed, Nat.reduceEqDiff, Nat.reduceLeDiff, Nat.reduceLT, eq_self, Int.reduceEq, Int.reduceLT, Int.reduceLE, Int.reduceAdd, Int.reduceSub, VC.regC_nil, VC.regC_cons, VC.regCK_eq, VC.callQ, VC.tailQ, VC.goCall, VC.chStep]
    exact ⟨⟨by omega, by omega⟩, fun m m1 => ⟨by rw [hr], v, by rw [hr]; exact (h.below_st hB3).drewN _⟩⟩
  have e5 := eq_false q5
  simp -dsimp (maxSteps := 2000000) only [Fa.F57, ec, ed, el, e4, e5, rdP_of px, px, rdI_of z0, z0, rdI_of z1, z1, rdI_of z2, z2, rdSA_of m0, rdSN_of m0, rdSC_of m0, m0, fun m => rdP_of (pxd m), pxd, fun m => rdI_of (z1d m), z1d, fun m => rdI_of (z2d m), z2d, fun m => rdI_of (z3d m), z3d, fun m => rdSA_of (m0d m), fun m => rdSN_of (m0d m), fun m => rdSC_of (m0d m), m0d, fun m => rdI_of (c0d m), c0d, hxl, hyl, hwl, hgl, Int.toNat_natCast, Nat.zero_add, undef, tu, uf, ul, ur, VC.Now, VC.vc, VC.lib, VC.mapN_drewN, VC.mapB_drewN, VC.regQ, VC.loopK, VC.reg, VC.opP, VC.opS, VC.opZ, VC.nomulB, VC.pv, VC.thenF, VC.blkF, VC.retF, VC.resV, VC.oneV, VC.evo, VC.bin, VC.binI, VC.cmpI, VC.arithI, VC.ldv, VC.slv, VC.pickP, VC.holds, VC.chainOf, VC.look, VC.junk, VC.put, VC.eff, VC.callee, VC.pureB, VC.rdK, VC.rdKs, VC.okKs, VC.eqKs, VC.fillL, VC.putL, VC.stW, VC.stOK, VC.mixF, VC.setAll, Nat.reduceAdd, Nat.reduceSub, Nat.reduceMul, if_true, if_false, ↓reduceIte, forall_const, implies_true, reduceCtorEq, ne_eq, Nat.reduceBNe, Nat.reduceBEq, IntKind.signed, Nat.reduceEqDiff, Nat.reduceLeDiff, Nat.reduceLT, eq_self, Int.reduceEq, Int.reduceLT, Int.reduceLE, Int.reduceAdd, Int.reduceSub, VC.regC_nil, VC.regC_cons, VC.regCK_eq, VC.callQ, VC.tailQ, VC.goCall, VC.chStep]
  have hr : pstep n c p = (0, { p with money := upd p.money x (p.money x - c.n), que := upd p.que (x * n + y) (p.que (x * n + y) ++ [c.n]) }) := by
    unfold pstep
    rw [if_neg q0, if_neg q1, if_neg k3, if_neg hcond, if_neg k2, hxt, hyt, if_neg (fun hh => hh.elim q4 q5)]
  refine ⟨⟨by omega, by omega⟩, fun m u9 mm => ?_⟩
  have h4 := h3.drewN (m + mm)
  have hB4 := below_drewN hB3 (m + mm)
  replace px : (w5.drewN (m + mm)).cell? ⟨sb, 0, none⟩ = _ := px
  replace z1 : (w5.drewN (m + mm)).cell? ⟨sb + 1, 1, none⟩ = _ := z1
  replace z2 : (w5.drewN (m + mm)).cell? ⟨sb + 1, 2, none⟩ = _ := z2
  replace z3 : (w5.drewN (m + mm)).cell? ⟨sb + 1, 3, none⟩ = _ := z3
  replace c0 : (w5.drewN (m + mm)).cell? ⟨a.gp, x * 2, none⟩ = _ := c0
  replace hxl : sb < (w5.drewN (m + mm)).heap.size := hxl
  replace hyl : sb + 1 < (w5.drewN (m + mm)).heap.size := hyl
  replace hgl : a.gp < (w5.drewN (m + mm)).heap.size := hgl
  clear his bw m0 m1 hwl hR pxd z1d z2d z3d m0d c0d
  replace x0 := x0.below (below_drewN (Below.refl _ w5) (m + mm))
  replace y0 := y0.below (below_drewN (Below.refl _ w5) (m + mm))
  generalize w5.drewN (m + mm) = w6 at h4 hB4 px z1 z2 z3 c0 hxl hyl hgl x0 y0 ⊢
  clear hB3 h3
  refine WP_tail 9 Fa.mix (by kernel_rfl) (by kernel_rfl) (by kernel_rfl) rfl ?_
  simp -dsimp (maxSteps := 2000000) only [Fa.F57, rdI_of z3, z3, rdI_of c0, c0, hyl, hgl, VC.Now, VC.vc_skip, VC.vc_ret, VC.vc_exit, VC.vc_block, VC.vc_cond, VC.vc_region, VC.lib, VC.mapN_drewN, VC.mapB_drewN, VC.regQ, VC.loopK, VC.reg, VC.opP, VC.opS, VC.opZ, VC.nomulB, VC.pv, VC.thenF, VC.blkF, VC.retF, VC.resV, VC.oneV, VC.evo, VC.bin, VC.binI, VC.cmpI, VC.arithI, VC.ldv, VC.slv, VC.pickP, VC.holds, VC.chainOf, VC.look, VC.junk, VC.put, VC.eff, VC.callee, VC.pureB, VC.rdK, VC.rdKs, VC.okKs, VC.eqKs, VC.fillL, VC.putL, VC.stW, VC.stOK, VC.mixF, VC.setAll, Nat.reduceAdd, Nat.reduceSub, Nat.reduceMul, if_true, if_false, ↓reduceIte, forall_const, implies_true, reduceCtorEq, ne_eq, Nat.reduceBNe, Nat.reduceBEq, IntKind.signed, Nat.reduceEqDiff, Nat.reduceLeDiff, Nat.reduceLT, eq_self, Int.reduceEq, Int.reduceLT, Int.reduceLE, Int.reduceAdd, Int.reduceSub, VC.regC_nil, VC.regC_cons, VC.regCK_eq, VC.callQ, VC.tailQ, VC.goCall, VC.chStep]
  have hmx := hb.mon x hxn
  refine ⟨fits_i64 (by omega) (by omega), fun w7 hB7 => ?_⟩
  clear px z1 z2 z3 c0 hxl hyl hgl
  have h5 := h4.below hB7
  replace x0 := x0.below hB7
  replace y0 := y0.below hB7
  have hR5 : Recs w7 a.gp n 2 (fun k => prL p k) := h5.get 1 rfl
  have d0 := hR5.soft hxn (j := 0) (by omega)
  have c0 := hR5.at hxn (j := 0) (by omega) rfl
  rw [Nat.add_zero] at c0 d0
  refine ⟨⟨by rw [c0]; rfl, d0⟩, ?_⟩
  have hpay := NObs.pay h5 hxn (p.money x - c.n)
  rw [Nat.add_zero] at hpay
  have st8 := ((h.below_st hB4).later hB7).trans hpay
  have gpl := (h.lt 1 rfl (g := a.gp) rfl).2
  have ht := idx_lt hxn hyn
  have hd : (x * n + y) / n ≠ (x * n + y) % n := by rw [(idx_div hyn).1, (idx_div hyn).2]; exact fun e => hxy e.symm
  have xbl := (h.foot_lt (NObs.fx ht hd)).2
  have wbl := (h.lt 0 rfl (g := a.wb) rfl).2
  have qbl : ∀ g, (v.qv (x * n + y)).ownBlock = some g → g < sb := fun g hg => by have := (h.foot_lt (NObs.fq ht hg)).2; omega
  replace x0 := x0.agree (Agree.setCell (X := fun g => g = a.gp) w7 (iV (p.money x - c.n)) (a := ⟨a.gp, x * 2, none⟩) rfl) (by omega)
  replace y0 := y0.agree (Agree.setCell (X := fun g => g = a.gp) w7 (iV (p.money x - c.n)) (a := ⟨a.gp, x * 2, none⟩) rfl) (by omega)
  generalize w7.setCell ⟨a.gp, x * 2, none⟩ (iV (p.money x - c.n)) = w8 at st8 x0 y0 ⊢
  clear hpay d0 c0 hR5 h5 h4 hB4 hB7
  have h8 := st8.hp
  have bw : Box w8 a.wb [.slice (some ⟨a.gp, 0, none⟩) n a.gc, .map (some a.mb)] := h8.get 0 rfl
  have m1 := bw.at (i := 1) rfl
  have hwl := bw.1
  have px := x0.at (i := 0) rfl
  have z1 := y0.at (i := 1) rfl
  have z2 := y0.at (i := 2) rfl
  rw [hx0] at z1
  rw [hy0] at z2
  have hxl := x0.1
  have hyl := y0.1
  have hkey := EW_ok (i := x) (j := y) (by omega) (by omega)
  have hval : (wayM n a.xb ((x : Int), (y : Int))).getD (.pointer none) = ptrV (a.xb (x * n + y)) := by rw [wayM_at hxn hyn (fun e => hxy e.symm)]; rfl
  (repeat rw [vc_seq])
  refine vc_plain _ fun Q hQ => ?_
  simp -dsimp (maxSteps := 2000000) only [Fa.F57, VC.Now, VC.vc_skip, VC.vc_ret, VC.vc_exit, VC.vc_block, VC.vc_cond, VC.vc_region, VC.lib, VC.mapN_drewN, VC.mapB_drewN, VC.regQ, VC.loopK, VC.reg, VC.opP, VC.opS, VC.opZ, VC.nomulB, VC.pv, VC.thenF, VC.blkF, VC.retF, VC.resV, VC.oneV, VC.evo, VC.bin, VC.binI, VC.cmpI, VC.arithI, VC.ldv, VC.slv, VC.pickP, VC.holds, VC.chainOf, VC.look, VC.junk, VC.put, VC.eff, VC.callee, VC.pureB, VC.rdK, VC.rdKs, VC.okKs, VC.eqKs, VC.fillL, VC.putL, VC.stW, VC.stOK, VC.mixF, VC.setAll, Nat.reduceAdd, Nat.reduceSub, Nat.reduceMul, if_true, if_false, ↓reduceIte, forall_const, implies_true, reduceCtorEq, ne_eq, Nat.reduceBNe, Nat.reduceBEq, IntKind.signed, Nat.reduceEqDiff, Nat.reduceLeDiff, Nat.reduceLT, eq_self, Int.reduceEq, Int.reduceLT, Int.reduceLE, Int.reduceAdd, Int.reduceSub, VC.regC_nil, VC.regC_cons, VC.regCK_eq, VC.callQ, VC.tailQ, VC.goCall, VC.chStep]
  refine WP_tail 9 Fa.mix (by kernel_rfl) (by kernel_rfl) (by kernel_rfl) rfl ?_
  simp -dsimp (maxSteps := 2000000) only [Fa.F57, rdP_of px, px, rdM_of m1, m1, rdI_of z1, z1, rdI_of z2, z2, hxl, hyl, hwl, VC.Now, VC.vc_skip, VC.vc_ret, VC.vc_exit, VC.vc_block, VC.vc_cond, VC.vc_region, VC.lib, VC.mapN_drewN, VC.mapB_drewN, VC.regQ, VC.loopK, VC.reg, VC.opP, VC.opS, VC.opZ, VC.nomulB, VC.pv, VC.thenF, VC.blkF, VC.retF, VC.resV, VC.oneV, VC.evo, VC.bin, VC.binI, VC.cmpI, VC.arithI, VC.ldv, VC.slv, VC.pickP, VC.holds, VC.chainOf, VC.look, VC.junk, VC.put, VC.eff, VC.callee, VC.pureB, VC.rdK, VC.rdKs, VC.okKs, VC.eqKs, VC.fillL, VC.putL, VC.stW, VC.stOK, VC.mixF, VC.setAll, Nat.reduceAdd, Nat.reduceSub, Nat.reduceMul, if_true, if_false, ↓reduceIte, forall_const, implies_true, reduceCtorEq, ne_eq, Nat.reduceBNe, Nat.reduceBEq, IntKind.signed, Nat.reduceEqDiff, Nat.reduceLeDiff, Nat.reduceLT, eq_self, Int.reduceEq, Int.reduceLT, Int.reduceLE, Int.reduceAdd, Int.reduceSub, VC.regC_nil, VC.regC_cons, VC.regCK_eq, VC.callQ, VC.tailQ, VC.goCall, VC.chStep]
  intro w9 hB9
  have st9 := st8.later hB9
  replace x0 := x0.below hB9
  replace y0 := y0.below hB9
  have h9 := st9.hp
  clear px m1 z1 z2 hxl hyl hwl bw h8
  refine OPW_lookV (x := ((x : Int), (y : Int))) (z := .pointer none) (h9.get 2 rfl : MapV Try.prog EW w9 a.mb a.cnt (wayM n a.xb)) rfl (by kernel_rfl) rfl rfl hkey hval ?_
  rw [VC.Now, VC.seqK_eq]
  simp -dsimp (maxSteps := 2000000) only [Fa.F57, VC.Now, VC.vc_skip, VC.vc_ret, VC.vc_exit, VC.vc_block, VC.vc_cond, VC.vc_region, VC.lib, VC.mapN_drewN, VC.mapB_drewN, VC.regQ, VC.loopK, VC.reg, VC.opP, VC.opS, VC.opZ, VC.nomulB, VC.pv, VC.thenF, VC.blkF, VC.retF, VC.resV, VC.oneV, VC.evo, VC.bin, VC.binI, VC.cmpI, VC.arithI, VC.ldv, VC.slv, VC.pickP, VC.holds, VC.chainOf, VC.look, VC.junk, VC.put, VC.eff, VC.callee, VC.pureB, VC.rdK, VC.rdKs, VC.okKs, VC.eqKs, VC.fillL, VC.putL, VC.stW, VC.stOK, VC.mixF, VC.setAll, Nat.reduceAdd, Nat.reduceSub, Nat.reduceMul, if_true, if_false, ↓reduceIte, forall_const, implies_true, reduceCtorEq, ne_eq, Nat.reduceBNe, Nat.reduceBEq, IntKind.signed, Nat.reduceEqDiff, Nat.reduceLeDiff, Nat.reduceLT, eq_self, Int.reduceEq, Int.reduceLT, Int.reduceLE, Int.reduceAdd, Int.reduceSub, VC.regC_nil, VC.regC_cons, VC.regCK_eq, VC.callQ, VC.tailQ, VC.goCall, VC.chStep]
  subst hQ
  simp -dsimp (maxSteps := 2000000) only [Fa.F57, VC.Now, VC.vc_skip, VC.vc_ret, VC.vc_exit, VC.vc_block, VC.vc_cond, VC.vc_region, VC.lib, VC.mapN_drewN, VC.mapB_drewN, VC.regQ, VC.loopK, VC.reg, VC.opP, VC.opS, VC.opZ, VC.nomulB, VC.pv, VC.thenF, VC.blkF, VC.retF, VC.resV, VC.oneV, VC.evo, VC.bin, VC.binI, VC.cmpI, VC.arithI, VC.ldv, VC.slv, VC.pickP, VC.holds, VC.chainOf, VC.look, VC.junk, VC.put, VC.eff, VC.callee, VC.pureB, VC.rdK, VC.rdKs, VC.okKs, VC.eqKs, VC.fillL, VC.putL, VC.stW, VC.stOK, VC.mixF, VC.setAll, Nat.reduceAdd, Nat.reduceSub, Nat.reduceMul, if_true, if_false, ↓reduceIte, forall_const, implies_true, reduceCtorEq, ne_eq, Nat.reduceBNe, Nat.reduceBEq, IntKind.signed, Nat.reduceEqDiff, Nat.reduceLeDiff, Nat.reduceLT, eq_self, Int.reduceEq, Int.reduceLT, Int.reduceLE, Int.reduceAdd, Int.reduceSub, VC.regC_nil, VC.regC_cons, VC.regCK_eq, VC.callQ, VC.tailQ, VC.goCall, VC.chStep]
  (repeat rw [vc_seq])
  refine vc_plain _ fun Q hQ => ?_
  simp -dsimp (maxSteps := 2000000) only [Fa.F57, VC.Now, VC.vc_skip, VC.vc_ret, VC.vc_exit, VC.vc_block, VC.vc_cond, VC.vc_region, VC.lib, VC.mapN_drewN, VC.mapB_drewN, VC.regQ, VC.loopK, VC.reg, VC.opP, VC.opS, VC.opZ, VC.nomulB, VC.pv, VC.thenF, VC.blkF, VC.retF, VC.resV, VC.oneV, VC.evo, VC.bin, VC.binI, VC.cmpI, VC.arithI, VC.ldv, VC.slv, VC.pickP, VC.holds, VC.chainOf, VC.look, VC.junk, VC.put, VC.eff, VC.callee, VC.pureB, VC.rdK, VC.rdKs, VC.okKs, VC.eqKs, VC.fillL, VC.putL, VC.stW, VC.stOK, VC.mixF, VC.setAll, Nat.reduceAdd, Nat.reduceSub, Nat.reduceMul, if_true, if_false, ↓reduceIte, forall_const, implies_true, reduceCtorEq, ne_eq, Nat.reduceBNe, Nat.reduceBEq, IntKind.signed, Nat.reduceEqDiff, Nat.reduceLeDiff, Nat.reduceLT, eq_self, Int.reduceEq, Int.reduceLT, Int.reduceLE, Int.reduceAdd, Int.reduceSub, VC.regC_nil, VC.regC_cons, VC.regCK_eq, VC.callQ, VC.tailQ, VC.goCall, VC.chStep]
  have bx := NObs.box h9 ht hd
  have hQ9 := NObs.que h9 ht
  have hQ9 : OwnQ w9 3 (v.qv (x * n + y)) ((p.que (x * n + y)).map iV) := hQ9
  obtain ⟨Aq, cq, eqv⟩ := hQ9.form
  have bx0 := bx
  rw [eqv] at bx0
  have q0 := bx0.at (i := 0) rfl
  have hbl := bx.1
  have z3 := y0.at (i := 3) rfl
  have hyl := y0.1
  have nxq : ¬ (v.qv (x * n + y)).ownBlock = some (a.xb (x * n + y)) := fun e => by
    have h9' := h9
    rw [NObs.assoc2] at h9'
    have hx1 := List.pairwise_append.1 h9'.2
    refine hx1.2.2 (wayF n a _ v (x * n + y)) (List.mem_append_right _ (List.mem_map.2 ⟨x * n + y, by simpa using ht, rfl⟩)) (queF _ v (x * n + y)) (List.mem_append_left _ (List.mem_map.2 ⟨x * n + y, by simpa using ht, rfl⟩)) (a.xb (x * n + y)) (by rw [wayF_ne hd]; rfl) e
  have nyq : ¬ (v.qv (x * n + y)).ownBlock = some (sb + 1) := fun e => by have := qbl _ e; omega
  refine WP_held 11 (fun l => (v.qv (x * n + y)).ownBlock = some l) (.take 0 (.take 1 (.take 2 (.take 3 (.take 4 (.take 5 (.take 6 (.one 7 (.one 8 (.one 9 (.take 10 (.one 11 .done)))))))))))) Fa.mix (by kernel_rfl) rfl ?_
  simp -dsimp (maxSteps := 2000000) only [VC.heldF_done, VC.heldF_last, VC.planF_done, VC.planF_take, VC.planF_one, VC.planF_two, VC.planK_eq, VC.heldF_take, VC.heldF_one, VC.heldF_two, VC.heldF_twoL, VC.heldK_eq, VC.okRd, Fa.F57, rdSA_of q0, rdSN_of q0, rdSC_of q0, q0, rdI_of z3, z3, hbl, hyl, VC.Now, VC.vc, VC.lib, VC.mapN_drewN, VC.mapB_drewN, VC.regQ, VC.loopK, VC.reg, VC.opP, VC.opS, VC.opZ, VC.nomulB, VC.pv, VC.thenF, VC.blkF, VC.retF, VC.resV, VC.oneV, VC.evo, VC.bin, VC.binI, VC.cmpI, VC.arithI, VC.ldv, VC.slv, VC.pickP, VC.holds, VC.chainOf, VC.look, VC.junk, VC.put, VC.eff, VC.callee, VC.pureB, VC.rdK, VC.rdKs, VC.okKs, VC.eqKs, VC.fillL, VC.putL, VC.stW, VC.stOK, VC.mixF, VC.setAll, Nat.reduceAdd, Nat.reduceSub, Nat.reduceMul, if_true, if_false, ↓reduceIte, forall_const, implies_true, reduceCtorEq, ne_eq, Nat.reduceBNe, Nat.reduceBEq, IntKind.signed, Nat.reduceEqDiff, Nat.reduceLeDiff, Nat.reduceLT, eq_self, Int.reduceEq, Int.reduceLT, Int.reduceLE, Int.reduceAdd, Int.reduceSub, VC.regC_nil, VC.regC_cons, VC.regCK_eq, VC.callQ, VC.tailQ, VC.goCall, VC.chStep]
  refine ⟨nxq, nyq, Agree.of_below ((below_drewN (Below.refl _ w9) 1).alloc (Nat.le_refl _) _), ?_⟩
  have st10 := st9.drewN 1
  have hQd : OwnQ (w9.drewN 1) 3 (v.qv (x * n + y)) ((p.que (x * n + y)).map iV) := hQ9
  have hlq := hb.que (x * n + y)
  refine OPW_appQ (v := v.qv (x * n + y)) (u := iV c.n) rfl Fa.apI23 (by rw [eqv]; rfl) rfl rfl hQd (by rw [List.length_map]; omega) (by decide) fun v7 w10 ho7 hg7 hst7 => ?_
  obtain ⟨A7, c7, e7v⟩ := ho7.form
  have ho7' : OwnQ w10 3 v7 ((p.que (x * n + y) ++ [c.n]).map iV) := by rw [List.map_append]; exact ho7
  obtain ⟨⟨g1, g2⟩, st11⟩ := NObs.grow st10.hp ht hd ho7' hg7 hst7
  have ag1 : Agree (fun l => (v.qv (x * n + y)).ownBlock = some l) w9 w10 := (Agree.of_below (below_drewN (Below.refl _ w9) 1)).trans (Agree.grown hg7 fun g hg => hg)
  have hbl10 : a.xb (x * n + y) < w10.heap.size := Nat.lt_of_lt_of_le hbl ag1.size
  have st12 := st10.trans st11
  subst e7v
  simp -dsimp (maxSteps := 2000000) only [VC.heldF_done, VC.heldF_last, VC.planF_done, VC.planF_take, VC.planF_one, VC.planF_two, VC.planK_eq, VC.heldF_take, VC.heldF_one, VC.heldF_two, VC.heldF_twoL, VC.heldK_eq, VC.okRd, Fa.F57, rdSA_of q0, rdSN_of q0, rdSC_of q0, q0, rdI_of z3, z3, hbl, hyl, hbl10, g1, g2, VC.Now, VC.vc, VC.lib, VC.mapN_drewN, VC.mapB_drewN, VC.regQ, VC.loopK, VC.reg, VC.opP, VC.opS, VC.opZ, VC.nomulB, VC.pv, VC.thenF, VC.blkF, VC.retF, VC.resV, VC.oneV, VC.evo, VC.bin, VC.binI, VC.cmpI, VC.arithI, VC.ldv, VC.slv, VC.pickP, VC.holds, VC.chainOf, VC.look, VC.junk, VC.put, VC.eff, VC.callee, VC.pureB, VC.rdK, VC.rdKs, VC.okKs, VC.eqKs, VC.fillL, VC.putL, VC.stW, VC.stOK, VC.mixF, VC.setAll, Nat.reduceAdd, Nat.reduceSub, Nat.reduceMul, if_true, if_false, ↓reduceIte, forall_const, implies_true, reduceCtorEq, ne_eq, Nat.reduceBNe, Nat.reduceBEq, IntKind.signed, Nat.reduceEqDiff, Nat.reduceLeDiff, Nat.reduceLT, eq_self, Int.reduceEq, Int.reduceLT, Int.reduceLE, Int.reduceAdd, Int.reduceSub, VC.regC_nil, VC.regC_cons, VC.regCK_eq, VC.callQ, VC.tailQ, VC.goCall, VC.chStep]
  refine ⟨ag1, ag1, ?_⟩
  subst hQ
  simp -dsimp (maxSteps := 2000000) only [Fa.F57, VC.Now, VC.vc, VC.lib, VC.mapN_drewN, VC.mapB_drewN, VC.regQ, VC.loopK, VC.reg, VC.opP, VC.opS, VC.opZ, VC.nomulB, VC.pv, VC.thenF, VC.blkF, VC.retF, VC.resV, VC.oneV, VC.evo, VC.bin, VC.binI, VC.cmpI, VC.arithI, VC.ldv, VC.slv, VC.pickP, VC.holds, VC.chainOf, VC.look, VC.junk, VC.put, VC.eff, VC.callee, VC.pureB, VC.rdK, VC.rdKs, VC.okKs, VC.eqKs, VC.fillL, VC.putL, VC.stW, VC.stOK, VC.mixF, VC.setAll, Nat.reduceAdd, Nat.reduceSub, Nat.reduceMul, if_true, if_false, ↓reduceIte, forall_const, implies_true, reduceCtorEq, ne_eq, Nat.reduceBNe, Nat.reduceBEq, IntKind.signed, Nat.reduceEqDiff, Nat.reduceLeDiff, Nat.reduceLT, eq_self, Int.reduceEq, Int.reduceLT, Int.reduceLE, Int.reduceAdd, Int.reduceSub, VC.regC_nil, VC.regC_cons, VC.regCK_eq, VC.callQ, VC.tailQ, VC.goCall, VC.chStep]
  exact ⟨by rw [hr], _, by rw [hr]; exact st12⟩
end
end Go.Proofs.Ytelfmhiaafkimaa
