/- A picture of what moves, the document's: one step. -/
import Derived.Test.YtelfmhiaafkimaaSnapD2
namespace Go.Proofs.Ytelfmhiaafkimaa
open Go Go.RowKit Go.VC
set_option linter.unusedSimpArgs false
set_option linter.unusedVariables false
def dpass (n : Nat) (c : PassC) (p : DP) : Int × DP :=
  if c.kind < 1 ∨ 3 < c.kind then (4, p)
  else if c.who < 0 ∨ n ≤ c.who then (2, p)
  else if c.kind = 3 then (if 0 ≤ p.own c.who.toNat then (6, p) else (0, dnote n c.who.toNat p))
  else if (c.other < 0 ∨ n ≤ c.other) ∨ c.other = c.who then (2, p)
  else if c.kind = 2 then
    (if (p.lt (c.other.toNat * n + c.who.toNat)).come = (p.lt (c.other.toNat * n + c.who.toNat)).sent.length then (5, p)
     else if (p.lt (c.other.toNat * n + c.who.toNat)).sent.getD (p.lt (c.other.toNat * n + c.who.toNat)).come 0 < 0 then (0, dnote n c.who.toNat { p with lt := upd p.lt (c.other.toNat * n + c.who.toNat) { p.lt (c.other.toNat * n + c.who.toNat) with come := (p.lt (c.other.toNat * n + c.who.toNat)).come + 1 } })
     else (0, { p with money := upd p.money c.who.toNat (p.money c.who.toNat + (p.lt (c.other.toNat * n + c.who.toNat)).sent.getD (p.lt (c.other.toNat * n + c.who.toNat)).come 0), lt := upd p.lt (c.other.toNat * n + c.who.toNat) { p.lt (c.other.toNat * n + c.who.toNat) with come := (p.lt (c.other.toNat * n + c.who.toNat)).come + 1 } }))
  else if c.n < 1 ∨ p.money c.who.toNat < c.n then (2, p)
  else (0, { p with money := upd p.money c.who.toNat (p.money c.who.toNat - c.n), lt := upd p.lt (c.who.toNat * n + c.other.toNat) { p.lt (c.who.toNat * n + c.other.toNat) with sent := (p.lt (c.who.toNat * n + c.other.toNat)).sent ++ [c.n] } })
structure DB (n : Nat) (p : DP) : Prop where
  len : ∀ t, (p.lt t).sent.length ≤ 5000
  lok : ∀ t, (p.lt t).come ≤ (p.lt t).sent.length
  mon : ∀ i, i < n → 0 ≤ p.money i ∧ p.money i ≤ 6000
  val : ∀ t, ∀ x ∈ (p.lt t).sent, -1 ≤ x ∧ x ≤ 6000
set_option maxRecDepth 8000 in
set_option maxHeartbeats 8000000 in
noncomputable def passBut : { P : Prop // P → ∀ (B n : Nat) (a : DA) (p : DP) (sv : Nat → Value) (vc bv : Value) (dn : Bool) (w : World), Hp B (DObs n a p sv vc bv dn) w → DB n p → n ≤ 6 → ∀ c : PassC, fits .i64 c.n →
    Calls Try.prog 58 #[.agg #[iV c.kind, iV c.who, iV c.other, iV c.n], iV n, ptrV a.ob, .slice (some ⟨a.gl, 0, none⟩) (n * n) (n * n)] w fun e w' => e = .returned (iV (dpass n c p).1) ∧ ∃ sv', St B (DObs n a p sv vc bv dn) w (DObs n a (dpass n c p).2 sv' vc bv dn) w' } := by
  refine ⟨?P3 ∧ True, fun HH => ?body⟩
  case body =>
  intro B n a p sv vc bv dn w h hb hn c hcf
  have hnn36 : n * n ≤ 36 := Nat.mul_le_mul hn hn
  have y0 := Box.new w (passL c) 146
  have hB : Below w.heap.size w (w.alloc (.cells (passL c).toArray 146)) := (Below.refl _ _).alloc (Nat.le_refl _) _
  refine calls_vc (rs := [.tmp 8]) Fa.mix Try.func58 rfl Try.ntmps58 rfl (by kernel_rfl) (Nat.le_of_ble_eq_true rfl) ?_
  (repeat rw [vc_seq]); refine vc_plain _ fun Q hQ => ?_; simp -dsimp (maxSteps := 2000000) only [Fa.F58, VC.Now, VC.vc_skip, VC.vc_ret, VC.vc_exit, VC.vc_block, VC.vc_cond, VC.vc_region, VC.lib, VC.mapN_drewN, VC.mapB_drewN, VC.regQ, VC.loopK, VC.reg, VC.opP, VC.opS, VC.opZ, VC.nomulB, VC.pv, VC.thenF, VC.blkF, VC.retF, VC.resV, VC.oneV, VC.evo, VC.bin, VC.binI, VC.cmpI, VC.arithI, VC.ldv, VC.slv, VC.pickP, VC.holds, VC.chainOf, VC.look, VC.junk, VC.put, VC.eff, VC.callee, VC.pureB, VC.rdK, VC.rdKs, VC.okKs, VC.eqKs, VC.fillL, VC.putL, VC.stW, VC.stOK, VC.mixF, VC.setAll, Nat.reduceAdd, Nat.reduceSub, Nat.reduceMul, if_true, if_false, ↓reduceIte, forall_const, implies_true, reduceCtorEq, ne_eq, Nat.reduceBNe, Nat.reduceBEq, IntKind.signed, Nat.reduceEqDiff, Nat.reduceLeDiff, Nat.reduceLT, eq_self, Int.reduceEq, Int.reduceLT, Int.reduceLE, Int.reduceAdd, Int.reduceSub, VC.regC_nil, VC.regC_cons, VC.regCK_eq, VC.callQ, VC.tailQ, VC.goCall, VC.chStep]
  change Q _ _ (w.alloc (.cells (passL c).toArray 146))
  generalize w.alloc (.cells (passL c).toArray 146) = w2 at y0 hB ⊢
  have h2 := h.below hB
  generalize hsb : w.heap.size = sb at y0 ⊢
  have z0 := y0.at (i := 0) rfl
  have z1 := y0.at (i := 1) rfl
  have z2 := y0.at (i := 2) rfl
  have z3 := y0.at (i := 3) rfl
  have hyl := y0.1
  subst hQ
  simp -dsimp (maxSteps := 2000000) only [Fa.F58, VC.Now, VC.vc_skip, VC.vc_ret, VC.vc_exit, VC.vc_block, VC.vc_cond, VC.vc_region, VC.lib, VC.mapN_drewN, VC.mapB_drewN, VC.regQ, VC.loopK, VC.reg, VC.opP, VC.opS, VC.opZ, VC.nomulB, VC.pv, VC.thenF, VC.blkF, VC.retF, VC.resV, VC.oneV, VC.evo, VC.bin, VC.binI, VC.cmpI, VC.arithI, VC.ldv, VC.slv, VC.pickP, VC.holds, VC.chainOf, VC.look, VC.junk, VC.put, VC.eff, VC.callee, VC.pureB, VC.rdK, VC.rdKs, VC.okKs, VC.eqKs, VC.fillL, VC.putL, VC.stW, VC.stOK, VC.mixF, VC.setAll, Nat.reduceAdd, Nat.reduceSub, Nat.reduceMul, if_true, if_false, ↓reduceIte, forall_const, implies_true, reduceCtorEq, ne_eq, Nat.reduceBNe, Nat.reduceBEq, IntKind.signed, Nat.reduceEqDiff, Nat.reduceLeDiff, Nat.reduceLT, eq_self, Int.reduceEq, Int.reduceLT, Int.reduceLE, Int.reduceAdd, Int.reduceSub, VC.regC_nil, VC.regC_cons, VC.regCK_eq, VC.callQ, VC.tailQ, VC.goCall, VC.chStep]
  by_cases q0 : c.kind < 1 ∨ 3 < c.kind
  · have hr : dpass n c p = (4, p) := by unfold dpass; rw [if_pos q0]
    have e1 : (c.kind = 1) = False := eq_false (by omega)
    have e2 : (c.kind = 2) = False := eq_false (by omega)
    have e3 : (c.kind = 3) = False := eq_false (by omega)
    (repeat rw [vc_seq]); refine vc_plain _ fun Q3 hQ3 => ?_; simp -dsimp (maxSteps := 2000000) only [Fa.F58, rdI_of z0, z0, hyl, e1, e2, e3, undef, tu, uf, ul, ur, VC.Now, VC.vc_skip, VC.vc_ret, VC.vc_exit, VC.vc_block, VC.vc_cond, VC.vc_region, VC.lib, VC.mapN_drewN, VC.mapB_drewN, VC.regQ, VC.loopK, VC.reg, VC.opP, VC.opS, VC.opZ, VC.nomulB, VC.pv, VC.thenF, VC.blkF, VC.retF, VC.resV, VC.oneV, VC.evo, VC.bin, VC.binI, VC.cmpI, VC.arithI, VC.ldv, VC.slv, VC.pickP, VC.holds, VC.chainOf, VC.look, VC.junk, VC.put, VC.eff, VC.callee, VC.pureB, VC.rdK, VC.rdKs, VC.okKs, VC.eqKs, VC.fillL, VC.putL, VC.stW, VC.stOK, VC.mixF, VC.setAll, Nat.reduceAdd, Nat.reduceSub, Nat.reduceMul, if_true, if_false, ↓reduceIte, forall_const, implies_true, reduceCtorEq, ne_eq, Nat.reduceBNe, Nat.reduceBEq, IntKind.signed, Nat.reduceEqDiff, Nat.reduceLeDiff, Nat.reduceLT, eq_self, Int.reduceEq, Int.reduceLT, Int.reduceLE, Int.reduceAdd, Int.reduceSub, VC.regC_nil, VC.regC_cons, VC.regCK_eq, VC.callQ, VC.tailQ, VC.goCall, VC.chStep]
    subst hQ3
    simp -dsimp (maxSteps := 2000000) only [Fa.F58, rdI_of z0, z0, hyl, e1, e2, e3, undef, tu, uf, ul, ur, VC.Now, VC.vc, VC.lib, VC.mapN_drewN, VC.mapB_drewN, VC.regQ, VC.loopK, VC.reg, VC.opP, VC.opS, VC.opZ, VC.nomulB, VC.pv, VC.thenF, VC.blkF, VC.retF, VC.resV, VC.oneV, VC.evo, VC.bin, VC.binI, VC.cmpI, VC.arithI, VC.ldv, VC.slv, VC.pickP, VC.holds, VC.chainOf, VC.look, VC.junk, VC.put, VC.eff, VC.callee, VC.pureB, VC.rdK, VC.rdKs, VC.okKs, VC.eqKs, VC.fillL, VC.putL, VC.stW, VC.stOK, VC.mixF, VC.setAll, Nat.reduceAdd, Nat.reduceSub, Nat.reduceMul, if_true, if_false, ↓reduceIte, forall_const, implies_true, reduceCtorEq, ne_eq, Nat.reduceBNe, Nat.reduceBEq, IntKind.signed, Nat.reduceEqDiff, Nat.reduceLeDiff, Nat.reduceLT, eq_self, Int.reduceEq, Int.reduceLT, Int.reduceLE, Int.reduceAdd, Int.reduceSub, VC.regC_nil, VC.regC_cons, VC.regCK_eq, VC.callQ, VC.tailQ, VC.goCall, VC.chStep]
    all_goals try intros
    exact ⟨by rw [hr], sv, by rw [hr]; exact (h.below_st hB)⟩
  by_cases k3 : c.kind = 3
  · have e1 : (c.kind = 1) = False := eq_false (by omega)
    have e2 : (c.kind = 2) = False := eq_false (by omega)
    have e3 := eq_true k3
    (repeat rw [vc_seq]); refine vc_plain _ fun Q3 hQ3 => ?_; simp -dsimp (maxSteps := 2000000) only [Fa.F58, rdI_of z0, z0, hyl, e1, e2, e3, undef, tu, uf, ul, ur, VC.Now, VC.vc_skip, VC.vc_ret, VC.vc_exit, VC.vc_block, VC.vc_cond, VC.vc_region, VC.lib, VC.mapN_drewN, VC.mapB_drewN, VC.regQ, VC.loopK, VC.reg, VC.opP, VC.opS, VC.opZ, VC.nomulB, VC.pv, VC.thenF, VC.blkF, VC.retF, VC.resV, VC.oneV, VC.evo, VC.bin, VC.binI, VC.cmpI, VC.arithI, VC.ldv, VC.slv, VC.pickP, VC.holds, VC.chainOf, VC.look, VC.junk, VC.put, VC.eff, VC.callee, VC.pureB, VC.rdK, VC.rdKs, VC.okKs, VC.eqKs, VC.fillL, VC.putL, VC.stW, VC.stOK, VC.mixF, VC.setAll, Nat.reduceAdd, Nat.reduceSub, Nat.reduceMul, if_true, if_false, ↓reduceIte, forall_const, implies_true, reduceCtorEq, ne_eq, Nat.reduceBNe, Nat.reduceBEq, IntKind.signed, Nat.reduceEqDiff, Nat.reduceLeDiff, Nat.reduceLT, eq_self, Int.reduceEq, Int.reduceLT, Int.reduceLE, Int.reduceAdd, Int.reduceSub, VC.regC_nil, VC.regC_cons, VC.regCK_eq, VC.callQ, VC.tailQ, VC.goCall, VC.chStep]
    subst hQ3
    by_cases q1 : c.who < 0 ∨ n ≤ c.who
    · have hr : dpass n c p = (2, p) := by unfold dpass; rw [if_neg q0, if_pos q1]
      by_cases a1 : c.who < 0
      · have b1 := eq_true a1
        simp -dsimp (maxSteps := 2000000) only [Fa.F58, rdI_of z1, z1, hyl, b1, undef, tu, uf, ul, ur, VC.Now, VC.vc, VC.lib, VC.mapN_drewN, VC.mapB_drewN, VC.regQ, VC.loopK, VC.reg, VC.opP, VC.opS, VC.opZ, VC.nomulB, VC.pv, VC.thenF, VC.blkF, VC.retF, VC.resV, VC.oneV, VC.evo, VC.bin, VC.binI, VC.cmpI, VC.arithI, VC.ldv, VC.slv, VC.pickP, VC.holds, VC.chainOf, VC.look, VC.junk, VC.put, VC.eff, VC.callee, VC.pureB, VC.rdK, VC.rdKs, VC.okKs, VC.eqKs, VC.fillL, VC.putL, VC.stW, VC.stOK, VC.mixF, VC.setAll, Nat.reduceAdd, Nat.reduceSub, Nat.reduceMul, if_true, if_false, ↓reduceIte, forall_const, implies_true, reduceCtorEq, ne_eq, Nat.reduceBNe, Nat.reduceBEq, IntKind.signed, Nat.reduceEqDiff, Nat.reduceLeDiff, Nat.reduceLT, eq_self, Int.reduceEq, Int.reduceLT, Int.reduceLE, Int.reduceAdd, Int.reduceSub, VC.regC_nil, VC.regC_cons, VC.regCK_eq, VC.callQ, VC.tailQ, VC.goCall, VC.chStep]
        all_goals try intros
        exact ⟨by rw [hr], sv, by rw [hr]; exact (h.below_st hB)⟩
      · have b1 := eq_false a1
        have b2 : ((n : Int) ≤ c.who) = True := eq_true (by omega)
        simp -dsimp (maxSteps := 2000000) only [Fa.F58, rdI_of z1, z1, hyl, b1, b2, undef, tu, uf, ul, ur, VC.Now, VC.vc, VC.lib, VC.mapN_drewN, VC.mapB_drewN, VC.regQ, VC.loopK, VC.reg, VC.opP, VC.opS, VC.opZ, VC.nomulB, VC.pv, VC.thenF, VC.blkF, VC.retF, VC.resV, VC.oneV, VC.evo, VC.bin, VC.binI, VC.cmpI, VC.arithI, VC.ldv, VC.slv, VC.pickP, VC.holds, VC.chainOf, VC.look, VC.junk, VC.put, VC.eff, VC.callee, VC.pureB, VC.rdK, VC.rdKs, VC.okKs, VC.eqKs, VC.fillL, VC.putL, VC.stW, VC.stOK, VC.mixF, VC.setAll, Nat.reduceAdd, Nat.reduceSub, Nat.reduceMul, if_true, if_false, ↓reduceIte, forall_const, implies_true, reduceCtorEq, ne_eq, Nat.reduceBNe, Nat.reduceBEq, IntKind.signed, Nat.reduceEqDiff, Nat.reduceLeDiff, Nat.reduceLT, eq_self, Int.reduceEq, Int.reduceLT, Int.reduceLE, Int.reduceAdd, Int.reduceSub, VC.regC_nil, VC.regC_cons, VC.regCK_eq, VC.callQ, VC.tailQ, VC.goCall, VC.chStep]
        all_goals try intros
        exact ⟨by rw [hr], sv, by rw [hr]; exact (h.below_st hB)⟩
    have b1 : (c.who < 0) = False := eq_false (by omega)
    have b2 : ((n : Int) ≤ c.who) = False := eq_false (by omega)
    obtain ⟨x, hx0⟩ : ∃ x : Nat, c.who = x := ⟨c.who.toNat, by omega⟩
    have hxn : x < n := by omega
    have hxt : c.who.toNat = x := by omega
    rw [hx0] at z1 b1 b2
    have bo : Box w2 a.ob [vc, .slice (some ⟨a.gm, 0, none⟩) n a.cm, .slice (some ⟨a.go, 0, none⟩) n a.co, bv, .bool dn] := h2.get 0 rfl
    have m1 := bo.at (i := 1) rfl
    have m2 := bo.at (i := 2) rfl
    have hol := bo.1
    have bm : Box w2 a.gm ((List.range n).map fun i => iV (p.money i)) := h2.get 1 rfl
    have bg : Box w2 a.go ((List.range n).map fun i => iV (p.own i)) := h2.get 2 rfl
    have c0 : w2.cell? ⟨a.gm, x, none⟩ = some (iV (p.money x)) := bm.at (i := x) (by simp [hxn])
    have c1 : w2.cell? ⟨a.go, x, none⟩ = some (iV (p.own x)) := bg.at (i := x) (by simp [hxn])
    have hml := bm.1
    have hgl := bg.1
    by_cases ho : 0 ≤ p.own x
    · have eo := eq_true ho
      have hr : dpass n c p = (6, p) := by unfold dpass; rw [if_neg q0, if_neg q1, if_pos k3, hxt, if_pos ho]
      simp -dsimp (maxSteps := 2000000) only [Fa.F58, rdI_of z0, z0, rdI_of z1, z1, hyl, b1, b2, e3, rdSA_of m2, rdSN_of m2, rdSC_of m2, m2, rdI_of c1, c1, hol, hgl, eo, Int.toNat_natCast, Nat.zero_add, undef, tu, uf, ul, ur, VC.Now, VC.vc, VC.lib, VC.mapN_drewN, VC.mapB_drewN, VC.regQ, VC.loopK, VC.reg, VC.opP, VC.opS, VC.opZ, VC.nomulB, VC.pv, VC.thenF, VC.blkF, VC.retF, VC.resV, VC.oneV, VC.evo, VC.bin, VC.binI, VC.cmpI, VC.arithI, VC.ldv, VC.slv, VC.pickP, VC.holds, VC.chainOf, VC.look, VC.junk, VC.put, VC.eff, VC.callee, VC.pureB, VC.rdK, VC.rdKs, VC.okKs, VC.eqKs, VC.fillL, VC.putL, VC.stW, VC.stOK, VC.mixF, VC.setAll, Nat.reduceAdd, Nat.reduceSub, Nat.reduceMul, if_true, if_false, ↓reduceIte, forall_const, implies_true, reduceCtorEq, ne_eq, Nat.reduceBNe, Nat.reduceBEq, IntKind.signed, Nat.reduceEqDiff, Nat.reduceLeDiff, Nat.reduceLT, eq_self, Int.reduceEq, Int.reduceLT, Int.reduceLE, Int.reduceAdd, Int.reduceSub, VC.regC_nil, VC.regC_cons, VC.regCK_eq, VC.callQ, VC.tailQ, VC.goCall, VC.chStep]
      exact ⟨⟨by omega, by omega⟩, fun m => ⟨by rw [hr], sv, by rw [hr]; exact (h.below_st hB).drewN m⟩⟩
    have eo := eq_false ho
    have hr : dpass n c p = (0, dnote n x p) := by unfold dpass; rw [if_neg q0, if_neg q1, if_pos k3, hxt, if_neg ho]
    simp -dsimp (maxSteps := 2000000) only [Fa.F58, rdI_of z0, z0, rdI_of z1, z1, hyl, b1, b2, e3, rdSA_of m2, rdSN_of m2, rdSC_of m2, m2, rdI_of c1, c1, hol, hgl, eo, Int.toNat_natCast, Nat.zero_add, undef, tu, uf, ul, ur, VC.Now, VC.vc, VC.lib, VC.mapN_drewN, VC.mapB_drewN, VC.regQ, VC.loopK, VC.reg, VC.opP, VC.opS, VC.opZ, VC.nomulB, VC.pv, VC.thenF, VC.blkF, VC.retF, VC.resV, VC.oneV, VC.evo, VC.bin, VC.binI, VC.cmpI, VC.arithI, VC.ldv, VC.slv, VC.pickP, VC.holds, VC.chainOf, VC.look, VC.junk, VC.put, VC.eff, VC.callee, VC.pureB, VC.rdK, VC.rdKs, VC.okKs, VC.eqKs, VC.fillL, VC.putL, VC.stW, VC.stOK, VC.mixF, VC.setAll, Nat.reduceAdd, Nat.reduceSub, Nat.reduceMul, if_true, if_false, ↓reduceIte, forall_const, implies_true, reduceCtorEq, ne_eq, Nat.reduceBNe, Nat.reduceBEq, IntKind.signed, Nat.reduceEqDiff, Nat.reduceLeDiff, Nat.reduceLT, eq_self, Int.reduceEq, Int.reduceLT, Int.reduceLE, Int.reduceAdd, Int.reduceSub, VC.regC_nil, VC.regC_cons, VC.regCK_eq, VC.callQ, VC.tailQ, VC.goCall, VC.chStep]
    intro u7 u8
    refine ⟨⟨by omega, by omega⟩, fun m => ?_⟩
    refine CALL_by (dnote_any (h2.drewN m) hxn hn (fun t => by have := hb.len t; omega)) ?_
    rintro _ w4 ⟨rfl, v4, st4⟩
    refine ⟨_, rfl, ?_⟩
    rw [VC.Now, VC.seqK_eq]
    simp -dsimp (maxSteps := 2000000) only [Fa.F58, VC.Now, VC.vc, VC.lib, VC.mapN_drewN, VC.mapB_drewN, VC.regQ, VC.loopK, VC.reg, VC.opP, VC.opS, VC.opZ, VC.nomulB, VC.pv, VC.thenF, VC.blkF, VC.retF, VC.resV, VC.oneV, VC.evo, VC.bin, VC.binI, VC.cmpI, VC.arithI, VC.ldv, VC.slv, VC.pickP, VC.holds, VC.chainOf, VC.look, VC.junk, VC.put, VC.eff, VC.callee, VC.pureB, VC.rdK, VC.rdKs, VC.okKs, VC.eqKs, VC.fillL, VC.putL, VC.stW, VC.stOK, VC.mixF, VC.setAll, Nat.reduceAdd, Nat.reduceSub, Nat.reduceMul, if_true, if_false, ↓reduceIte, forall_const, implies_true, reduceCtorEq, ne_eq, Nat.reduceBNe, Nat.reduceBEq, IntKind.signed, Nat.reduceEqDiff, Nat.reduceLeDiff, Nat.reduceLT, eq_self, Int.reduceEq, Int.reduceLT, Int.reduceLE, Int.reduceAdd, Int.reduceSub, VC.regC_nil, VC.regC_cons, VC.regCK_eq, VC.callQ, VC.tailQ, VC.goCall, VC.chStep]
    exact ⟨by rw [hr], v4, ((h.below_st hB).drewN m).trans (by rw [hr]; exact st4)⟩
  have e3 := eq_false k3
  by_cases k2 : c.kind = 2
  · have e1 : (c.kind = 1) = False := eq_false (by omega)
    have e2 := eq_true k2
    (repeat rw [vc_seq]); refine vc_plain _ fun Q3 hQ3 => ?_; simp -dsimp (maxSteps := 2000000) only [Fa.F58, rdI_of z0, z0, hyl, e1, e2, e3, undef, tu, uf, ul, ur, VC.Now, VC.vc_skip, VC.vc_ret, VC.vc_exit, VC.vc_block, VC.vc_cond, VC.vc_region, VC.lib, VC.mapN_drewN, VC.mapB_drewN, VC.regQ, VC.loopK, VC.reg, VC.opP, VC.opS, VC.opZ, VC.nomulB, VC.pv, VC.thenF, VC.blkF, VC.retF, VC.resV, VC.oneV, VC.evo, VC.bin, VC.binI, VC.cmpI, VC.arithI, VC.ldv, VC.slv, VC.pickP, VC.holds, VC.chainOf, VC.look, VC.junk, VC.put, VC.eff, VC.callee, VC.pureB, VC.rdK, VC.rdKs, VC.okKs, VC.eqKs, VC.fillL, VC.putL, VC.stW, VC.stOK, VC.mixF, VC.setAll, Nat.reduceAdd, Nat.reduceSub, Nat.reduceMul, if_true, if_false, ↓reduceIte, forall_const, implies_true, reduceCtorEq, ne_eq, Nat.reduceBNe, Nat.reduceBEq, IntKind.signed, Nat.reduceEqDiff, Nat.reduceLeDiff, Nat.reduceLT, eq_self, Int.reduceEq, Int.reduceLT, Int.reduceLE, Int.reduceAdd, Int.reduceSub, VC.regC_nil, VC.regC_cons, VC.regCK_eq, VC.callQ, VC.tailQ, VC.goCall, VC.chStep]
    subst hQ3
    by_cases q1 : c.who < 0 ∨ n ≤ c.who
    · have hr : dpass n c p = (2, p) := by unfold dpass; rw [if_neg q0, if_pos q1]
      by_cases a1 : c.who < 0
      · have b1 := eq_true a1
        simp -dsimp (maxSteps := 2000000) only [Fa.F58, rdI_of z1, z1, hyl, b1, undef, tu, uf, ul, ur, VC.Now, VC.vc, VC.lib, VC.mapN_drewN, VC.mapB_drewN, VC.regQ, VC.loopK, VC.reg, VC.opP, VC.opS, VC.opZ, VC.nomulB, VC.pv, VC.thenF, VC.blkF, VC.retF, VC.resV, VC.oneV, VC.evo, VC.bin, VC.binI, VC.cmpI, VC.arithI, VC.ldv, VC.slv, VC.pickP, VC.holds, VC.chainOf, VC.look, VC.junk, VC.put, VC.eff, VC.callee, VC.pureB, VC.rdK, VC.rdKs, VC.okKs, VC.eqKs, VC.fillL, VC.putL, VC.stW, VC.stOK, VC.mixF, VC.setAll, Nat.reduceAdd, Nat.reduceSub, Nat.reduceMul, if_true, if_false, ↓reduceIte, forall_const, implies_true, reduceCtorEq, ne_eq, Nat.reduceBNe, Nat.reduceBEq, IntKind.signed, Nat.reduceEqDiff, Nat.reduceLeDiff, Nat.reduceLT, eq_self, Int.reduceEq, Int.reduceLT, Int.reduceLE, Int.reduceAdd, Int.reduceSub, VC.regC_nil, VC.regC_cons, VC.regCK_eq, VC.callQ, VC.tailQ, VC.goCall, VC.chStep]
        all_goals try intros
        exact ⟨by rw [hr], sv, by rw [hr]; exact (h.below_st hB)⟩
      · have b1 := eq_false a1
        have b2 : ((n : Int) ≤ c.who) = True := eq_true (by omega)
        simp -dsimp (maxSteps := 2000000) only [Fa.F58, rdI_of z1, z1, hyl, b1, b2, undef, tu, uf, ul, ur, VC.Now, VC.vc, VC.lib, VC.mapN_drewN, VC.mapB_drewN, VC.regQ, VC.loopK, VC.reg, VC.opP, VC.opS, VC.opZ, VC.nomulB, VC.pv, VC.thenF, VC.blkF, VC.retF, VC.resV, VC.oneV, VC.evo, VC.bin, VC.binI, VC.cmpI, VC.arithI, VC.ldv, VC.slv, VC.pickP, VC.holds, VC.chainOf, VC.look, VC.junk, VC.put, VC.eff, VC.callee, VC.pureB, VC.rdK, VC.rdKs, VC.okKs, VC.eqKs, VC.fillL, VC.putL, VC.stW, VC.stOK, VC.mixF, VC.setAll, Nat.reduceAdd, Nat.reduceSub, Nat.reduceMul, if_true, if_false, ↓reduceIte, forall_const, implies_true, reduceCtorEq, ne_eq, Nat.reduceBNe, Nat.reduceBEq, IntKind.signed, Nat.reduceEqDiff, Nat.reduceLeDiff, Nat.reduceLT, eq_self, Int.reduceEq, Int.reduceLT, Int.reduceLE, Int.reduceAdd, Int.reduceSub, VC.regC_nil, VC.regC_cons, VC.regCK_eq, VC.callQ, VC.tailQ, VC.goCall, VC.chStep]
        all_goals try intros
        exact ⟨by rw [hr], sv, by rw [hr]; exact (h.below_st hB)⟩
    have b1 : (c.who < 0) = False := eq_false (by omega)
    have b2 : ((n : Int) ≤ c.who) = False := eq_false (by omega)
    obtain ⟨x, hx0⟩ : ∃ x : Nat, c.who = x := ⟨c.who.toNat, by omega⟩
    have hxn : x < n := by omega
    have hxt : c.who.toNat = x := by omega
    rw [hx0] at z1 b1 b2
    have bo : Box w2 a.ob [vc, .slice (some ⟨a.gm, 0, none⟩) n a.cm, .slice (some ⟨a.go, 0, none⟩) n a.co, bv, .bool dn] := h2.get 0 rfl
    have m1 := bo.at (i := 1) rfl
    have m2 := bo.at (i := 2) rfl
    have hol := bo.1
    have bm : Box w2 a.gm ((List.range n).map fun i => iV (p.money i)) := h2.get 1 rfl
    have bg : Box w2 a.go ((List.range n).map fun i => iV (p.own i)) := h2.get 2 rfl
    have c0 : w2.cell? ⟨a.gm, x, none⟩ = some (iV (p.money x)) := bm.at (i := x) (by simp [hxn])
    have c1 : w2.cell? ⟨a.go, x, none⟩ = some (iV (p.own x)) := bg.at (i := x) (by simp [hxn])
    have hml := bm.1
    have hgl := bg.1
    by_cases q3 : (c.other < 0 ∨ n ≤ c.other) ∨ c.other = c.who
    · have hr : dpass n c p = (2, p) := by unfold dpass; rw [if_neg q0, if_neg q1, if_neg (by omega), if_pos q3]
      by_cases a1 : c.other < 0
      · have b3 := eq_true a1
        simp -dsimp (maxSteps := 2000000) only [Fa.F58, rdI_of z0, z0, rdI_of z1, z1, rdI_of z2, z2, hyl, b1, b2, e3, b3, undef, tu, uf, ul, ur, VC.Now, VC.vc, VC.lib, VC.mapN_drewN, VC.mapB_drewN, VC.regQ, VC.loopK, VC.reg, VC.opP, VC.opS, VC.opZ, VC.nomulB, VC.pv, VC.thenF, VC.blkF, VC.retF, VC.resV, VC.oneV, VC.evo, VC.bin, VC.binI, VC.cmpI, VC.arithI, VC.ldv, VC.slv, VC.pickP, VC.holds, VC.chainOf, VC.look, VC.junk, VC.put, VC.eff, VC.callee, VC.pureB, VC.rdK, VC.rdKs, VC.okKs, VC.eqKs, VC.fillL, VC.putL, VC.stW, VC.stOK, VC.mixF, VC.setAll, Nat.reduceAdd, Nat.reduceSub, Nat.reduceMul, if_true, if_false, ↓reduceIte, forall_const, implies_true, reduceCtorEq, ne_eq, Nat.reduceBNe, Nat.reduceBEq, IntKind.signed, Nat.reduceEqDiff, Nat.reduceLeDiff, Nat.reduceLT, eq_self, Int.reduceEq, Int.reduceLT, Int.reduceLE, Int.reduceAdd, Int.reduceSub, VC.regC_nil, VC.regC_cons, VC.regCK_eq, VC.callQ, VC.tailQ, VC.goCall, VC.chStep]
        intros
        exact ⟨by rw [hr], sv, by rw [hr]; exact (h.below_st hB)⟩
      have b3 := eq_false a1
      by_cases a2 : n ≤ c.other
      · have b4 : ((n : Int) ≤ c.other) = True := eq_true (by omega)
        simp -dsimp (maxSteps := 2000000) only [Fa.F58, rdI_of z0, z0, rdI_of z1, z1, rdI_of z2, z2, hyl, b1, b2, e3, b3, b4, undef, tu, uf, ul, ur, VC.Now, VC.vc, VC.lib, VC.mapN_drewN, VC.mapB_drewN, VC.regQ, VC.loopK, VC.reg, VC.opP, VC.opS, VC.opZ, VC.nomulB, VC.pv, VC.thenF, VC.blkF, VC.retF, VC.resV, VC.oneV, VC.evo, VC.bin, VC.binI, VC.cmpI, VC.arithI, VC.ldv, VC.slv, VC.pickP, VC.holds, VC.chainOf, VC.look, VC.junk, VC.put, VC.eff, VC.callee, VC.pureB, VC.rdK, VC.rdKs, VC.okKs, VC.eqKs, VC.fillL, VC.putL, VC.stW, VC.stOK, VC.mixF, VC.setAll, Nat.reduceAdd, Nat.reduceSub, Nat.reduceMul, if_true, if_false, ↓reduceIte, forall_const, implies_true, reduceCtorEq, ne_eq, Nat.reduceBNe, Nat.reduceBEq, IntKind.signed, Nat.reduceEqDiff, Nat.reduceLeDiff, Nat.reduceLT, eq_self, Int.reduceEq, Int.reduceLT, Int.reduceLE, Int.reduceAdd, Int.reduceSub, VC.regC_nil, VC.regC_cons, VC.regCK_eq, VC.callQ, VC.tailQ, VC.goCall, VC.chStep]
        intros
        exact ⟨by rw [hr], sv, by rw [hr]; exact (h.below_st hB)⟩
      have b4 : ((n : Int) ≤ c.other) = False := eq_false (by omega)
      have b5 : (c.other = x) = True := eq_true (by omega)
      simp -dsimp (maxSteps := 2000000) only [Fa.F58, rdI_of z0, z0, rdI_of z1, z1, rdI_of z2, z2, hyl, b1, b2, e3, b3, b4, b5, undef, tu, uf, ul, ur, VC.Now, VC.vc, VC.lib, VC.mapN_drewN, VC.mapB_drewN, VC.regQ, VC.loopK, VC.reg, VC.opP, VC.opS, VC.opZ, VC.nomulB, VC.pv, VC.thenF, VC.blkF, VC.retF, VC.resV, VC.oneV, VC.evo, VC.bin, VC.binI, VC.cmpI, VC.arithI, VC.ldv, VC.slv, VC.pickP, VC.holds, VC.chainOf, VC.look, VC.junk, VC.put, VC.eff, VC.callee, VC.pureB, VC.rdK, VC.rdKs, VC.okKs, VC.eqKs, VC.fillL, VC.putL, VC.stW, VC.stOK, VC.mixF, VC.setAll, Nat.reduceAdd, Nat.reduceSub, Nat.reduceMul, if_true, if_false, ↓reduceIte, forall_const, implies_true, reduceCtorEq, ne_eq, Nat.reduceBNe, Nat.reduceBEq, IntKind.signed, Nat.reduceEqDiff, Nat.reduceLeDiff, Nat.reduceLT, eq_self, Int.reduceEq, Int.reduceLT, Int.reduceLE, Int.reduceAdd, Int.reduceSub, VC.regC_nil, VC.regC_cons, VC.regCK_eq, VC.callQ, VC.tailQ, VC.goCall, VC.chStep]
      intros
      exact ⟨by rw [hr], sv, by rw [hr]; exact (h.below_st hB)⟩
    obtain ⟨y, hy0⟩ : ∃ y : Nat, c.other = y := ⟨c.other.toNat, by omega⟩
    have hyn : y < n := by omega
    have hyt : c.other.toNat = y := by omega
    have hxy : y ≠ x := by omega
    rw [hy0] at z2
    have b3 : ((y : Int) < 0) = False := eq_false (by omega)
    have b4 : ((n : Int) ≤ (y : Int)) = False := eq_false (by omega)
    have b5 : ((y : Int) = x) = False := eq_false (by omega)
    have ht := idx_lt hyn hxn
    have hRc : Recs w2 a.gl (n * n) 3 (linL p.lt sv) := h2.get 3 rfl
    have d0 := hRc.at ht (j := 0) (by omega) rfl
    have d1 := hRc.at ht (j := 1) (by omega) rfl
    have hO := DObs.get h2 ht
    obtain ⟨As, cs, es, _⟩ := id hO
    rw [es] at d0
    simp only [Nat.add_zero] at d0
    have hll := hRc.1
    have ej1 : (y : Int) * n = ((y * n : Nat) : Int) := by simp
    have ej2 : ((y * n : Nat) : Int) + (x : Int) = ((y * n + x : Nat) : Int) := by simp
    have hyn2 : y * n ≤ n * n := Nat.mul_le_mul_right n (Nat.le_of_lt hyn)
    have w1 : IntKind.i64.wrap ((y * n : Nat) : Int) = ((y * n : Nat) : Int) := fits_wrap (fits_i64 (by omega) (by omega))
    have w2' : IntKind.i64.wrap ((y * n + x : Nat) : Int) = ((y * n + x : Nat) : Int) := fits_wrap (fits_i64 (by omega) (by omega))
    have hlk := hb.lok (y * n + x)
    obtain ⟨ln, hln⟩ : ∃ ln, ln = p.lt (y * n + x) := ⟨_, rfl⟩
    rw [← hln] at d0 d1 hlk
    by_cases hc : ln.come = ln.sent.length
    · have ec : ((ln.come : Int) = (ln.sent.length : Int)) = True := eq_true (by omega)
      have hr : dpass n c p = (5, p) := by unfold dpass; rw [if_neg q0, if_neg q1, if_neg k3, if_neg q3, if_pos k2, hxt, hyt, ← hln, if_pos hc]
      simp -dsimp (maxSteps := 2000000) only [Fa.F58, rdI_of z0, z0, rdI_of z1, z1, rdI_of z2, z2, hyl, b1, b2, e3, b3, b4, b5, e1, ej1, ej2, w1, w2', rdSA_of d0, rdSN_of d0, rdSC_of d0, d0, rdI_of d1, d1, hll, ec, Int.toNat_natCast, Nat.zero_add, undef, tu, uf, ul, ur, VC.Now, VC.vc, VC.lib, VC.mapN_drewN, VC.mapB_drewN, VC.regQ, VC.loopK, VC.reg, VC.opP, VC.opS, VC.opZ, VC.nomulB, VC.pv, VC.thenF, VC.blkF, VC.retF, VC.resV, VC.oneV, VC.evo, VC.bin, VC.binI, VC.cmpI, VC.arithI, VC.ldv, VC.slv, VC.pickP, VC.holds, VC.chainOf, VC.look, VC.junk, VC.put, VC.eff, VC.callee, VC.pureB, VC.rdK, VC.rdKs, VC.okKs, VC.eqKs, VC.fillL, VC.putL, VC.stW, VC.stOK, VC.mixF, VC.setAll, Nat.reduceAdd, Nat.reduceSub, Nat.reduceMul, if_true, if_false, ↓reduceIte, forall_const, implies_true, reduceCtorEq, ne_eq, Nat.reduceBNe, Nat.reduceBEq, IntKind.signed, Nat.reduceEqDiff, Nat.reduceLeDiff, Nat.reduceLT, eq_self, Int.reduceEq, Int.reduceLT, Int.reduceLE, Int.reduceAdd, Int.reduceSub, VC.regC_nil, VC.regC_cons, VC.regCK_eq, VC.callQ, VC.tailQ, VC.goCall, VC.chStep]
      intros
      exact ⟨⟨by omega, by omega⟩, fun m => ⟨by rw [hr], sv, by rw [hr]; exact (h.below_st hB).drewN m⟩⟩
    have ec : ((ln.come : Int) = (ln.sent.length : Int)) = False := eq_false (by omega)
    rw [← hln] at hO es
    obtain ⟨gs, cs', es', _, hgs⟩ := hO.form (by omega)
    have e9 := es.symm.trans es'
    injection e9 with e10 _ e11
    subst e10
    subst e11
    have hOe := hO
    rw [es'] at hOe
    have x0 : w2.cell? ⟨gs, ln.come, none⟩ = some (iV (ln.sent.getD ln.come 0)) := by
      rw [(hOe.at (j := ln.come) (by omega)).1, List.getElem?_map, List.getElem?_eq_getElem (show ln.come < ln.sent.length by omega), List.getD_eq_getElem?_getD, List.getElem?_eq_getElem (show ln.come < ln.sent.length by omega)]; rfl
    have f1 := hRc.soft ht (j := 1) (by omega)
    have d0d : ∀ m, (w2.drewN m).cell? ⟨a.gl, (y * n + x) * 3, none⟩ = _ := fun m => d0
    have d1d : ∀ m, (w2.drewN m).cell? ⟨a.gl, (y * n + x) * 3 + 1, none⟩ = _ := fun m => d1
    have x0d : ∀ m, (w2.drewN m).cell? ⟨gs, ln.come, none⟩ = _ := fun m => x0
    have hgb : a.gl < sb := by rw [← hsb]; exact (h.lt 3 rfl (g := a.gl) rfl).2
    have z1w : ∀ m, ((w2.drewN m).setCell ⟨a.gl, (y * n + x) * 3 + 1, none⟩ (.int .i64 ((ln.come : Int) + 1))).cell? ⟨sb, 1, none⟩ = some (iV x) := fun m => by
      rw [← hx0]
      exact ((y0.below (below_drewN (Below.refl _ w2) m)).agree (Agree.setCell (X := fun g => g = a.gl) _ _ (a := ⟨a.gl, (y * n + x) * 3 + 1, none⟩) rfl) (by omega)).at (i := 1) rfl
    have st5 : ∀ m, St B (DObs n a p sv vc bv dn) w (DObs n a { p with lt := upd p.lt (y * n + x) { ln with come := ln.come + 1 } } sv vc bv dn) ((w2.drewN m).setCell ⟨a.gl, (y * n + x) * 3 + 1, none⟩ (.int .i64 ((ln.come : Int) + 1))) := fun m =>
      ((h.below_st hB).drewN m).trans (DObs.line (h2.drewN m) ht (j := 1) (by omega) (u := iV ((ln.come : Int) + 1)) (l' := { ln with come := ln.come + 1 }) (by rw [hln]; rfl) (by rw [hln]))
    have hxv := hb.val (y * n + x)
    rw [← hln] at hxv
    have hxm : ln.sent.getD ln.come 0 ∈ ln.sent := by rw [List.getD_eq_getElem?_getD, List.getElem?_eq_getElem (show ln.come < ln.sent.length by omega)]; exact List.getElem_mem _
    have hxv := hxv _ hxm
    have hl5 := hb.len (y * n + x)
    rw [← hln] at hl5
    obtain ⟨xx, hxx⟩ : ∃ xx, xx = ln.sent.getD ln.come 0 := ⟨_, rfl⟩
    rw [← hxx] at hxv x0
    have x0d : ∀ m, (w2.drewN m).cell? ⟨gs, ln.come, none⟩ = some (iV xx) := fun m => x0
    by_cases q6 : xx < 0
    · have e6 := eq_true q6
      have hr : dpass n c p = (0, dnote n x { p with lt := upd p.lt (y * n + x) { ln with come := ln.come + 1 } }) := by unfold dpass; rw [if_neg q0, if_neg q1, if_neg k3, if_neg q3, if_pos k2, hxt, hyt, ← hln, if_neg hc, ← hxx, if_pos q6]
      simp -dsimp (maxSteps := 2000000) only [Fa.F58, rdI_of z0, z0, rdI_of z1, z1, rdI_of z2, z2, hyl, b1, b2, e3, b3, b4, b5, e1, ej1, ej2, w1, w2', rdSA_of d0, rdSN_of d0, rdSC_of d0, d0, rdI_of d1, d1, fun m => rdSA_of (d0d m), fun m => rdSN_of (d0d m), fun m => rdSC_of (d0d m), d0d, fun m => rdI_of (d1d m), d1d, fun m => rdI_of (x0d m), x0d, fun m => rdI_of (z1w m), z1w, hgs, hll, ec, e6, Int.toNat_natCast, Nat.zero_add, undef, tu, uf, ul, ur, VC.Now, VC.vc, VC.lib, VC.mapN_drewN, VC.mapB_drewN, VC.regQ, VC.loopK, VC.reg, VC.opP, VC.opS, VC.opZ, VC.nomulB, VC.pv, VC.thenF, VC.blkF, VC.retF, VC.resV, VC.oneV, VC.evo, VC.bin, VC.binI, VC.cmpI, VC.arithI, VC.ldv, VC.slv, VC.pickP, VC.holds, VC.chainOf, VC.look, VC.junk, VC.put, VC.eff, VC.callee, VC.pureB, VC.rdK, VC.rdKs, VC.okKs, VC.eqKs, VC.fillL, VC.putL, VC.stW, VC.stOK, VC.mixF, VC.setAll, Nat.reduceAdd, Nat.reduceSub, Nat.reduceMul, if_true, if_false, ↓reduceIte, forall_const, implies_true, reduceCtorEq, ne_eq, Nat.reduceBNe, Nat.reduceBEq, IntKind.signed, Nat.reduceEqDiff, Nat.reduceLeDiff, Nat.reduceLT, eq_self, Int.reduceEq, Int.reduceLT, Int.reduceLE, Int.reduceAdd, Int.reduceSub, VC.regC_nil, VC.regC_cons, VC.regCK_eq, VC.callQ, VC.tailQ, VC.goCall, VC.chStep]
      intro v1 v2 v3
      refine ⟨⟨by omega, by omega⟩, fun m => ⟨⟨by omega, by omega⟩, fun m' => ⟨fits_i64 (by omega) (by omega), f1, ?_⟩⟩⟩
      refine CALL_by (dnote_any (st5 (m + m')).hp hxn hn (fun t => ?_)) ?_
      · show (upd p.lt (y * n + x) { ln with come := ln.come + 1 } t).sent.length ≤ 50000
        have := hb.len t
        by_cases e : t = y * n + x
        · rw [e, upd_same]; show ln.sent.length ≤ 50000; omega
        · rw [upd_other e]; omega
      rintro _ w6 ⟨rfl, v6, st6⟩
      refine ⟨_, rfl, ?_⟩
      rw [VC.Now, VC.seqK_eq]
      simp -dsimp (maxSteps := 2000000) only [Fa.F58, VC.Now, VC.vc, VC.lib, VC.mapN_drewN, VC.mapB_drewN, VC.regQ, VC.loopK, VC.reg, VC.opP, VC.opS, VC.opZ, VC.nomulB, VC.pv, VC.thenF, VC.blkF, VC.retF, VC.resV, VC.oneV, VC.evo, VC.bin, VC.binI, VC.cmpI, VC.arithI, VC.ldv, VC.slv, VC.pickP, VC.holds, VC.chainOf, VC.look, VC.junk, VC.put, VC.eff, VC.callee, VC.pureB, VC.rdK, VC.rdKs, VC.okKs, VC.eqKs, VC.fillL, VC.putL, VC.stW, VC.stOK, VC.mixF, VC.setAll, Nat.reduceAdd, Nat.reduceSub, Nat.reduceMul, if_true, if_false, ↓reduceIte, forall_const, implies_true, reduceCtorEq, ne_eq, Nat.reduceBNe, Nat.reduceBEq, IntKind.signed, Nat.reduceEqDiff, Nat.reduceLeDiff, Nat.reduceLT, eq_self, Int.reduceEq, Int.reduceLT, Int.reduceLE, Int.reduceAdd, Int.reduceSub, VC.regC_nil, VC.regC_cons, VC.regCK_eq, VC.callQ, VC.tailQ, VC.goCall, VC.chStep]
      exact ⟨by rw [hr], v6, (st5 (m + m')).trans (by rw [hr]; exact st6)⟩
    have e6 := eq_false q6
    have hr : dpass n c p = (0, { p with money := upd p.money x (p.money x + xx), lt := upd p.lt (y * n + x) { ln with come := ln.come + 1 } }) := by unfold dpass; rw [if_neg q0, if_neg q1, if_neg k3, if_neg q3, if_pos k2, hxt, hyt, ← hln, if_neg hc, ← hxx, if_neg q6]
    simp -dsimp (maxSteps := 2000000) only [Fa.F58, rdI_of z0, z0, rdI_of z1, z1, rdI_of z2, z2, hyl, b1, b2, e3, b3, b4, b5, e1, ej1, ej2, w1, w2', rdSA_of d0, rdSN_of d0, rdSC_of d0, d0, rdI_of d1, d1, fun m => rdSA_of (d0d m), fun m => rdSN_of (d0d m), fun m => rdSC_of (d0d m), d0d, fun m => rdI_of (d1d m), d1d, fun m => rdI_of (x0d m), x0d, fun m => rdI_of (z1w m), z1w, hgs, hll, ec, e6, Int.toNat_natCast, Nat.zero_add, undef, tu, uf, ul, ur, VC.Now, VC.vc, VC.lib, VC.mapN_drewN, VC.mapB_drewN, VC.regQ, VC.loopK, VC.reg, VC.opP, VC.opS, VC.opZ, VC.nomulB, VC.pv, VC.thenF, VC.blkF, VC.retF, VC.resV, VC.oneV, VC.evo, VC.bin, VC.binI, VC.cmpI, VC.arithI, VC.ldv, VC.slv, VC.pickP, VC.holds, VC.chainOf, VC.look, VC.junk, VC.put, VC.eff, VC.callee, VC.pureB, VC.rdK, VC.rdKs, VC.okKs, VC.eqKs, VC.fillL, VC.putL, VC.stW, VC.stOK, VC.mixF, VC.setAll, Nat.reduceAdd, Nat.reduceSub, Nat.reduceMul, if_true, if_false, ↓reduceIte, forall_const, implies_true, reduceCtorEq, ne_eq, Nat.reduceBNe, Nat.reduceBEq, IntKind.signed, Nat.reduceEqDiff, Nat.reduceLeDiff, Nat.reduceLT, eq_self, Int.reduceEq, Int.reduceLT, Int.reduceLE, Int.reduceAdd, Int.reduceSub, VC.regC_nil, VC.regC_cons, VC.regCK_eq, VC.callQ, VC.tailQ, VC.goCall, VC.chStep]
    intro v1 v2 v3
    refine ⟨⟨by omega, by omega⟩, fun m => ⟨⟨by omega, by omega⟩, fun m' => ⟨fits_i64 (by omega) (by omega), f1, ?_⟩⟩⟩
    have st6 := st5 (m + m')
    have z1x := z1w (m + m')
    have hyl6 : sb < ((w2.drewN (m + m')).setCell ⟨a.gl, (y * n + x) * 3 + 1, none⟩ (.int .i64 ((ln.come : Int) + 1))).heap.size := by simpa using hyl
    generalize (w2.drewN (m + m')).setCell ⟨a.gl, (y * n + x) * 3 + 1, none⟩ (.int .i64 ((ln.come : Int) + 1)) = w6 at st6 z1x hyl6 ⊢
    have h6 := st6.hp
    have bo6 : Box w6 a.ob [vc, .slice (some ⟨a.gm, 0, none⟩) n a.cm, .slice (some ⟨a.go, 0, none⟩) n a.co, bv, .bool dn] := h6.get 0 rfl
    have n1 := bo6.at (i := 1) rfl
    have hol6 := bo6.1
    have bm6 : Box w6 a.gm ((List.range n).map fun i => iV (p.money i)) := h6.get 1 rfl
    have n0 : w6.cell? ⟨a.gm, x, none⟩ = some (iV (p.money x)) := bm6.at (i := x) (by simp [hxn])
    have hml6 := bm6.1
    have hmx := hb.mon x hxn
    refine wp_plain fun Q hQ => ?_
    refine WP_tail 17 Fa.mix (by kernel_rfl) (by kernel_rfl) (by kernel_rfl) rfl ?_
    simp -dsimp (maxSteps := 2000000) only [Fa.F58, rdSA_of n1, rdSN_of n1, rdSC_of n1, n1, rdI_of n0, n0, rdI_of z1x, z1x, hol6, hml6, hyl6, Int.toNat_natCast, Nat.zero_add, VC.Now, VC.vc_skip, VC.vc_ret, VC.vc_exit, VC.vc_block, VC.vc_cond, VC.vc_region, VC.lib, VC.mapN_drewN, VC.mapB_drewN, VC.regQ, VC.loopK, VC.reg, VC.opP, VC.opS, VC.opZ, VC.nomulB, VC.pv, VC.thenF, VC.blkF, VC.retF, VC.resV, VC.oneV, VC.evo, VC.bin, VC.binI, VC.cmpI, VC.arithI, VC.ldv, VC.slv, VC.pickP, VC.holds, VC.chainOf, VC.look, VC.junk, VC.put, VC.eff, VC.callee, VC.pureB, VC.rdK, VC.rdKs, VC.okKs, VC.eqKs, VC.fillL, VC.putL, VC.stW, VC.stOK, VC.mixF, VC.setAll, Nat.reduceAdd, Nat.reduceSub, Nat.reduceMul, if_true, if_false, ↓reduceIte, forall_const, implies_true, reduceCtorEq, ne_eq, Nat.reduceBNe, Nat.reduceBEq, IntKind.signed, Nat.reduceEqDiff, Nat.reduceLeDiff, Nat.reduceLT, eq_self, Int.reduceEq, Int.reduceLT, Int.reduceLE, Int.reduceAdd, Int.reduceSub, VC.regC_nil, VC.regC_cons, VC.regCK_eq, VC.callQ, VC.tailQ, VC.goCall, VC.chStep]
    refine ⟨⟨by omega, by omega⟩, fits_i64 (by omega) (by omega), ⟨by omega, by omega⟩, fun w7 hB7 => ?_⟩
    have h7 := h6.below hB7
    have bm7 : Box w7 a.gm ((List.range n).map fun i => iV (p.money i)) := h7.get 1 rfl
    have n7 : w7.cell? ⟨a.gm, x, none⟩ = some (iV (p.money x)) := bm7.at (i := x) (by simp [hxn])
    refine ⟨⟨by rw [n7]; rfl, bm7.soft (i := x) (by simpa using hxn)⟩, ?_⟩
    have st8 := (st6.later hB7).trans (DObs.pay h7 hxn (p.money x + xx))
    subst hQ
    simp -dsimp (maxSteps := 2000000) only [Fa.F58, VC.Now, VC.vc, VC.lib, VC.mapN_drewN, VC.mapB_drewN, VC.regQ, VC.loopK, VC.reg, VC.opP, VC.opS, VC.opZ, VC.nomulB, VC.pv, VC.thenF, VC.blkF, VC.retF, VC.resV, VC.oneV, VC.evo, VC.bin, VC.binI, VC.cmpI, VC.arithI, VC.ldv, VC.slv, VC.pickP, VC.holds, VC.chainOf, VC.look, VC.junk, VC.put, VC.eff, VC.callee, VC.pureB, VC.rdK, VC.rdKs, VC.okKs, VC.eqKs, VC.fillL, VC.putL, VC.stW, VC.stOK, VC.mixF, VC.setAll, Nat.reduceAdd, Nat.reduceSub, Nat.reduceMul, if_true, if_false, ↓reduceIte, forall_const, implies_true, reduceCtorEq, ne_eq, Nat.reduceBNe, Nat.reduceBEq, IntKind.signed, Nat.reduceEqDiff, Nat.reduceLeDiff, Nat.reduceLT, eq_self, Int.reduceEq, Int.reduceLT, Int.reduceLE, Int.reduceAdd, Int.reduceSub, VC.regC_nil, VC.regC_cons, VC.regCK_eq, VC.callQ, VC.tailQ, VC.goCall, VC.chStep]
    exact ⟨by rw [hr], sv, by rw [hr]; exact st8⟩
  have e1 : (c.kind = 1) = True := eq_true (by omega)
  revert B n a p sv vc bv dn w c w2 sb
  exact HH.1
end Go.Proofs.Ytelfmhiaafkimaa
