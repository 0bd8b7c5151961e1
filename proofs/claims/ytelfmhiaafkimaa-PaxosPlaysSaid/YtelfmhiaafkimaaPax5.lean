/- A choice: one step. -/
import Derived.Test.YtelfmhiaafkimaaPax4
namespace Go.Proofs.Ytelfmhiaafkimaa
open Go Go.RowKit Go.VC
set_option linter.unusedSimpArgs false
set_option linter.unusedVariables false
abbrev tryL (c : TryC) : List Value := [.int .i64 c.kind, .int .i64 c.ballot, .int .i64 c.who, .int .i64 c.val]
abbrev tryV (c : TryC) : Value := .agg #[.int .i64 c.kind, .int .i64 c.ballot, .int .i64 c.who, .int .i64 c.val]
section
variable {B n t : Nat} {a : PA} {s : PS} {w : World}
theorem allM_val (o : Option Nat) (a : PA) : ((o.map fun i => ptrV (a.pb i)).getD (.pointer none)) = .pointer (o.map fun i => ⟨a.pb i, 0, none⟩) := by cases o <;> rfl

theorem allM_begin {c : TryC} {x y : Nat} (hinv : ∀ i, i < s.k → upd a.pb s.k x i = a.pb i) : updV (allM a s.num s.k) c.ballot (ptrV x) = allM { a with pb := upd a.pb s.k x, tb := upd a.tb s.k y } (upd s.num s.k c.ballot) (s.k + 1) := by
  funext b
  unfold allM
  show _ = (if upd s.num s.k c.ballot s.k = b then some s.k else pidx (upd s.num s.k c.ballot) b s.k).map fun i => ptrV (upd a.pb s.k x i)
  rw [upd_same, pidx_upd (Nat.le_refl _)]
  by_cases e : b = c.ballot
  · rw [e, updV_same, if_pos rfl, Option.map_some, upd_same]
  · rw [updV_other e, if_neg (fun h => e h.symm)]
    cases hp : pidx s.num b s.k with
    | none => rfl
    | some i => rw [Option.map_some, Option.map_some, hinv i (pidx_some hp).1]
theorem tookM_none {o : BalS} (h : o.took = fun _ => false) : tookM o = fun _ => none := by
  funext y; unfold tookM; rw [h]; simp
theorem pbegin_end {c : TryC} {x y : Nat} {L : List Ob} {w' : World}
    (st : St B L w (oBox x (balC y ⟨c.val, bal0, 0, false, fun _ => false, 0⟩) :: oMap EI y 0 (fun _ => none) :: ([oBox a.wb (worldP n a), oRecs a.gv n 3 (fun i => vtrC (s.vt i)), oMap EI a.mb (s.k + 1) (updV (allM a s.num s.k) c.ballot (ptrV x)), oOwn 117 2 s.fixd.length a.vf (s.fixd.flatMap bL), oOwn 117 2 s.chosen.length a.vh (s.chosen.flatMap bL)] ++ (List.range s.k).flatMap (balB a s.bal))) w') :
    St B L w (PObs n { a with pb := upd a.pb s.k x, tb := upd a.tb s.k y } (pbegin c s)) w' := by
  refine st.perm (List.Perm.refl _) ?_
  rw [allM_begin (y := y) (fun i hi => upd_other (by omega))]
  have e3 : (List.range (s.k + 1)).flatMap (balB { a with pb := upd a.pb s.k x, tb := upd a.tb s.k y } (upd s.bal s.k ⟨c.val, bal0, 0, false, fun _ => false, 0⟩)) = (List.range s.k).flatMap (balB a s.bal) ++ [oBox x (balC y ⟨c.val, bal0, 0, false, fun _ => false, 0⟩), oMap EI y 0 (fun _ => none)] := by
    rw [List.range_succ, List.flatMap_append]
    refine congr (congrArg _ (flatMap_same fun i hi => ?_)) ?_
    · have := List.mem_range.1 hi
      unfold balB
      show [oBox (upd a.pb s.k x i) (balC (upd a.tb s.k y i) _), oMap EI (upd a.tb s.k y i) _ _] = _
      rw [upd_other (f := a.pb) (by omega), upd_other (f := a.tb) (by omega), upd_other (f := s.bal) (by omega)]
    · show balB _ _ s.k ++ [] = _
      unfold balB
      show [oBox (upd a.pb s.k x s.k) (balC (upd a.tb s.k y s.k) _), oMap EI (upd a.tb s.k y s.k) _ _] = _
      rw [upd_same, upd_same, upd_same, tookM_none rfl]
  unfold PObs
  show List.Perm _ ([oBox a.wb _, oRecs a.gv n 3 _, oMap EI a.mb (s.k + 1) _, oOwn _ 2 _ _ _, oOwn _ 2 _ _ _] ++ (List.range (s.k + 1)).flatMap (balB { a with pb := upd a.pb s.k x, tb := upd a.tb s.k y } (upd s.bal s.k ⟨c.val, bal0, 0, false, fun _ => false, 0⟩)))
  rw [e3]
  exact List.perm_append_comm (l₁ := [_, _])

set_option maxRecDepth 8000 in
set_option maxHeartbeats 8000000 in
theorem pstep_any (h : Hp B (PObs n a s) w) (hok : POK n t s) (ht : t ≤ 120) (hn : n ≤ 5) (c : TryC) (hc : fits .i64 c.ballot) :
    Calls Try.prog 46 #[ptrV a.wb, tryV c] w (PPost B n a s w (pstep n c s)) := by
  have x0 := Box.new w (tryL c) 107
  have hB0 : Below w.heap.size w (w.alloc (.cells (tryL c).toArray 107)) := (Below.refl _ _).alloc (Nat.le_refl _) _
  refine calls_vc (rs := [.tmp 4]) Fa.mix Try.func46 rfl Try.ntmps46 rfl (by kernel_rfl) (Nat.le_of_ble_eq_true rfl) ?_
  (repeat rw [vc_seq]); refine vc_plain _ fun Q hQ => ?_; simp -dsimp only [Fa.F46, VC.Now, VC.vc_skip, VC.vc_ret, VC.vc_exit, VC.vc_block, VC.vc_cond, VC.vc_region, VC.lib, VC.mapN_drewN, VC.mapB_drewN, VC.regQ, VC.loopK, VC.reg, VC.opP, VC.pv, VC.thenF, VC.blkF, VC.retF, VC.resV, VC.oneV, VC.evo, VC.bin, VC.binI, VC.cmpI, VC.arithI, VC.ldv, VC.slv, VC.pickP, VC.holds, VC.chainOf, VC.look, VC.junk, VC.put, VC.eff, VC.callee, VC.pureB, VC.rdK, VC.rdKs, VC.okKs, VC.eqKs, VC.fillL, VC.putL, VC.stW, VC.stOK, VC.mixF, VC.setAll, Nat.reduceAdd, Nat.reduceSub, Nat.reduceMul, if_true, if_false, ↓reduceIte, forall_const, implies_true, reduceCtorEq, ne_eq, Nat.reduceBNe, Nat.reduceBEq, IntKind.signed, Nat.reduceEqDiff, Nat.reduceLeDiff, Nat.reduceLT, eq_self, Int.reduceEq, Int.reduceLT, Int.reduceLE, Int.reduceAdd, Int.reduceSub, VC.regC_nil, VC.regC_cons, VC.regCK_eq, VC.callQ, VC.tailQ, VC.goCall, VC.chStep]
  change Q _ _ (w.alloc (.cells (tryL c).toArray 107))
  generalize w.alloc (.cells (tryL c).toArray 107) = w1 at x0 hB0 ⊢
  generalize hsb : w.heap.size = sb at x0 ⊢
  have h1 := h.below hB0
  have z0 := x0.at (i := 0) rfl
  have z1 := x0.at (i := 1) rfl
  have z2 := x0.at (i := 2) rfl
  have z3 := x0.at (i := 3) rfl
  have hxl := x0.1
  by_cases q0 : c.kind < 1 ∨ 3 < c.kind
  · have hr : pstep n c s = (4, s) := by unfold pstep; rw [if_pos q0]
    subst hQ
    by_cases q1 : c.kind < 1
    · have e1 := eq_true q1
      simp -dsimp only [Fa.F46, rdI_of z0, z0, e1, undef, tu, uf, ul, ur, VC.Now, VC.vc, VC.lib, VC.mapN_drewN, VC.mapB_drewN, VC.regQ, VC.loopK, VC.reg, VC.opP, VC.pv, VC.thenF, VC.blkF, VC.retF, VC.resV, VC.oneV, VC.evo, VC.bin, VC.binI, VC.cmpI, VC.arithI, VC.ldv, VC.slv, VC.pickP, VC.holds, VC.chainOf, VC.look, VC.junk, VC.put, VC.eff, VC.callee, VC.pureB, VC.rdK, VC.rdKs, VC.okKs, VC.eqKs, VC.fillL, VC.putL, VC.stW, VC.stOK, VC.mixF, VC.setAll, Nat.reduceAdd, Nat.reduceSub, Nat.reduceMul, if_true, if_false, ↓reduceIte, forall_const, implies_true, reduceCtorEq, ne_eq, Nat.reduceBNe, Nat.reduceBEq, IntKind.signed, Nat.reduceEqDiff, Nat.reduceLeDiff, Nat.reduceLT, eq_self, Int.reduceEq, Int.reduceLT, Int.reduceLE, Int.reduceAdd, Int.reduceSub, VC.regC_nil, VC.regC_cons, VC.regCK_eq, VC.callQ, VC.tailQ, VC.goCall, VC.chStep]
      exact PPost.same h hB0 hr
    · have e1 := eq_false q1
      have e2 : (3 < c.kind) = True := eq_true (by omega)
      simp -dsimp only [Fa.F46, rdI_of z0, z0, e1, e2, undef, tu, uf, ul, ur, VC.Now, VC.vc, VC.lib, VC.mapN_drewN, VC.mapB_drewN, VC.regQ, VC.loopK, VC.reg, VC.opP, VC.pv, VC.thenF, VC.blkF, VC.retF, VC.resV, VC.oneV, VC.evo, VC.bin, VC.binI, VC.cmpI, VC.arithI, VC.ldv, VC.slv, VC.pickP, VC.holds, VC.chainOf, VC.look, VC.junk, VC.put, VC.eff, VC.callee, VC.pureB, VC.rdK, VC.rdKs, VC.okKs, VC.eqKs, VC.fillL, VC.putL, VC.stW, VC.stOK, VC.mixF, VC.setAll, Nat.reduceAdd, Nat.reduceSub, Nat.reduceMul, if_true, if_false, ↓reduceIte, forall_const, implies_true, reduceCtorEq, ne_eq, Nat.reduceBNe, Nat.reduceBEq, IntKind.signed, Nat.reduceEqDiff, Nat.reduceLeDiff, Nat.reduceLT, eq_self, Int.reduceEq, Int.reduceLT, Int.reduceLE, Int.reduceAdd, Int.reduceSub, VC.regC_nil, VC.regC_cons, VC.regCK_eq, VC.callQ, VC.tailQ, VC.goCall, VC.chStep]
      exact PPost.same h hB0 hr
  have e1 : (c.kind < 1) = False := eq_false (by omega)
  have e2 : (3 < c.kind) = False := eq_false (by omega)
  subst hQ; simp -dsimp only [VC.Now, VC.vc_skip, VC.vc_ret, VC.vc_exit, VC.vc_block, VC.vc_cond, VC.vc_region, VC.lib, VC.mapN_drewN, VC.mapB_drewN, VC.regQ, VC.loopK, VC.reg, VC.opP, VC.pv, VC.thenF, VC.blkF, VC.retF, VC.resV, VC.oneV, VC.evo, VC.bin, VC.binI, VC.cmpI, VC.arithI, VC.ldv, VC.slv, VC.pickP, VC.holds, VC.chainOf, VC.look, VC.junk, VC.put, VC.eff, VC.callee, VC.pureB, VC.rdK, VC.rdKs, VC.okKs, VC.eqKs, VC.fillL, VC.putL, VC.stW, VC.stOK, VC.mixF, VC.setAll, Nat.reduceAdd, Nat.reduceSub, Nat.reduceMul, if_true, if_false, ↓reduceIte, forall_const, implies_true, reduceCtorEq, ne_eq, Nat.reduceBNe, Nat.reduceBEq, IntKind.signed, Nat.reduceEqDiff, Nat.reduceLeDiff, Nat.reduceLT, eq_self, Int.reduceEq, Int.reduceLT, Int.reduceLE, Int.reduceAdd, Int.reduceSub, VC.regC_nil, VC.regC_cons, VC.regCK_eq, VC.callQ, VC.tailQ, VC.goCall, VC.chStep]; (repeat rw [vc_seq]); refine vc_plain _ fun Q hQ => ?_; simp -dsimp only [Fa.F46, rdI_of z0, z0, e1, e2, undef, tu, uf, ul, ur, VC.Now, VC.vc_skip, VC.vc_ret, VC.vc_exit, VC.vc_block, VC.vc_cond, VC.vc_region, VC.lib, VC.mapN_drewN, VC.mapB_drewN, VC.regQ, VC.loopK, VC.reg, VC.opP, VC.pv, VC.thenF, VC.blkF, VC.retF, VC.resV, VC.oneV, VC.evo, VC.bin, VC.binI, VC.cmpI, VC.arithI, VC.ldv, VC.slv, VC.pickP, VC.holds, VC.chainOf, VC.look, VC.junk, VC.put, VC.eff, VC.callee, VC.pureB, VC.rdK, VC.rdKs, VC.okKs, VC.eqKs, VC.fillL, VC.putL, VC.stW, VC.stOK, VC.mixF, VC.setAll, Nat.reduceAdd, Nat.reduceSub, Nat.reduceMul, if_true, if_false, ↓reduceIte, forall_const, implies_true, reduceCtorEq, ne_eq, Nat.reduceBNe, Nat.reduceBEq, IntKind.signed, Nat.reduceEqDiff, Nat.reduceLeDiff, Nat.reduceLT, eq_self, Int.reduceEq, Int.reduceLT, Int.reduceLE, Int.reduceAdd, Int.reduceSub, VC.regC_nil, VC.regC_cons, VC.regCK_eq, VC.callQ, VC.tailQ, VC.goCall, VC.chStep]
  intro u
  have hbw : Box w1 a.wb (worldP n a) := h1.get 0 rfl
  have m1 := hbw.at (i := 1) rfl
  have hwl := hbw.1
  have hM : MapV Try.prog EI w1 a.mb s.k (allM a s.num s.k) := h1.get 2 rfl
  subst hQ
  simp -dsimp only [Fa.F46, VC.Now, VC.vc_skip, VC.vc_ret, VC.vc_exit, VC.vc_block, VC.vc_cond, VC.vc_region, VC.lib, VC.mapN_drewN, VC.mapB_drewN, VC.regQ, VC.loopK, VC.reg, VC.opP, VC.pv, VC.thenF, VC.blkF, VC.retF, VC.resV, VC.oneV, VC.evo, VC.bin, VC.binI, VC.cmpI, VC.arithI, VC.ldv, VC.slv, VC.pickP, VC.holds, VC.chainOf, VC.look, VC.junk, VC.put, VC.eff, VC.callee, VC.pureB, VC.rdK, VC.rdKs, VC.okKs, VC.eqKs, VC.fillL, VC.putL, VC.stW, VC.stOK, VC.mixF, VC.setAll, Nat.reduceAdd, Nat.reduceSub, Nat.reduceMul, if_true, if_false, ↓reduceIte, forall_const, implies_true, reduceCtorEq, ne_eq, Nat.reduceBNe, Nat.reduceBEq, IntKind.signed, Nat.reduceEqDiff, Nat.reduceLeDiff, Nat.reduceLT, eq_self, Int.reduceEq, Int.reduceLT, Int.reduceLE, Int.reduceAdd, Int.reduceSub, VC.regC_nil, VC.regC_cons, VC.regCK_eq, VC.callQ, VC.tailQ, VC.goCall, VC.chStep]
  (repeat rw [vc_seq]); refine vc_plain _ fun Q hQ => ?_; simp -dsimp only [Fa.F46, VC.Now, VC.vc_skip, VC.vc_ret, VC.vc_exit, VC.vc_block, VC.vc_cond, VC.vc_region, VC.lib, VC.mapN_drewN, VC.mapB_drewN, VC.regQ, VC.loopK, VC.reg, VC.opP, VC.pv, VC.thenF, VC.blkF, VC.retF, VC.resV, VC.oneV, VC.evo, VC.bin, VC.binI, VC.cmpI, VC.arithI, VC.ldv, VC.slv, VC.pickP, VC.holds, VC.chainOf, VC.look, VC.junk, VC.put, VC.eff, VC.callee, VC.pureB, VC.rdK, VC.rdKs, VC.okKs, VC.eqKs, VC.fillL, VC.putL, VC.stW, VC.stOK, VC.mixF, VC.setAll, Nat.reduceAdd, Nat.reduceSub, Nat.reduceMul, if_true, if_false, ↓reduceIte, forall_const, implies_true, reduceCtorEq, ne_eq, Nat.reduceBNe, Nat.reduceBEq, IntKind.signed, Nat.reduceEqDiff, Nat.reduceLeDiff, Nat.reduceLT, eq_self, Int.reduceEq, Int.reduceLT, Int.reduceLE, Int.reduceAdd, Int.reduceSub, VC.regC_nil, VC.regC_cons, VC.regCK_eq, VC.callQ, VC.tailQ, VC.goCall, VC.chStep]
  refine WP_held 11 (fun _ => False) (.take 0 (.take 1 (.take 2 (.take 3 (.take 4 (.take 5 (.one 6 (.take 7 (.take 8 (.take 9 (.take 10 (.one 11 .done)))))))))))) Fa.mix (by kernel_rfl) rfl ?_
  simp -dsimp only [VC.heldF_done, VC.heldF_last, VC.planF_done, VC.planF_take, VC.planF_one, VC.planF_two, VC.planK_eq, VC.heldF_take, VC.heldF_one, VC.heldF_two, VC.heldF_twoL, VC.heldK_eq, VC.okRd, Fa.F46, rdI_of z1, z1, rdM_of m1, m1, hwl, hxl, VC.Now, VC.vc, VC.lib, VC.mapN_drewN, VC.mapB_drewN, VC.regQ, VC.loopK, VC.reg, VC.opP, VC.pv, VC.thenF, VC.blkF, VC.retF, VC.resV, VC.oneV, VC.evo, VC.bin, VC.binI, VC.cmpI, VC.arithI, VC.ldv, VC.slv, VC.pickP, VC.holds, VC.chainOf, VC.look, VC.junk, VC.put, VC.eff, VC.callee, VC.pureB, VC.rdK, VC.rdKs, VC.okKs, VC.eqKs, VC.fillL, VC.putL, VC.stW, VC.stOK, VC.mixF, VC.setAll, Nat.reduceAdd, Nat.reduceSub, Nat.reduceMul, if_true, if_false, ↓reduceIte, forall_const, implies_true, reduceCtorEq, ne_eq, Nat.reduceBNe, Nat.reduceBEq, IntKind.signed, Nat.reduceEqDiff, Nat.reduceLeDiff, Nat.reduceLT, eq_self, Int.reduceEq, Int.reduceLT, Int.reduceLE, Int.reduceAdd, Int.reduceSub, VC.regC_nil, VC.regC_cons, VC.regCK_eq, VC.callQ, VC.tailQ, VC.goCall, VC.chStep]
  have hval : (allM a s.num s.k c.ballot).getD (.pointer none) = .pointer ((pidx s.num c.ballot s.k).map fun i => ⟨a.pb i, 0, none⟩) := allM_val _ a
  have hsm : (allM a s.num s.k c.ballot).isSome = (pidx s.num c.ballot s.k).isSome := by unfold allM; rw [Option.isSome_map]
  refine OPW_lookV2 (x := c.ballot) (z := .pointer none) (hM.drewN 1) rfl (by kernel_rfl) rfl rfl hc hval hsm ?_
  simp -dsimp only [VC.heldF_done, VC.heldF_last, VC.planF_done, VC.planF_take, VC.planF_one, VC.planF_two, VC.planK_eq, VC.heldF_take, VC.heldF_one, VC.heldF_two, VC.heldF_twoL, VC.heldK_eq, VC.okRd, Fa.F46, rdI_of z1, z1, rdM_of m1, m1, hwl, hxl, VC.Now, VC.vc, VC.lib, VC.mapN_drewN, VC.mapB_drewN, VC.regQ, VC.loopK, VC.reg, VC.opP, VC.pv, VC.thenF, VC.blkF, VC.retF, VC.resV, VC.oneV, VC.evo, VC.bin, VC.binI, VC.cmpI, VC.arithI, VC.ldv, VC.slv, VC.pickP, VC.holds, VC.chainOf, VC.look, VC.junk, VC.put, VC.eff, VC.callee, VC.pureB, VC.rdK, VC.rdKs, VC.okKs, VC.eqKs, VC.fillL, VC.putL, VC.stW, VC.stOK, VC.mixF, VC.setAll, Nat.reduceAdd, Nat.reduceSub, Nat.reduceMul, if_true, if_false, ↓reduceIte, forall_const, implies_true, reduceCtorEq, ne_eq, Nat.reduceBNe, Nat.reduceBEq, IntKind.signed, Nat.reduceEqDiff, Nat.reduceLeDiff, Nat.reduceLT, eq_self, Int.reduceEq, Int.reduceLT, Int.reduceLE, Int.reduceAdd, Int.reduceSub, VC.regC_nil, VC.regC_cons, VC.regCK_eq, VC.callQ, VC.tailQ, VC.goCall, VC.chStep]
  generalize hpx : pidx s.num c.ballot s.k = px
  have h2 := h1.drewN 1
  have hB2 : Below w.heap.size w (w1.drewN 1) := hB0.trans ((below_drewN (Below.refl _ w1) 1).mono hB0.size)
  replace z0 : (w1.drewN 1).cell? ⟨sb, 0, none⟩ = _ := z0
  replace z1 : (w1.drewN 1).cell? ⟨sb, 1, none⟩ = _ := z1
  replace z2 : (w1.drewN 1).cell? ⟨sb, 2, none⟩ = _ := z2
  replace z3 : (w1.drewN 1).cell? ⟨sb, 3, none⟩ = _ := z3
  replace hxl : sb < (w1.drewN 1).heap.size := hxl
  have agD : Agree (fun _ => False) w1 (w1.drewN 1) := Agree.of_below (below_drewN (Below.refl _ w1) 1)
  generalize w1.drewN 1 = w2 at *
  subst hQ
  simp -dsimp only [Fa.F46, VC.Now, VC.vc_skip, VC.vc_ret, VC.vc_exit, VC.vc_block, VC.vc_cond, VC.vc_region, VC.lib, VC.mapN_drewN, VC.mapB_drewN, VC.regQ, VC.loopK, VC.reg, VC.opP, VC.pv, VC.thenF, VC.blkF, VC.retF, VC.resV, VC.oneV, VC.evo, VC.bin, VC.binI, VC.cmpI, VC.arithI, VC.ldv, VC.slv, VC.pickP, VC.holds, VC.chainOf, VC.look, VC.junk, VC.put, VC.eff, VC.callee, VC.pureB, VC.rdK, VC.rdKs, VC.okKs, VC.eqKs, VC.fillL, VC.putL, VC.stW, VC.stOK, VC.mixF, VC.setAll, Nat.reduceAdd, Nat.reduceSub, Nat.reduceMul, if_true, if_false, ↓reduceIte, forall_const, implies_true, reduceCtorEq, ne_eq, Nat.reduceBNe, Nat.reduceBEq, IntKind.signed, Nat.reduceEqDiff, Nat.reduceLeDiff, Nat.reduceLT, eq_self, Int.reduceEq, Int.reduceLT, Int.reduceLE, Int.reduceAdd, Int.reduceSub, VC.regC_nil, VC.regC_cons, VC.regCK_eq, VC.callQ, VC.tailQ, VC.goCall, VC.chStep]
  refine ⟨agD, ?_⟩
  by_cases q1 : c.ballot < 1 ∨ 1000 < c.ballot
  · have hr : pstep n c s = (2, s) := by unfold pstep; rw [if_neg q0, if_pos q1]
    by_cases q2 : c.ballot < 1
    · have e3 := eq_true q2
      simp -dsimp only [Fa.F46, rdI_of z1, z1, hxl, e3, undef, tu, uf, ul, ur, VC.Now, VC.vc, VC.lib, VC.mapN_drewN, VC.mapB_drewN, VC.regQ, VC.loopK, VC.reg, VC.opP, VC.pv, VC.thenF, VC.blkF, VC.retF, VC.resV, VC.oneV, VC.evo, VC.bin, VC.binI, VC.cmpI, VC.arithI, VC.ldv, VC.slv, VC.pickP, VC.holds, VC.chainOf, VC.look, VC.junk, VC.put, VC.eff, VC.callee, VC.pureB, VC.rdK, VC.rdKs, VC.okKs, VC.eqKs, VC.fillL, VC.putL, VC.stW, VC.stOK, VC.mixF, VC.setAll, Nat.reduceAdd, Nat.reduceSub, Nat.reduceMul, if_true, if_false, ↓reduceIte, forall_const, implies_true, reduceCtorEq, ne_eq, Nat.reduceBNe, Nat.reduceBEq, IntKind.signed, Nat.reduceEqDiff, Nat.reduceLeDiff, Nat.reduceLT, eq_self, Int.reduceEq, Int.reduceLT, Int.reduceLE, Int.reduceAdd, Int.reduceSub, VC.regC_nil, VC.regC_cons, VC.regCK_eq, VC.callQ, VC.tailQ, VC.goCall, VC.chStep]
      exact PPost.same h hB2 hr
    · have e3 := eq_false q2
      have e4 : (1000 < c.ballot) = True := eq_true (by omega)
      simp -dsimp only [Fa.F46, rdI_of z1, z1, hxl, e3, e4, undef, tu, uf, ul, ur, VC.Now, VC.vc, VC.lib, VC.mapN_drewN, VC.mapB_drewN, VC.regQ, VC.loopK, VC.reg, VC.opP, VC.pv, VC.thenF, VC.blkF, VC.retF, VC.resV, VC.oneV, VC.evo, VC.bin, VC.binI, VC.cmpI, VC.arithI, VC.ldv, VC.slv, VC.pickP, VC.holds, VC.chainOf, VC.look, VC.junk, VC.put, VC.eff, VC.callee, VC.pureB, VC.rdK, VC.rdKs, VC.okKs, VC.eqKs, VC.fillL, VC.putL, VC.stW, VC.stOK, VC.mixF, VC.setAll, Nat.reduceAdd, Nat.reduceSub, Nat.reduceMul, if_true, if_false, ↓reduceIte, forall_const, implies_true, reduceCtorEq, ne_eq, Nat.reduceBNe, Nat.reduceBEq, IntKind.signed, Nat.reduceEqDiff, Nat.reduceLeDiff, Nat.reduceLT, eq_self, Int.reduceEq, Int.reduceLT, Int.reduceLE, Int.reduceAdd, Int.reduceSub, VC.regC_nil, VC.regC_cons, VC.regCK_eq, VC.callQ, VC.tailQ, VC.goCall, VC.chStep]
      exact PPost.same h hB2 hr
  have e3 : (c.ballot < 1) = False := eq_false (by omega)
  have e4 : (1000 < c.ballot) = False := eq_false (by omega)
  (repeat rw [vc_seq]); refine vc_plain _ fun Q hQ => ?_; simp -dsimp only [Fa.F46, VC.Now, VC.vc_skip, VC.vc_ret, VC.vc_exit, VC.vc_block, VC.vc_cond, VC.vc_region, VC.lib, VC.mapN_drewN, VC.mapB_drewN, VC.regQ, VC.loopK, VC.reg, VC.opP, VC.pv, VC.thenF, VC.blkF, VC.retF, VC.resV, VC.oneV, VC.evo, VC.bin, VC.binI, VC.cmpI, VC.arithI, VC.ldv, VC.slv, VC.pickP, VC.holds, VC.chainOf, VC.look, VC.junk, VC.put, VC.eff, VC.callee, VC.pureB, VC.rdK, VC.rdKs, VC.okKs, VC.eqKs, VC.fillL, VC.putL, VC.stW, VC.stOK, VC.mixF, VC.setAll, Nat.reduceAdd, Nat.reduceSub, Nat.reduceMul, if_true, if_false, ↓reduceIte, forall_const, implies_true, reduceCtorEq, ne_eq, Nat.reduceBNe, Nat.reduceBEq, IntKind.signed, Nat.reduceEqDiff, Nat.reduceLeDiff, Nat.reduceLT, eq_self, Int.reduceEq, Int.reduceLT, Int.reduceLE, Int.reduceAdd, Int.reduceSub, VC.regC_nil, VC.regC_cons, VC.regCK_eq, VC.callQ, VC.tailQ, VC.goCall, VC.chStep]
  (repeat rw [vc_seq]); refine vc_plain _ fun Q2 hQ2 => ?_; simp -dsimp only [Fa.F46, rdI_of z1, z1, hxl, e3, e4, undef, tu, uf, ul, ur, VC.Now, VC.vc_skip, VC.vc_ret, VC.vc_exit, VC.vc_block, VC.vc_cond, VC.vc_region, VC.lib, VC.mapN_drewN, VC.mapB_drewN, VC.regQ, VC.loopK, VC.reg, VC.opP, VC.pv, VC.thenF, VC.blkF, VC.retF, VC.resV, VC.oneV, VC.evo, VC.bin, VC.binI, VC.cmpI, VC.arithI, VC.ldv, VC.slv, VC.pickP, VC.holds, VC.chainOf, VC.look, VC.junk, VC.put, VC.eff, VC.callee, VC.pureB, VC.rdK, VC.rdKs, VC.okKs, VC.eqKs, VC.fillL, VC.putL, VC.stW, VC.stOK, VC.mixF, VC.setAll, Nat.reduceAdd, Nat.reduceSub, Nat.reduceMul, if_true, if_false, ↓reduceIte, forall_const, implies_true, reduceCtorEq, ne_eq, Nat.reduceBNe, Nat.reduceBEq, IntKind.signed, Nat.reduceEqDiff, Nat.reduceLeDiff, Nat.reduceLT, eq_self, Int.reduceEq, Int.reduceLT, Int.reduceLE, Int.reduceAdd, Int.reduceSub, VC.regC_nil, VC.regC_cons, VC.regCK_eq, VC.callQ, VC.tailQ, VC.goCall, VC.chStep]
  intro u1
  subst hQ
  by_cases qk1 : c.kind = 1
  · have e5 := eq_true qk1
    cases px with
    | some i =>
      have hr : pstep n c s = (6, s) := by unfold pstep; rw [if_neg q0, if_neg q1, hpx]; exact if_pos qk1
      subst hQ2
      simp -dsimp only [Fa.F46, rdI_of z0, z0, hxl, e5, undef, tu, uf, ul, ur, Option.isSome_some, Option.isSome_none, VC.Now, VC.vc, VC.lib, VC.mapN_drewN, VC.mapB_drewN, VC.regQ, VC.loopK, VC.reg, VC.opP, VC.pv, VC.thenF, VC.blkF, VC.retF, VC.resV, VC.oneV, VC.evo, VC.bin, VC.binI, VC.cmpI, VC.arithI, VC.ldv, VC.slv, VC.pickP, VC.holds, VC.chainOf, VC.look, VC.junk, VC.put, VC.eff, VC.callee, VC.pureB, VC.rdK, VC.rdKs, VC.okKs, VC.eqKs, VC.fillL, VC.putL, VC.stW, VC.stOK, VC.mixF, VC.setAll, Nat.reduceAdd, Nat.reduceSub, Nat.reduceMul, if_true, if_false, ↓reduceIte, forall_const, implies_true, reduceCtorEq, ne_eq, Nat.reduceBNe, Nat.reduceBEq, IntKind.signed, Nat.reduceEqDiff, Nat.reduceLeDiff, Nat.reduceLT, eq_self, Int.reduceEq, Int.reduceLT, Int.reduceLE, Int.reduceAdd, Int.reduceSub, VC.regC_nil, VC.regC_cons, VC.regCK_eq, VC.callQ, VC.tailQ, VC.goCall, VC.chStep]
      exact PPost.same h hB2 hr
    | none =>
      have hr : pstep n c s = (0, pbegin c s) := by unfold pstep; rw [if_neg q0, if_neg q1, hpx]; exact if_pos qk1
      subst hQ2
      simp -dsimp only [Fa.F46, rdI_of z0, z0, hxl, e5, undef, tu, uf, ul, ur, Option.isSome_some, Option.isSome_none, VC.Now, VC.vc, VC.lib, VC.mapN_drewN, VC.mapB_drewN, VC.regQ, VC.loopK, VC.reg, VC.opP, VC.pv, VC.thenF, VC.blkF, VC.retF, VC.resV, VC.oneV, VC.evo, VC.bin, VC.binI, VC.cmpI, VC.arithI, VC.ldv, VC.slv, VC.pickP, VC.holds, VC.chainOf, VC.look, VC.junk, VC.put, VC.eff, VC.callee, VC.pureB, VC.rdK, VC.rdKs, VC.okKs, VC.eqKs, VC.fillL, VC.putL, VC.stW, VC.stOK, VC.mixF, VC.setAll, Nat.reduceAdd, Nat.reduceSub, Nat.reduceMul, if_true, if_false, ↓reduceIte, forall_const, implies_true, reduceCtorEq, ne_eq, Nat.reduceBNe, Nat.reduceBEq, IntKind.signed, Nat.reduceEqDiff, Nat.reduceLeDiff, Nat.reduceLT, eq_self, Int.reduceEq, Int.reduceLT, Int.reduceLE, Int.reduceAdd, Int.reduceSub, VC.regC_nil, VC.regC_cons, VC.regCK_eq, VC.callQ, VC.tailQ, VC.goCall, VC.chStep]
      intro u2
      have hwl2 : a.wb < w2.heap.size := (h2.get 0 rfl : Box w2 a.wb _).1
      have m12 := (h2.get 0 rfl : Box w2 a.wb _).at (i := 1) rfl
      refine WP_held 11 (fun _ => False) (.take 0 (.take 1 (.take 2 (.take 3 (.take 4 (.take 5 (.take 6 (.take 7 (.one 8 (.take 9 (.one 10 (.one 11 .done)))))))))))) Fa.mix (by kernel_rfl) rfl ?_
      simp -dsimp only [VC.heldF_done, VC.heldF_last, VC.planF_done, VC.planF_take, VC.planF_one, VC.planF_two, VC.planK_eq, VC.heldF_take, VC.heldF_one, VC.heldF_two, VC.heldF_twoL, VC.heldK_eq, VC.okRd, Fa.F46, rdI_of z1, z1, rdI_of z3, z3, rdM_of m12, m12, hxl, hwl2, VC.Now, VC.vc, VC.lib, VC.mapN_drewN, VC.mapB_drewN, VC.regQ, VC.loopK, VC.reg, VC.opP, VC.pv, VC.thenF, VC.blkF, VC.retF, VC.resV, VC.oneV, VC.evo, VC.bin, VC.binI, VC.cmpI, VC.arithI, VC.ldv, VC.slv, VC.pickP, VC.holds, VC.chainOf, VC.look, VC.junk, VC.put, VC.eff, VC.callee, VC.pureB, VC.rdK, VC.rdKs, VC.okKs, VC.eqKs, VC.fillL, VC.putL, VC.stW, VC.stOK, VC.mixF, VC.setAll, Nat.reduceAdd, Nat.reduceSub, Nat.reduceMul, if_true, if_false, ↓reduceIte, forall_const, implies_true, reduceCtorEq, ne_eq, Nat.reduceBNe, Nat.reduceBEq, IntKind.signed, Nat.reduceEqDiff, Nat.reduceLeDiff, Nat.reduceLT, eq_self, Int.reduceEq, Int.reduceLT, Int.reduceLE, Int.reduceAdd, Int.reduceSub, VC.regC_nil, VC.regC_cons, VC.regCK_eq, VC.callQ, VC.tailQ, VC.goCall, VC.chStep]
      have ag1 : Agree (fun _ => False) w2 (w2.drewN 1) := Agree.of_below (below_drewN (Below.refl _ w2) 1)
      refine OPW_makeMapV EI rfl fun w3 hw3 hM3 => ?_
      have hB3 : Below w2.heap.size w2 w3 := by rw [hw3]; exact (below_drewN (Below.refl _ w2) 1).alloc (Nat.le_refl _) _
      have st3 := h2.st_add (o := oMap EI w2.heap.size 0 (fun _ => none)) hB3 hM3 (fun g hg => by cases hg; exact Nat.le_refl _)
      have hz3 : w3.heap.size = w2.heap.size + 1 := by rw [hw3]; simp
      have ag3 : Agree (fun _ => False) w2 w3 := Agree.of_below hB3
      simp -dsimp only [VC.heldF_done, VC.heldF_last, VC.planF_done, VC.planF_take, VC.planF_one, VC.planF_two, VC.planK_eq, VC.heldF_take, VC.heldF_one, VC.heldF_two, VC.heldF_twoL, VC.heldK_eq, VC.okRd, Fa.F46, rdI_of z1, z1, rdI_of z3, z3, rdM_of m12, m12, hxl, hwl2, VC.Now, VC.vc, VC.lib, VC.mapN_drewN, VC.mapB_drewN, VC.regQ, VC.loopK, VC.reg, VC.opP, VC.pv, VC.thenF, VC.blkF, VC.retF, VC.resV, VC.oneV, VC.evo, VC.bin, VC.binI, VC.cmpI, VC.arithI, VC.ldv, VC.slv, VC.pickP, VC.holds, VC.chainOf, VC.look, VC.junk, VC.put, VC.eff, VC.callee, VC.pureB, VC.rdK, VC.rdKs, VC.okKs, VC.eqKs, VC.fillL, VC.putL, VC.stW, VC.stOK, VC.mixF, VC.setAll, Nat.reduceAdd, Nat.reduceSub, Nat.reduceMul, if_true, if_false, ↓reduceIte, forall_const, implies_true, reduceCtorEq, ne_eq, Nat.reduceBNe, Nat.reduceBEq, IntKind.signed, Nat.reduceEqDiff, Nat.reduceLeDiff, Nat.reduceLT, eq_self, Int.reduceEq, Int.reduceLT, Int.reduceLE, Int.reduceAdd, Int.reduceSub, VC.regC_nil, VC.regC_cons, VC.regCK_eq, VC.callQ, VC.tailQ, VC.goCall, VC.chStep]
      have st4 := st3.hp.st_add (o := oBox w3.heap.size (balC w2.heap.size ⟨c.val, bal0, 0, false, fun _ => false, 0⟩)) ((Below.refl _ w3).alloc (Nat.le_refl _) (.cells (balC w2.heap.size ⟨c.val, bal0, 0, false, fun _ => false, 0⟩).toArray 251)) (Box.new w3 _ _) (fun g hg => by cases hg; exact Nat.le_refl _)
      have hB4 : Below w3.heap.size w3 (w3.alloc (.cells (balC w2.heap.size ⟨c.val, bal0, 0, false, fun _ => false, 0⟩).toArray 251)) := (Below.refl _ w3).alloc (Nat.le_refl _) _
      have ag4 := ag3.trans (Agree.of_below (X := fun _ => False) hB4)
      refine ⟨ag3, ag4, ?_⟩
      have hM4 := (st4.hp.get 4 rfl : MapV Try.prog EI _ a.mb s.k (allM a s.num s.k))
      refine OPW_updV (x := c.ballot) (c := ptrV w3.heap.size) hM4 rfl (by kernel_rfl) rfl rfl rfl hc (by have := hok.k; unfold maxLen; omega) fun w5 hM5 ht5 => ?_
      have hno : (allM a s.num s.k c.ballot) = none := by unfold allM; rw [hpx]; rfl
      rw [hno] at hM5
      have hM5 : MapV Try.prog EI w5 a.mb (s.k + 1) (updV (allM a s.num s.k) c.ballot (ptrV w3.heap.size)) := hM5
      have st5 := (st3.trans st4).trans (st4.hp.turned 4 rfl hM5 ht5)
      have st6 := pbegin_end (c := c) st5
      simp -dsimp only [VC.heldF_done, VC.heldF_last, VC.planF_done, VC.planF_take, VC.planF_one, VC.planF_two, VC.planK_eq, VC.heldF_take, VC.heldF_one, VC.heldF_two, VC.heldF_twoL, VC.heldK_eq, VC.okRd, Fa.F46, rdI_of z1, z1, rdI_of z3, z3, rdM_of m12, m12, hxl, hwl2, VC.Now, VC.vc, VC.lib, VC.mapN_drewN, VC.mapB_drewN, VC.regQ, VC.loopK, VC.reg, VC.opP, VC.pv, VC.thenF, VC.blkF, VC.retF, VC.resV, VC.oneV, VC.evo, VC.bin, VC.binI, VC.cmpI, VC.arithI, VC.ldv, VC.slv, VC.pickP, VC.holds, VC.chainOf, VC.look, VC.junk, VC.put, VC.eff, VC.callee, VC.pureB, VC.rdK, VC.rdKs, VC.okKs, VC.eqKs, VC.fillL, VC.putL, VC.stW, VC.stOK, VC.mixF, VC.setAll, Nat.reduceAdd, Nat.reduceSub, Nat.reduceMul, if_true, if_false, ↓reduceIte, forall_const, implies_true, reduceCtorEq, ne_eq, Nat.reduceBNe, Nat.reduceBEq, IntKind.signed, Nat.reduceEqDiff, Nat.reduceLeDiff, Nat.reduceLT, eq_self, Int.reduceEq, Int.reduceLT, Int.reduceLE, Int.reduceAdd, Int.reduceSub, VC.regC_nil, VC.regC_cons, VC.regCK_eq, VC.callQ, VC.tailQ, VC.goCall, VC.chStep]
      rw [hr]
      exact ⟨rfl, { a with pb := upd a.pb s.k w3.heap.size, tb := upd a.tb s.k w2.heap.size }, rfl, rfl, (h.below_st hB2).trans st6⟩
  have e5 := eq_false qk1
  have hbw : Box w2 a.wb (worldP n a) := h2.get 0 rfl
  have m0 := hbw.at (i := 0) rfl
  have hwl2 := hbw.1
  cases px with
  | none =>
    have hr : pstep n c s = (2, s) := by unfold pstep; rw [if_neg q0, if_neg q1, hpx]; exact if_neg qk1
    subst hQ2
    simp -dsimp only [Fa.F46, rdI_of z0, z0, rdI_of z1, z1, rdI_of z2, z2, rdSA_of m0, rdSN_of m0, rdSC_of m0, m0, hwl2, hxl, e5, undef, tu, uf, ul, ur, Option.isSome_some, Option.isSome_none, VC.Now, VC.vc, VC.lib, VC.mapN_drewN, VC.mapB_drewN, VC.regQ, VC.loopK, VC.reg, VC.opP, VC.pv, VC.thenF, VC.blkF, VC.retF, VC.resV, VC.oneV, VC.evo, VC.bin, VC.binI, VC.cmpI, VC.arithI, VC.ldv, VC.slv, VC.pickP, VC.holds, VC.chainOf, VC.look, VC.junk, VC.put, VC.eff, VC.callee, VC.pureB, VC.rdK, VC.rdKs, VC.okKs, VC.eqKs, VC.fillL, VC.putL, VC.stW, VC.stOK, VC.mixF, VC.setAll, Nat.reduceAdd, Nat.reduceSub, Nat.reduceMul, if_true, if_false, ↓reduceIte, forall_const, implies_true, reduceCtorEq, ne_eq, Nat.reduceBNe, Nat.reduceBEq, IntKind.signed, Nat.reduceEqDiff, Nat.reduceLeDiff, Nat.reduceLT, eq_self, Int.reduceEq, Int.reduceLT, Int.reduceLE, Int.reduceAdd, Int.reduceSub, VC.regC_nil, VC.regC_cons, VC.regCK_eq, VC.callQ, VC.tailQ, VC.goCall, VC.chStep]
    exact fun m => PPost.same h (hB2.trans ((below_drewN (Below.refl _ w2) m).mono hB2.size)) hr
  | some i =>
    by_cases q2 : c.who < 0
    · have e6 := eq_true q2
      have hr : pstep n c s = (2, s) := by unfold pstep; rw [if_neg q0, if_neg q1, hpx]; exact (if_neg qk1).trans (if_pos (Or.inl q2))
      subst hQ2
      simp -dsimp only [Fa.F46, rdI_of z0, z0, rdI_of z1, z1, rdI_of z2, z2, rdSA_of m0, rdSN_of m0, rdSC_of m0, m0, hwl2, hxl, e5, e6, undef, tu, uf, ul, ur, Option.isSome_some, Option.isSome_none, VC.Now, VC.vc, VC.lib, VC.mapN_drewN, VC.mapB_drewN, VC.regQ, VC.loopK, VC.reg, VC.opP, VC.pv, VC.thenF, VC.blkF, VC.retF, VC.resV, VC.oneV, VC.evo, VC.bin, VC.binI, VC.cmpI, VC.arithI, VC.ldv, VC.slv, VC.pickP, VC.holds, VC.chainOf, VC.look, VC.junk, VC.put, VC.eff, VC.callee, VC.pureB, VC.rdK, VC.rdKs, VC.okKs, VC.eqKs, VC.fillL, VC.putL, VC.stW, VC.stOK, VC.mixF, VC.setAll, Nat.reduceAdd, Nat.reduceSub, Nat.reduceMul, if_true, if_false, ↓reduceIte, forall_const, implies_true, reduceCtorEq, ne_eq, Nat.reduceBNe, Nat.reduceBEq, IntKind.signed, Nat.reduceEqDiff, Nat.reduceLeDiff, Nat.reduceLT, eq_self, Int.reduceEq, Int.reduceLT, Int.reduceLE, Int.reduceAdd, Int.reduceSub, VC.regC_nil, VC.regC_cons, VC.regCK_eq, VC.callQ, VC.tailQ, VC.goCall, VC.chStep]
      exact fun m => PPost.same h (hB2.trans ((below_drewN (Below.refl _ w2) m).mono hB2.size)) hr
    have e6 := eq_false q2
    by_cases q3 : (n : Int) ≤ c.who
    · have e7 := eq_true q3
      have hr : pstep n c s = (2, s) := by unfold pstep; rw [if_neg q0, if_neg q1, hpx]; exact (if_neg qk1).trans (if_pos (Or.inr q3))
      subst hQ2
      simp -dsimp only [Fa.F46, rdI_of z0, z0, rdI_of z1, z1, rdI_of z2, z2, rdSA_of m0, rdSN_of m0, rdSC_of m0, m0, hwl2, hxl, e5, e6, e7, undef, tu, uf, ul, ur, Option.isSome_some, Option.isSome_none, VC.Now, VC.vc, VC.lib, VC.mapN_drewN, VC.mapB_drewN, VC.regQ, VC.loopK, VC.reg, VC.opP, VC.pv, VC.thenF, VC.blkF, VC.retF, VC.resV, VC.oneV, VC.evo, VC.bin, VC.binI, VC.cmpI, VC.arithI, VC.ldv, VC.slv, VC.pickP, VC.holds, VC.chainOf, VC.look, VC.junk, VC.put, VC.eff, VC.callee, VC.pureB, VC.rdK, VC.rdKs, VC.okKs, VC.eqKs, VC.fillL, VC.putL, VC.stW, VC.stOK, VC.mixF, VC.setAll, Nat.reduceAdd, Nat.reduceSub, Nat.reduceMul, if_true, if_false, ↓reduceIte, forall_const, implies_true, reduceCtorEq, ne_eq, Nat.reduceBNe, Nat.reduceBEq, IntKind.signed, Nat.reduceEqDiff, Nat.reduceLeDiff, Nat.reduceLT, eq_self, Int.reduceEq, Int.reduceLT, Int.reduceLE, Int.reduceAdd, Int.reduceSub, VC.regC_nil, VC.regC_cons, VC.regCK_eq, VC.callQ, VC.tailQ, VC.goCall, VC.chStep]
      exact fun m => PPost.same h (hB2.trans ((below_drewN (Below.refl _ w2) m).mono hB2.size)) hr
    have e7 := eq_false q3
    obtain ⟨x, hx0⟩ : ∃ x : Nat, c.who = x := ⟨c.who.toNat, by omega⟩
    have hxN : c.who.toNat = x := by omega
    have hxn : x < n := by omega
    rw [hx0] at z2 e6 e7
    obtain ⟨hi, hnum⟩ := pidx_some hpx
    by_cases qk2 : c.kind = 2
    · have e8 := eq_true qk2
      have hr : pstep n c s = pask n i x s := by unfold pstep; rw [if_neg q0, if_neg q1, hpx]; exact ((if_neg qk1).trans (if_neg (by omega))).trans ((if_pos qk2).trans (by rw [hxN]))
      subst hQ2
      simp -dsimp only [Fa.F46, rdI_of z0, z0, rdI_of z1, z1, rdI_of z2, z2, rdSA_of m0, rdSN_of m0, rdSC_of m0, m0, hwl2, hxl, e5, e6, e7, e8, undef, tu, uf, ul, ur, Option.isSome_some, Option.isSome_none, VC.Now, VC.vc, VC.lib, VC.mapN_drewN, VC.mapB_drewN, VC.regQ, VC.loopK, VC.reg, VC.opP, VC.pv, VC.thenF, VC.blkF, VC.retF, VC.resV, VC.oneV, VC.evo, VC.bin, VC.binI, VC.cmpI, VC.arithI, VC.ldv, VC.slv, VC.pickP, VC.holds, VC.chainOf, VC.look, VC.junk, VC.put, VC.eff, VC.callee, VC.pureB, VC.rdK, VC.rdKs, VC.okKs, VC.eqKs, VC.fillL, VC.putL, VC.stW, VC.stOK, VC.mixF, VC.setAll, Nat.reduceAdd, Nat.reduceSub, Nat.reduceMul, if_true, if_false, ↓reduceIte, forall_const, implies_true, reduceCtorEq, ne_eq, Nat.reduceBNe, Nat.reduceBEq, IntKind.signed, Nat.reduceEqDiff, Nat.reduceLeDiff, Nat.reduceLT, eq_self, Int.reduceEq, Int.reduceLT, Int.reduceLE, Int.reduceAdd, Int.reduceSub, VC.regC_nil, VC.regC_cons, VC.regCK_eq, VC.callQ, VC.tailQ, VC.goCall, VC.chStep]
      intro u3 u4 m
      have h3 := h2.drewN m
      have hB3 : Below w.heap.size w (w2.drewN m) := (hB2.trans ((below_drewN (Below.refl _ w2) m).mono hB2.size))
      replace m0 : (w2.drewN m).cell? ⟨a.wb, 0, none⟩ = _ := m0
      replace z1 : (w2.drewN m).cell? ⟨sb, 1, none⟩ = _ := z1
      replace z2 : (w2.drewN m).cell? ⟨sb, 2, none⟩ = _ := z2
      replace hwl2 : a.wb < (w2.drewN m).heap.size := hwl2
      replace hxl : sb < (w2.drewN m).heap.size := hxl
      generalize w2.drewN m = w3 at h3 hB3 m0 z1 z2 hwl2 hxl ⊢
      rw [← hnum] at z1
      refine WP_tail 11 Fa.mix (by kernel_rfl) (by kernel_rfl) (by kernel_rfl) rfl ?_
      simp -dsimp only [Fa.F46, rdI_of z1, z1, rdI_of z2, z2, rdSA_of m0, rdSN_of m0, rdSC_of m0, m0, hwl2, hxl, Int.toNat_natCast, Nat.zero_add, VC.Now, VC.vc_skip, VC.vc_ret, VC.vc_exit, VC.vc_block, VC.vc_cond, VC.vc_region, VC.lib, VC.mapN_drewN, VC.mapB_drewN, VC.regQ, VC.loopK, VC.reg, VC.opP, VC.pv, VC.thenF, VC.blkF, VC.retF, VC.resV, VC.oneV, VC.evo, VC.bin, VC.binI, VC.cmpI, VC.arithI, VC.ldv, VC.slv, VC.pickP, VC.holds, VC.chainOf, VC.look, VC.junk, VC.put, VC.eff, VC.callee, VC.pureB, VC.rdK, VC.rdKs, VC.okKs, VC.eqKs, VC.fillL, VC.putL, VC.stW, VC.stOK, VC.mixF, VC.setAll, Nat.reduceAdd, Nat.reduceSub, Nat.reduceMul, if_true, if_false, ↓reduceIte, forall_const, implies_true, reduceCtorEq, ne_eq, Nat.reduceBNe, Nat.reduceBEq, IntKind.signed, Nat.reduceEqDiff, Nat.reduceLeDiff, Nat.reduceLT, eq_self, Int.reduceEq, Int.reduceLT, Int.reduceLE, Int.reduceAdd, Int.reduceSub, VC.regC_nil, VC.regC_cons, VC.regCK_eq, VC.callQ, VC.tailQ, VC.goCall, VC.chStep]
      refine ⟨⟨by omega, by omega⟩, ?_⟩
      intro w4 hw4
      have h4 := h3.below hw4
      refine CALL_by (ask_any h4 hok ht hi hxn hn) fun e w5 hp => ⟨_, hp.1, ?_⟩
      rw [VC.Now, VC.seqK_eq]
      simp -dsimp only [Fa.F46, VC.Now, VC.vc, VC.lib, VC.mapN_drewN, VC.mapB_drewN, VC.regQ, VC.loopK, VC.reg, VC.opP, VC.pv, VC.thenF, VC.blkF, VC.retF, VC.resV, VC.oneV, VC.evo, VC.bin, VC.binI, VC.cmpI, VC.arithI, VC.ldv, VC.slv, VC.pickP, VC.holds, VC.chainOf, VC.look, VC.junk, VC.put, VC.eff, VC.callee, VC.pureB, VC.rdK, VC.rdKs, VC.okKs, VC.eqKs, VC.fillL, VC.putL, VC.stW, VC.stOK, VC.mixF, VC.setAll, Nat.reduceAdd, Nat.reduceSub, Nat.reduceMul, if_true, if_false, ↓reduceIte, forall_const, implies_true, reduceCtorEq, ne_eq, Nat.reduceBNe, Nat.reduceBEq, IntKind.signed, Nat.reduceEqDiff, Nat.reduceLeDiff, Nat.reduceLT, eq_self, Int.reduceEq, Int.reduceLT, Int.reduceLE, Int.reduceAdd, Int.reduceSub, VC.regC_nil, VC.regC_cons, VC.regCK_eq, VC.callQ, VC.tailQ, VC.goCall, VC.chStep]
      rw [hr]
      exact (hp.1 ▸ hp : PPost B n a s w4 _ (.returned (.int .i64 (pask n i x s).1)) w5).lift h (hB3.trans (hw4.mono hB3.size))
    · have e8 := eq_false qk2
      have hr : pstep n c s = ptake n i x s := by unfold pstep; rw [if_neg q0, if_neg q1, hpx]; exact ((if_neg qk1).trans (if_neg (by omega))).trans ((if_neg qk2).trans (by rw [hxN]))
      subst hQ2
      simp -dsimp only [Fa.F46, rdI_of z0, z0, rdI_of z1, z1, rdI_of z2, z2, rdSA_of m0, rdSN_of m0, rdSC_of m0, m0, hwl2, hxl, e5, e6, e7, e8, undef, tu, uf, ul, ur, Option.isSome_some, Option.isSome_none, VC.Now, VC.vc, VC.lib, VC.mapN_drewN, VC.mapB_drewN, VC.regQ, VC.loopK, VC.reg, VC.opP, VC.pv, VC.thenF, VC.blkF, VC.retF, VC.resV, VC.oneV, VC.evo, VC.bin, VC.binI, VC.cmpI, VC.arithI, VC.ldv, VC.slv, VC.pickP, VC.holds, VC.chainOf, VC.look, VC.junk, VC.put, VC.eff, VC.callee, VC.pureB, VC.rdK, VC.rdKs, VC.okKs, VC.eqKs, VC.fillL, VC.putL, VC.stW, VC.stOK, VC.mixF, VC.setAll, Nat.reduceAdd, Nat.reduceSub, Nat.reduceMul, if_true, if_false, ↓reduceIte, forall_const, implies_true, reduceCtorEq, ne_eq, Nat.reduceBNe, Nat.reduceBEq, IntKind.signed, Nat.reduceEqDiff, Nat.reduceLeDiff, Nat.reduceLT, eq_self, Int.reduceEq, Int.reduceLT, Int.reduceLE, Int.reduceAdd, Int.reduceSub, VC.regC_nil, VC.regC_cons, VC.regCK_eq, VC.callQ, VC.tailQ, VC.goCall, VC.chStep]
      intro u3 u4 m
      have h3 := h2.drewN m
      have hB3 : Below w.heap.size w (w2.drewN m) := (hB2.trans ((below_drewN (Below.refl _ w2) m).mono hB2.size))
      replace m0 : (w2.drewN m).cell? ⟨a.wb, 0, none⟩ = _ := m0
      replace z1 : (w2.drewN m).cell? ⟨sb, 1, none⟩ = _ := z1
      replace z2 : (w2.drewN m).cell? ⟨sb, 2, none⟩ = _ := z2
      replace hwl2 : a.wb < (w2.drewN m).heap.size := hwl2
      replace hxl : sb < (w2.drewN m).heap.size := hxl
      generalize w2.drewN m = w3 at h3 hB3 m0 z1 z2 hwl2 hxl ⊢
      rw [← hnum] at z1
      rw [← hnum]
      refine CALL_by (take_any h3 hok ht hi hxn hn) fun e w5 hp => ⟨_, hp.1, ?_⟩
      rw [VC.Now, VC.seqK_eq]
      simp -dsimp only [Fa.F46, VC.Now, VC.vc, VC.lib, VC.mapN_drewN, VC.mapB_drewN, VC.regQ, VC.loopK, VC.reg, VC.opP, VC.pv, VC.thenF, VC.blkF, VC.retF, VC.resV, VC.oneV, VC.evo, VC.bin, VC.binI, VC.cmpI, VC.arithI, VC.ldv, VC.slv, VC.pickP, VC.holds, VC.chainOf, VC.look, VC.junk, VC.put, VC.eff, VC.callee, VC.pureB, VC.rdK, VC.rdKs, VC.okKs, VC.eqKs, VC.fillL, VC.putL, VC.stW, VC.stOK, VC.mixF, VC.setAll, Nat.reduceAdd, Nat.reduceSub, Nat.reduceMul, if_true, if_false, ↓reduceIte, forall_const, implies_true, reduceCtorEq, ne_eq, Nat.reduceBNe, Nat.reduceBEq, IntKind.signed, Nat.reduceEqDiff, Nat.reduceLeDiff, Nat.reduceLT, eq_self, Int.reduceEq, Int.reduceLT, Int.reduceLE, Int.reduceAdd, Int.reduceSub, VC.regC_nil, VC.regC_cons, VC.regCK_eq, VC.callQ, VC.tailQ, VC.goCall, VC.chStep]
      rw [hr]
      exact (hp.1 ▸ hp : PPost B n a s w3 _ (.returned (.int .i64 (ptake n i x s).1)) w5).lift h hB3
end
end Go.Proofs.Ytelfmhiaafkimaa
