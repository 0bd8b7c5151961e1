/- Many copies as one: one copy more is reached. -/
import Derived.Test.YtnggjekppdlaoaaReg2
import Derived.Test.YtnggjekppdlaoaaBits2
namespace Go.Proofs.Ytnggjekppdlaoaa
open Go Go.RowKit Go.VC
set_option linter.unusedSimpArgs false
set_option linter.unusedVariables false
theorem or_shl {m i : Nat} (hm : m < 4294967296) (hi : i < 32) : bits .or .u32 (m : Int) (IntKind.wrap .u32 (1 * 2 ^ shN .u32 (i : Int))) = ((m ||| 2 ^ i : Nat) : Int) := by
  have h2 : 2 ^ i < 4294967296 := Nat.lt_of_lt_of_le (Nat.pow_lt_pow_right (by omega) hi) (by decide)
  have e : IntKind.wrap .u32 (1 * 2 ^ shN .u32 (i : Int)) = ((2 ^ i : Nat) : Int) := by
    rw [shN_lt hi, Int.one_mul, IntKind.wrap_u32']
    have : ((2 : Int) ^ i) = ((2 ^ i : Nat) : Int) := by simp
    rw [this]; clear this; revert h2; generalize 2 ^ i = p; intro h2; omega
  rw [e, u32_or_nat m (2 ^ i) hm h2]
section
variable {B n t : Nat} {a : GA} {s : RS} {w : World}
/-- How things stand while a reach goes on. -/
abbrev Mid (n : Nat) (a : GA) (s : RS) (i : Nat) (wc : List Value) (cp : Nat → Sto) (o o' : OpS) : List Ob :=
  [oBox a.mb wc, oRecs a.gc n 3 (fun i => stL (cp i)), oOwn 137 1 s.k a.vo (ptrs a s.k), oBox (a.pb i) (opC a i o), oBox (a.ab i) (apC o')] ++ restB a s.op s.k i
theorem reach_end {i : Nat} {o o' : OpS} {cp' : Nat → Sto} {now' : Nat → Option Nat} {w' : World} (hi : i < s.k) (hop : s.op i = o)
    (st : St B (Mid n a s i (worldC n a s) s.cp o o) w (Mid n a s i (worldC n a { s with now := now' }) cp' o' o') w') :
    St B (GObs n a s) w (GObs n a { s with cp := cp', op := upd s.op i o', now := now' }) w' := by
  refine st.perm ?_ ?_
  · subst hop; exact (gfront hi).symm
  · have := (gfront (n := n) (a := a) (s := { s with cp := cp', op := upd s.op i o', now := now' }) (i := i) hi).symm
    unfold GFront opB at this
    simp only [restB_upd, upd_same] at this
    exact this
theorem GPost.reach {i x : Nat} {o o' : OpS} {cp' : Nat → Sto} {now' : Nat → Option Nat} {w' : World} (hi : i < s.k) (hop : s.op i = o)
    (st : St B (Mid n a s i (worldC n a s) s.cp o o) w (Mid n a s i (worldC n a { s with now := now' }) cp' o' o') w')
    (hr : rreach n i x t s = (0, { s with cp := cp', op := upd s.op i o', now := now' })) : GPost B n a s w (rreach n i x t s) (.returned (.int .i64 0)) w' := by
  rw [hr]
  exact ⟨rfl, a, rfl, rfl, reach_end hi hop st⟩
theorem worldC_end {j : Nat} (hj : j < 4) : worldC n a { s with now := upd s.now j none } = (worldC n a s).set (2 + j) (.pointer none) := by
  unfold worldC
  rcases j with _ | _ | _ | _ | j
  · rfl
  · rfl
  · rfl
  · rfl
  · omega
theorem reach_none (w : World) (mb x : Nat) (m : Int) : Calls Try.prog 81 #[.pointer (some ⟨mb, 0, none⟩), .pointer none, .int .i64 x, .int .i64 m] w fun e w' => e = .returned (.int .i64 6) ∧ w' = w := by
  refine calls_vc (rs := [.tmp 8]) Fa.mix Try.func81 rfl Try.ntmps81 rfl (by kernel_rfl) (Nat.le_of_ble_eq_true rfl) ?_
  simp -dsimp only [Fa.F81, Option.isNone_none, Option.isNone_some, undef, tu, uf, ul, ur, VC.Now, VC.vc, VC.lib, VC.regQ, VC.loopK, VC.reg, VC.opP, VC.pv, VC.thenF, VC.blkF, VC.retF, VC.resV, VC.oneV, VC.evo, VC.bin, VC.binI, VC.cmpI, VC.arithI, VC.ldv, VC.slv, VC.pickP, VC.holds, VC.chainOf, VC.look, VC.junk, VC.put, VC.eff, VC.callee, VC.pureB, VC.rdK, VC.rdKs, VC.okKs, VC.eqKs, VC.fillL, VC.putL, VC.stW, VC.stOK, VC.mixF, VC.setAll, Nat.reduceAdd, Nat.reduceSub, Nat.reduceMul, if_true, if_false, ↓reduceIte, forall_const, implies_true, reduceCtorEq, ne_eq, Nat.reduceBNe, Nat.reduceBEq, IntKind.signed, Nat.reduceEqDiff, Nat.reduceLeDiff, Nat.reduceLT, eq_self, Int.reduceEq, Int.reduceLT, Int.reduceLE, Int.reduceAdd, Int.reduceSub, VC.regC_nil, VC.regC_cons, VC.regCK_eq, VC.callQ, VC.tailQ, VC.goCall, VC.chStep]

set_option maxRecDepth 8000 in
set_option maxHeartbeats 8000000 in
theorem reach_any (h : Hp B (GObs n a s) w) (hok : ROK n t s) (hn : n ≤ 5) (ht : t ≤ 120) {i : Nat} (hi : i < s.k) (hto : (s.op i).to = -1) {x : Nat} (hx : x < n) :
    Calls Try.prog 81 #[.pointer (some ⟨a.mb, 0, none⟩), ptrV (a.pb i), .int .i64 x, .int .i64 t] w (GPost B n a s w (rreach n i x t s)) := by
  have h0 : Hp B (Mid n a s i (worldC n a s) s.cp (s.op i) (s.op i)) w := h.perm (gfront hi)
  have ho := hok.op i hi
  generalize hop : s.op i = o at h0 ho hto
  have hs32 : o.seen < 4294967296 := Nat.lt_of_lt_of_le ho.seen (Nat.le_trans (Nat.pow_le_pow_right (by omega) (show n ≤ 32 by omega)) (by decide))
  have hb := shr_and hs32 (show x < 32 by omega)
  have c5 := (h0.get 3 rfl : Box w (a.pb i) (opC a i o)).at (i := 5) rfl
  have hpl := (h0.get 3 rfl : Box w (a.pb i) (opC a i o)).1
  by_cases q : o.seen.testBit x = true
  · have hr : rreach n i x t s = (6, s) := by unfold rreach; rw [hop, if_pos q]
    refine calls_vc (rs := [.tmp 8]) Fa.mix Try.func81 rfl Try.ntmps81 rfl (by kernel_rfl) (Nat.le_of_ble_eq_true rfl) ?_
    simp -dsimp only [Fa.F81, Option.isNone_none, Option.isNone_some, rdI_of c5, c5, hpl, hb, q, bit01_one, bit01_zero, VC.Now, VC.vc, VC.lib, VC.regQ, VC.loopK, VC.reg, VC.opP, VC.pv, VC.thenF, VC.blkF, VC.retF, VC.resV, VC.oneV, VC.evo, VC.bin, VC.binI, VC.cmpI, VC.arithI, VC.ldv, VC.slv, VC.pickP, VC.holds, VC.chainOf, VC.look, VC.junk, VC.put, VC.eff, VC.callee, VC.pureB, VC.rdK, VC.rdKs, VC.okKs, VC.eqKs, VC.fillL, VC.putL, VC.stW, VC.stOK, VC.mixF, VC.setAll, Nat.reduceAdd, Nat.reduceSub, Nat.reduceMul, if_true, if_false, ↓reduceIte, forall_const, implies_true, reduceCtorEq, ne_eq, Nat.reduceBNe, Nat.reduceBEq, IntKind.signed, Nat.reduceEqDiff, Nat.reduceLeDiff, Nat.reduceLT, eq_self, Int.reduceEq, Int.reduceLT, Int.reduceLE, Int.reduceAdd, Int.reduceSub, VC.regC_nil, VC.regC_cons, VC.regCK_eq, VC.callQ, VC.tailQ, VC.goCall, VC.chStep]
    exact ⟨by omega, GPost.same h (Below.refl _ _) hr⟩
  · have hq : o.seen.testBit x = false := by simpa using q
    refine calls_vc (rs := [.tmp 8]) Fa.mix Try.func81 rfl Try.ntmps81 rfl (by kernel_rfl) (Nat.le_of_ble_eq_true rfl) ?_
    (repeat rw [vc_seq]); refine vc_plain _ fun Q hQ => ?_; simp -dsimp only [Fa.F81, VC.Now, VC.vc_skip, VC.vc_ret, VC.vc_exit, VC.vc_block, VC.vc_cond, VC.vc_region, VC.lib, VC.regQ, VC.loopK, VC.reg, VC.opP, VC.pv, VC.thenF, VC.blkF, VC.retF, VC.resV, VC.oneV, VC.evo, VC.bin, VC.binI, VC.cmpI, VC.arithI, VC.ldv, VC.slv, VC.pickP, VC.holds, VC.chainOf, VC.look, VC.junk, VC.put, VC.eff, VC.callee, VC.pureB, VC.rdK, VC.rdKs, VC.okKs, VC.eqKs, VC.fillL, VC.putL, VC.stW, VC.stOK, VC.mixF, VC.setAll, Nat.reduceAdd, Nat.reduceSub, Nat.reduceMul, if_true, if_false, ↓reduceIte, forall_const, implies_true, reduceCtorEq, ne_eq, Nat.reduceBNe, Nat.reduceBEq, IntKind.signed, Nat.reduceEqDiff, Nat.reduceLeDiff, Nat.reduceLT, eq_self, Int.reduceEq, Int.reduceLT, Int.reduceLE, Int.reduceAdd, Int.reduceSub, VC.regC_nil, VC.regC_cons, VC.regCK_eq, VC.callQ, VC.tailQ, VC.goCall, VC.chStep]
    subst hQ; simp -dsimp only [VC.Now, VC.vc_skip, VC.vc_ret, VC.vc_exit, VC.vc_block, VC.vc_cond, VC.vc_region, VC.lib, VC.regQ, VC.loopK, VC.reg, VC.opP, VC.pv, VC.thenF, VC.blkF, VC.retF, VC.resV, VC.oneV, VC.evo, VC.bin, VC.binI, VC.cmpI, VC.arithI, VC.ldv, VC.slv, VC.pickP, VC.holds, VC.chainOf, VC.look, VC.junk, VC.put, VC.eff, VC.callee, VC.pureB, VC.rdK, VC.rdKs, VC.okKs, VC.eqKs, VC.fillL, VC.putL, VC.stW, VC.stOK, VC.mixF, VC.setAll, Nat.reduceAdd, Nat.reduceSub, Nat.reduceMul, if_true, if_false, ↓reduceIte, forall_const, implies_true, reduceCtorEq, ne_eq, Nat.reduceBNe, Nat.reduceBEq, IntKind.signed, Nat.reduceEqDiff, Nat.reduceLeDiff, Nat.reduceLT, eq_self, Int.reduceEq, Int.reduceLT, Int.reduceLE, Int.reduceAdd, Int.reduceSub, VC.regC_nil, VC.regC_cons, VC.regCK_eq, VC.callQ, VC.tailQ, VC.goCall, VC.chStep]; (repeat rw [vc_seq]); refine vc_plain _ fun Q hQ => ?_; simp -dsimp only [Fa.F81, Option.isNone_none, Option.isNone_some, rdI_of c5, c5, hpl, hb, hq, bit01_one, bit01_zero, VC.Now, VC.vc_skip, VC.vc_ret, VC.vc_exit, VC.vc_block, VC.vc_cond, VC.vc_region, VC.lib, VC.regQ, VC.loopK, VC.reg, VC.opP, VC.pv, VC.thenF, VC.blkF, VC.retF, VC.resV, VC.oneV, VC.evo, VC.bin, VC.binI, VC.cmpI, VC.arithI, VC.ldv, VC.slv, VC.pickP, VC.holds, VC.chainOf, VC.look, VC.junk, VC.put, VC.eff, VC.callee, VC.pureB, VC.rdK, VC.rdKs, VC.okKs, VC.eqKs, VC.fillL, VC.putL, VC.stW, VC.stOK, VC.mixF, VC.setAll, Nat.reduceAdd, Nat.reduceSub, Nat.reduceMul, if_true, if_false, ↓reduceIte, forall_const, implies_true, reduceCtorEq, ne_eq, Nat.reduceBNe, Nat.reduceBEq, IntKind.signed, Nat.reduceEqDiff, Nat.reduceLeDiff, Nat.reduceLT, eq_self, Int.reduceEq, Int.reduceLT, Int.reduceLE, Int.reduceAdd, Int.reduceSub, VC.regC_nil, VC.regC_cons, VC.regCK_eq, VC.callQ, VC.tailQ, VC.goCall, VC.chStep]
    refine ⟨by omega, fun u => ?_⟩
    subst hQ
    simp -dsimp only [Fa.F81, VC.Now, VC.vc_skip, VC.vc_ret, VC.vc_exit, VC.vc_block, VC.vc_cond, VC.vc_region, VC.lib, VC.regQ, VC.loopK, VC.reg, VC.opP, VC.pv, VC.thenF, VC.blkF, VC.retF, VC.resV, VC.oneV, VC.evo, VC.bin, VC.binI, VC.cmpI, VC.arithI, VC.ldv, VC.slv, VC.pickP, VC.holds, VC.chainOf, VC.look, VC.junk, VC.put, VC.eff, VC.callee, VC.pureB, VC.rdK, VC.rdKs, VC.okKs, VC.eqKs, VC.fillL, VC.putL, VC.stW, VC.stOK, VC.mixF, VC.setAll, Nat.reduceAdd, Nat.reduceSub, Nat.reduceMul, if_true, if_false, ↓reduceIte, forall_const, implies_true, reduceCtorEq, ne_eq, Nat.reduceBNe, Nat.reduceBEq, IntKind.signed, Nat.reduceEqDiff, Nat.reduceLeDiff, Nat.reduceLT, eq_self, Int.reduceEq, Int.reduceLT, Int.reduceLE, Int.reduceAdd, Int.reduceSub, VC.regC_nil, VC.regC_cons, VC.regCK_eq, VC.callQ, VC.tailQ, VC.goCall, VC.chStep]
    (repeat rw [vc_seq]); refine vc_plain _ fun Q hQ => ?_; simp -dsimp only [Fa.F81, VC.Now, VC.vc_skip, VC.vc_ret, VC.vc_exit, VC.vc_block, VC.vc_cond, VC.vc_region, VC.lib, VC.regQ, VC.loopK, VC.reg, VC.opP, VC.pv, VC.thenF, VC.blkF, VC.retF, VC.resV, VC.oneV, VC.evo, VC.bin, VC.binI, VC.cmpI, VC.arithI, VC.ldv, VC.slv, VC.pickP, VC.holds, VC.chainOf, VC.look, VC.junk, VC.put, VC.eff, VC.callee, VC.pureB, VC.rdK, VC.rdKs, VC.okKs, VC.eqKs, VC.fillL, VC.putL, VC.stW, VC.stOK, VC.mixF, VC.setAll, Nat.reduceAdd, Nat.reduceSub, Nat.reduceMul, if_true, if_false, ↓reduceIte, forall_const, implies_true, reduceCtorEq, ne_eq, Nat.reduceBNe, Nat.reduceBEq, IntKind.signed, Nat.reduceEqDiff, Nat.reduceLeDiff, Nat.reduceLT, eq_self, Int.reduceEq, Int.reduceLT, Int.reduceLE, Int.reduceAdd, Int.reduceSub, VC.regC_nil, VC.regC_cons, VC.regCK_eq, VC.callQ, VC.tailQ, VC.goCall, VC.chStep]
    have hh := h0.drewN 1
    have k5 : ((w.drewN 1).cell? ⟨a.pb i, 5, none⟩).isSome = true := by rw [(hh.get 3 rfl : Box _ (a.pb i) (opC a i o)).at (i := 5) rfl]; rfl
    have f5 := (hh.get 3 rfl : Box _ (a.pb i) (opC a i o)).soft (i := 5) (by show 5 < 7; omega)
    refine WP_held 9 (fun _ => False) (.take 0 (.take 1 (.take 2 (.take 3 (.take 4 (.take 5 (.take 6 (.one 7 (.take 8 (.one 9 .done)))))))))) Fa.mix (by kernel_rfl) rfl ?_
    simp -dsimp only [VC.heldF_done, VC.heldF_last, VC.planF_done, VC.planF_take, VC.planF_one, VC.planF_two, VC.planK_eq, VC.heldF_take, VC.heldF_one, VC.heldF_two, VC.heldF_twoL, VC.heldK_eq, VC.okRd, Fa.F81, rdI_of c5, c5, hpl, k5, f5, or_shl hs32 (show x < 32 by omega), VC.Now, VC.vc, VC.lib, VC.regQ, VC.loopK, VC.reg, VC.opP, VC.pv, VC.thenF, VC.blkF, VC.retF, VC.resV, VC.oneV, VC.evo, VC.bin, VC.binI, VC.cmpI, VC.arithI, VC.ldv, VC.slv, VC.pickP, VC.holds, VC.chainOf, VC.look, VC.junk, VC.put, VC.eff, VC.callee, VC.pureB, VC.rdK, VC.rdKs, VC.okKs, VC.eqKs, VC.fillL, VC.putL, VC.stW, VC.stOK, VC.mixF, VC.setAll, Nat.reduceAdd, Nat.reduceSub, Nat.reduceMul, if_true, if_false, ↓reduceIte, forall_const, implies_true, reduceCtorEq, ne_eq, Nat.reduceBNe, Nat.reduceBEq, IntKind.signed, Nat.reduceEqDiff, Nat.reduceLeDiff, Nat.reduceLT, eq_self, Int.reduceEq, Int.reduceLT, Int.reduceLE, Int.reduceAdd, Int.reduceSub, VC.regC_nil, VC.regC_cons, VC.regCK_eq, VC.callQ, VC.tailQ, VC.goCall, VC.chStep]
    refine ⟨by omega, Agree.of_below (below_drewN (Below.refl _ w) 1), ?_⟩
    have st1 : St B (Mid n a s i (worldC n a s) s.cp o o) w (Mid n a s i (worldC n a s) s.cp { o with seen := o.seen ||| 2 ^ x } o) ((w.drewN 1).setCell ⟨a.pb i, 5, none⟩ (.int .u32 ((o.seen ||| 2 ^ x : Nat) : Int))) :=
      (h0.below_st (below_drewN (Below.refl _ w) 1)).trans (hh.setBox 3 rfl 5 (.int .u32 ((o.seen ||| 2 ^ x : Nat) : Int)))
    generalize ((w.drewN 1).setCell ⟨a.pb i, 5, none⟩ (.int .u32 ((o.seen ||| 2 ^ x : Nat) : Int))) = w1 at st1 ⊢
    clear k5 f5 hh c5 hpl
    have hh := st1.hp
    have d6 := (hh.get 3 rfl : Box w1 (a.pb i) (opC a i { o with seen := o.seen ||| 2 ^ x })).at (i := 6) rfl
    have f6 := (hh.get 3 rfl : Box w1 (a.pb i) (opC a i { o with seen := o.seen ||| 2 ^ x })).soft (i := 6) (by show 6 < 7; omega)
    have hpl := (hh.get 3 rfl : Box w1 (a.pb i) (opC a i { o with seen := o.seen ||| 2 ^ x })).1
    have hmo := ho.many
    subst hQ; simp -dsimp only [VC.Now, VC.vc_skip, VC.vc_ret, VC.vc_exit, VC.vc_block, VC.vc_cond, VC.vc_region, VC.lib, VC.regQ, VC.loopK, VC.reg, VC.opP, VC.pv, VC.thenF, VC.blkF, VC.retF, VC.resV, VC.oneV, VC.evo, VC.bin, VC.binI, VC.cmpI, VC.arithI, VC.ldv, VC.slv, VC.pickP, VC.holds, VC.chainOf, VC.look, VC.junk, VC.put, VC.eff, VC.callee, VC.pureB, VC.rdK, VC.rdKs, VC.okKs, VC.eqKs, VC.fillL, VC.putL, VC.stW, VC.stOK, VC.mixF, VC.setAll, Nat.reduceAdd, Nat.reduceSub, Nat.reduceMul, if_true, if_false, ↓reduceIte, forall_const, implies_true, reduceCtorEq, ne_eq, Nat.reduceBNe, Nat.reduceBEq, IntKind.signed, Nat.reduceEqDiff, Nat.reduceLeDiff, Nat.reduceLT, eq_self, Int.reduceEq, Int.reduceLT, Int.reduceLE, Int.reduceAdd, Int.reduceSub, VC.regC_nil, VC.regC_cons, VC.regCK_eq, VC.callQ, VC.tailQ, VC.goCall, VC.chStep]; (repeat rw [vc_seq]); refine vc_plain _ fun Q hQ => ?_; simp -dsimp only [Fa.F81, rdI_of d6, d6, hpl, f6, VC.Now, VC.vc_skip, VC.vc_ret, VC.vc_exit, VC.vc_block, VC.vc_cond, VC.vc_region, VC.lib, VC.regQ, VC.loopK, VC.reg, VC.opP, VC.pv, VC.thenF, VC.blkF, VC.retF, VC.resV, VC.oneV, VC.evo, VC.bin, VC.binI, VC.cmpI, VC.arithI, VC.ldv, VC.slv, VC.pickP, VC.holds, VC.chainOf, VC.look, VC.junk, VC.put, VC.eff, VC.callee, VC.pureB, VC.rdK, VC.rdKs, VC.okKs, VC.eqKs, VC.fillL, VC.putL, VC.stW, VC.stOK, VC.mixF, VC.setAll, Nat.reduceAdd, Nat.reduceSub, Nat.reduceMul, if_true, if_false, ↓reduceIte, forall_const, implies_true, reduceCtorEq, ne_eq, Nat.reduceBNe, Nat.reduceBEq, IntKind.signed, Nat.reduceEqDiff, Nat.reduceLeDiff, Nat.reduceLT, eq_self, Int.reduceEq, Int.reduceLT, Int.reduceLE, Int.reduceAdd, Int.reduceSub, VC.regC_nil, VC.regC_cons, VC.regCK_eq, VC.callQ, VC.tailQ, VC.goCall, VC.chStep]
    refine ⟨fits_i64 (by omega) (by omega), ?_⟩
    rw [show ((o.many : Int) + 1) = ((o.many + 1 : Nat) : Int) by omega]
    have st2 : St B (Mid n a s i (worldC n a s) s.cp o o) w (Mid n a s i (worldC n a s) s.cp { o with seen := o.seen ||| 2 ^ x, many := o.many + 1 } o) (w1.setCell ⟨a.pb i, 6, none⟩ (.int .i64 ((o.many + 1 : Nat) : Int))) :=
      st1.trans (hh.setBox 3 rfl 6 (.int .i64 ((o.many + 1 : Nat) : Int)))
    generalize w1.setCell ⟨a.pb i, 6, none⟩ (.int .i64 ((o.many + 1 : Nat) : Int)) = w2 at st2 ⊢
    clear st1 hh d6 f6 hpl
    generalize ho1 : { o with seen := o.seen ||| 2 ^ x, many := o.many + 1 } = o1 at st2
    have hh := st2.hp
    have bo := (hh.get 3 rfl : Box w2 (a.pb i) (opC a i o1))
    have hpl := bo.1
    have d1 := bo.at (i := 1) rfl
    have d2 := bo.at (i := 2) rfl
    have d3 := bo.at (i := 3) rfl
    have d4 := bo.at (i := 4) rfl
    have bm := (hh.get 0 rfl : Box w2 a.mb (worldC n a s))
    have hml := bm.1
    have m0 := bm.at (i := 0) rfl
    have hsec : o1.second = o.second := by rw [← ho1]
    have hb1 : o1.b = o.b := by rw [← ho1]
    rw [hsec] at d4
    rw [hb1] at d1 d2 d3
    cases hse : o.second with
    | true =>
      rw [hse] at d4
      subst hQ; simp -dsimp only [VC.Now, VC.vc_skip, VC.vc_ret, VC.vc_exit, VC.vc_block, VC.vc_cond, VC.vc_region, VC.lib, VC.regQ, VC.loopK, VC.reg, VC.opP, VC.pv, VC.thenF, VC.blkF, VC.retF, VC.resV, VC.oneV, VC.evo, VC.bin, VC.binI, VC.cmpI, VC.arithI, VC.ldv, VC.slv, VC.pickP, VC.holds, VC.chainOf, VC.look, VC.junk, VC.put, VC.eff, VC.callee, VC.pureB, VC.rdK, VC.rdKs, VC.okKs, VC.eqKs, VC.fillL, VC.putL, VC.stW, VC.stOK, VC.mixF, VC.setAll, Nat.reduceAdd, Nat.reduceSub, Nat.reduceMul, if_true, if_false, ↓reduceIte, forall_const, implies_true, reduceCtorEq, ne_eq, Nat.reduceBNe, Nat.reduceBEq, IntKind.signed, Nat.reduceEqDiff, Nat.reduceLeDiff, Nat.reduceLT, eq_self, Int.reduceEq, Int.reduceLT, Int.reduceLE, Int.reduceAdd, Int.reduceSub, VC.regC_nil, VC.regC_cons, VC.regCK_eq, VC.callQ, VC.tailQ, VC.goCall, VC.chStep]; (repeat rw [vc_seq]); refine vc_plain _ fun Q hQ => ?_; simp -dsimp only [Fa.F81, rdB_of d4, d4, hpl, VC.Now, VC.vc_skip, VC.vc_ret, VC.vc_exit, VC.vc_block, VC.vc_cond, VC.vc_region, VC.lib, VC.regQ, VC.loopK, VC.reg, VC.opP, VC.pv, VC.thenF, VC.blkF, VC.retF, VC.resV, VC.oneV, VC.evo, VC.bin, VC.binI, VC.cmpI, VC.arithI, VC.ldv, VC.slv, VC.pickP, VC.holds, VC.chainOf, VC.look, VC.junk, VC.put, VC.eff, VC.callee, VC.pureB, VC.rdK, VC.rdKs, VC.okKs, VC.eqKs, VC.fillL, VC.putL, VC.stW, VC.stOK, VC.mixF, VC.setAll, Nat.reduceAdd, Nat.reduceSub, Nat.reduceMul, if_true, if_false, ↓reduceIte, forall_const, implies_true, reduceCtorEq, ne_eq, Nat.reduceBNe, Nat.reduceBEq, IntKind.signed, Nat.reduceEqDiff, Nat.reduceLeDiff, Nat.reduceLT, eq_self, Int.reduceEq, Int.reduceLT, Int.reduceLE, Int.reduceAdd, Int.reduceSub, VC.regC_nil, VC.regC_cons, VC.regCK_eq, VC.callQ, VC.tailQ, VC.goCall, VC.chStep]
      subst hQ
      simp -dsimp only [Fa.F81, rdI_of d1, d1, rdI_of d2, d2, rdI_of d3, d3, hpl, VC.Now, VC.vc_skip, VC.vc_ret, VC.vc_exit, VC.vc_block, VC.vc_cond, VC.vc_region, VC.lib, VC.regQ, VC.loopK, VC.reg, VC.opP, VC.pv, VC.thenF, VC.blkF, VC.retF, VC.resV, VC.oneV, VC.evo, VC.bin, VC.binI, VC.cmpI, VC.arithI, VC.ldv, VC.slv, VC.pickP, VC.holds, VC.chainOf, VC.look, VC.junk, VC.put, VC.eff, VC.callee, VC.pureB, VC.rdK, VC.rdKs, VC.okKs, VC.eqKs, VC.fillL, VC.putL, VC.stW, VC.stOK, VC.mixF, VC.setAll, Nat.reduceAdd, Nat.reduceSub, Nat.reduceMul, if_true, if_false, ↓reduceIte, forall_const, implies_true, reduceCtorEq, ne_eq, Nat.reduceBNe, Nat.reduceBEq, IntKind.signed, Nat.reduceEqDiff, Nat.reduceLeDiff, Nat.reduceLT, eq_self, Int.reduceEq, Int.reduceLT, Int.reduceLE, Int.reduceAdd, Int.reduceSub, VC.regC_nil, VC.regC_cons, VC.regCK_eq, VC.callQ, VC.tailQ, VC.goCall, VC.chStep]
      refine CALL_by (rstore_any (R := [oOwn 137 1 s.k a.vo (ptrs a s.k), oBox (a.pb i) (opC a i o1), oBox (a.ab i) (apC o)] ++ restB a s.op s.k i) hh rfl hx o.b) fun e w3 hp => ⟨_, hp.1, ?_⟩
      have st3 : St B (Mid n a s i (worldC n a s) s.cp o o) w (Mid n a s i (worldC n a s) (rstore s.cp x o.b) o1 o) w3 := st2.trans hp.2
      clear hp st2 hh bo hpl d1 d2 d3 d4 bm hml m0
      rw [VC.Now, VC.seqK_eq]
      simp -dsimp only [Fa.F81, VC.Now, VC.vc_skip, VC.vc_ret, VC.vc_exit, VC.vc_block, VC.vc_cond, VC.vc_region, VC.lib, VC.regQ, VC.loopK, VC.reg, VC.opP, VC.pv, VC.thenF, VC.blkF, VC.retF, VC.resV, VC.oneV, VC.evo, VC.bin, VC.binI, VC.cmpI, VC.arithI, VC.ldv, VC.slv, VC.pickP, VC.holds, VC.chainOf, VC.look, VC.junk, VC.put, VC.eff, VC.callee, VC.pureB, VC.rdK, VC.rdKs, VC.okKs, VC.eqKs, VC.fillL, VC.putL, VC.stW, VC.stOK, VC.mixF, VC.setAll, Nat.reduceAdd, Nat.reduceSub, Nat.reduceMul, if_true, if_false, ↓reduceIte, forall_const, implies_true, reduceCtorEq, ne_eq, Nat.reduceBNe, Nat.reduceBEq, IntKind.signed, Nat.reduceEqDiff, Nat.reduceLeDiff, Nat.reduceLT, eq_self, Int.reduceEq, Int.reduceLT, Int.reduceLE, Int.reduceAdd, Int.reduceSub, VC.regC_nil, VC.regC_cons, VC.regCK_eq, VC.callQ, VC.tailQ, VC.goCall, VC.chStep]
      have hh := st3.hp
      have bo := (hh.get 3 rfl : Box w3 (a.pb i) (opC a i o1))
      have hpl := bo.1
      have d0 := bo.at (i := 0) rfl
      have d4 := bo.at (i := 4) rfl
      have d6 := bo.at (i := 6) rfl
      have bm := (hh.get 0 rfl : Box w3 a.mb (worldC n a s))
      have hml := bm.1
      have m0 := bm.at (i := 0) rfl
      have hmany : o1.many = o.many + 1 := by rw [← ho1]
      rw [hmany] at d6
      rw [hsec, hse] at d4
      by_cases q2 : 2 * (o.many + 1) ≤ n
      · have e9 : (2 * ((o.many + 1 : Nat) : Int) ≤ n) = True := eq_true (by omega)
        simp -dsimp only [Fa.F81, rdI_of d6, d6, hpl, rdSA_of m0, rdSN_of m0, rdSC_of m0, m0, hml, e9, VC.Now, VC.vc, VC.lib, VC.regQ, VC.loopK, VC.reg, VC.opP, VC.pv, VC.thenF, VC.blkF, VC.retF, VC.resV, VC.oneV, VC.evo, VC.bin, VC.binI, VC.cmpI, VC.arithI, VC.ldv, VC.slv, VC.pickP, VC.holds, VC.chainOf, VC.look, VC.junk, VC.put, VC.eff, VC.callee, VC.pureB, VC.rdK, VC.rdKs, VC.okKs, VC.eqKs, VC.fillL, VC.putL, VC.stW, VC.stOK, VC.mixF, VC.setAll, Nat.reduceAdd, Nat.reduceSub, Nat.reduceMul, if_true, if_false, ↓reduceIte, forall_const, implies_true, reduceCtorEq, ne_eq, Nat.reduceBNe, Nat.reduceBEq, IntKind.signed, Nat.reduceEqDiff, Nat.reduceLeDiff, Nat.reduceLT, eq_self, Int.reduceEq, Int.reduceLT, Int.reduceLE, Int.reduceAdd, Int.reduceSub, VC.regC_nil, VC.regC_cons, VC.regCK_eq, VC.callQ, VC.tailQ, VC.goCall, VC.chStep]
        refine ⟨fits_i64 (by omega) (by omega), fun m => ?_⟩
        refine GPost.reach (now' := s.now) (cp' := rstore s.cp x o.b) (o' := o1) hi hop ?_ ?_
        · subst ho1
          exact st3.drewN m
        · have h1 : reach1 x s.cp o = o1 := by unfold reach1; rw [if_neg (by rw [hse]; simp), ho1]
          unfold rreach
          rw [hop, if_neg q, h1, if_pos hse, if_neg (fun h => by have := h.1; omega)]
          have h2 : reach2 n t o1 = o1 := by unfold reach2; rw [if_pos (by rw [hmany]; exact q2)]
          rw [h2]
      · have e9 : (2 * ((o.many + 1 : Nat) : Int) ≤ n) = False := eq_false (by omega)
        (repeat rw [vc_seq]); refine vc_plain _ fun Q hQ => ?_; simp -dsimp only [Fa.F81, rdI_of d6, d6, hpl, rdSA_of m0, rdSN_of m0, rdSC_of m0, m0, hml, e9, VC.Now, VC.vc_skip, VC.vc_ret, VC.vc_exit, VC.vc_block, VC.vc_cond, VC.vc_region, VC.lib, VC.regQ, VC.loopK, VC.reg, VC.opP, VC.pv, VC.thenF, VC.blkF, VC.retF, VC.resV, VC.oneV, VC.evo, VC.bin, VC.binI, VC.cmpI, VC.arithI, VC.ldv, VC.slv, VC.pickP, VC.holds, VC.chainOf, VC.look, VC.junk, VC.put, VC.eff, VC.callee, VC.pureB, VC.rdK, VC.rdKs, VC.okKs, VC.eqKs, VC.fillL, VC.putL, VC.stW, VC.stOK, VC.mixF, VC.setAll, Nat.reduceAdd, Nat.reduceSub, Nat.reduceMul, if_true, if_false, ↓reduceIte, forall_const, implies_true, reduceCtorEq, ne_eq, Nat.reduceBNe, Nat.reduceBEq, IntKind.signed, Nat.reduceEqDiff, Nat.reduceLeDiff, Nat.reduceLT, eq_self, Int.reduceEq, Int.reduceLT, Int.reduceLE, Int.reduceAdd, Int.reduceSub, VC.regC_nil, VC.regC_cons, VC.regCK_eq, VC.callQ, VC.tailQ, VC.goCall, VC.chStep]
        refine ⟨fits_i64 (by omega) (by omega), fun m => ?_⟩
        have st4 := st3.drewN m
        replace hpl : a.pb i < (w3.drewN m).heap.size := hpl
        replace d0 : (w3.drewN m).cell? ⟨a.pb i, 0, none⟩ = _ := d0
        replace d4 : (w3.drewN m).cell? ⟨a.pb i, 4, none⟩ = _ := d4
        have d3 : (w3.drewN m).cell? ⟨a.pb i, 3, none⟩ = some (.int .i64 o1.b.val) := bo.at (i := 3) rfl
        generalize w3.drewN m = w4 at st4 hpl d0 d3 d4 ⊢
        clear st3 hh bm hml m0 bo d6
        have hh := st4.hp
        have ba := (hh.get 4 rfl : Box w4 (a.ab i) (apC o))
        have hal := ba.1
        have k5 : (w4.cell? ⟨a.ab i, 5, none⟩).isSome = true := by rw [ba.at (i := 5) rfl]; rfl
        have f5 := ba.soft (i := 5) (by show 5 < 6; omega)
        subst hQ; simp -dsimp only [VC.Now, VC.vc_skip, VC.vc_ret, VC.vc_exit, VC.vc_block, VC.vc_cond, VC.vc_region, VC.lib, VC.regQ, VC.loopK, VC.reg, VC.opP, VC.pv, VC.thenF, VC.blkF, VC.retF, VC.resV, VC.oneV, VC.evo, VC.bin, VC.binI, VC.cmpI, VC.arithI, VC.ldv, VC.slv, VC.pickP, VC.holds, VC.chainOf, VC.look, VC.junk, VC.put, VC.eff, VC.callee, VC.pureB, VC.rdK, VC.rdKs, VC.okKs, VC.eqKs, VC.fillL, VC.putL, VC.stW, VC.stOK, VC.mixF, VC.setAll, Nat.reduceAdd, Nat.reduceSub, Nat.reduceMul, if_true, if_false, ↓reduceIte, forall_const, implies_true, reduceCtorEq, ne_eq, Nat.reduceBNe, Nat.reduceBEq, IntKind.signed, Nat.reduceEqDiff, Nat.reduceLeDiff, Nat.reduceLT, eq_self, Int.reduceEq, Int.reduceLT, Int.reduceLE, Int.reduceAdd, Int.reduceSub, VC.regC_nil, VC.regC_cons, VC.regCK_eq, VC.callQ, VC.tailQ, VC.goCall, VC.chStep]; (repeat rw [vc_seq]); refine vc_plain _ fun Q hQ => ?_; simp -dsimp only [Fa.F81, rdB_of d4, d4, hpl, VC.Now, VC.vc_skip, VC.vc_ret, VC.vc_exit, VC.vc_block, VC.vc_cond, VC.vc_region, VC.lib, VC.regQ, VC.loopK, VC.reg, VC.opP, VC.pv, VC.thenF, VC.blkF, VC.retF, VC.resV, VC.oneV, VC.evo, VC.bin, VC.binI, VC.cmpI, VC.arithI, VC.ldv, VC.slv, VC.pickP, VC.holds, VC.chainOf, VC.look, VC.junk, VC.put, VC.eff, VC.callee, VC.pureB, VC.rdK, VC.rdKs, VC.okKs, VC.eqKs, VC.fillL, VC.putL, VC.stW, VC.stOK, VC.mixF, VC.setAll, Nat.reduceAdd, Nat.reduceSub, Nat.reduceMul, if_true, if_false, ↓reduceIte, forall_const, implies_true, reduceCtorEq, ne_eq, Nat.reduceBNe, Nat.reduceBEq, IntKind.signed, Nat.reduceEqDiff, Nat.reduceLeDiff, Nat.reduceLT, eq_self, Int.reduceEq, Int.reduceLT, Int.reduceLE, Int.reduceAdd, Int.reduceSub, VC.regC_nil, VC.regC_cons, VC.regCK_eq, VC.callQ, VC.tailQ, VC.goCall, VC.chStep]
        subst hQ; simp -dsimp only [VC.Now, VC.vc_skip, VC.vc_ret, VC.vc_exit, VC.vc_block, VC.vc_cond, VC.vc_region, VC.lib, VC.regQ, VC.loopK, VC.reg, VC.opP, VC.pv, VC.thenF, VC.blkF, VC.retF, VC.resV, VC.oneV, VC.evo, VC.bin, VC.binI, VC.cmpI, VC.arithI, VC.ldv, VC.slv, VC.pickP, VC.holds, VC.chainOf, VC.look, VC.junk, VC.put, VC.eff, VC.callee, VC.pureB, VC.rdK, VC.rdKs, VC.okKs, VC.eqKs, VC.fillL, VC.putL, VC.stW, VC.stOK, VC.mixF, VC.setAll, Nat.reduceAdd, Nat.reduceSub, Nat.reduceMul, if_true, if_false, ↓reduceIte, forall_const, implies_true, reduceCtorEq, ne_eq, Nat.reduceBNe, Nat.reduceBEq, IntKind.signed, Nat.reduceEqDiff, Nat.reduceLeDiff, Nat.reduceLT, eq_self, Int.reduceEq, Int.reduceLT, Int.reduceLE, Int.reduceAdd, Int.reduceSub, VC.regC_nil, VC.regC_cons, VC.regCK_eq, VC.callQ, VC.tailQ, VC.goCall, VC.chStep]; (repeat rw [vc_seq]); refine vc_plain _ fun Q hQ => ?_; simp -dsimp only [Fa.F81, rdP_of d0, d0, hpl, hal, k5, f5, VC.Now, VC.vc_skip, VC.vc_ret, VC.vc_exit, VC.vc_block, VC.vc_cond, VC.vc_region, VC.lib, VC.regQ, VC.loopK, VC.reg, VC.opP, VC.pv, VC.thenF, VC.blkF, VC.retF, VC.resV, VC.oneV, VC.evo, VC.bin, VC.binI, VC.cmpI, VC.arithI, VC.ldv, VC.slv, VC.pickP, VC.holds, VC.chainOf, VC.look, VC.junk, VC.put, VC.eff, VC.callee, VC.pureB, VC.rdK, VC.rdKs, VC.okKs, VC.eqKs, VC.fillL, VC.putL, VC.stW, VC.stOK, VC.mixF, VC.setAll, Nat.reduceAdd, Nat.reduceSub, Nat.reduceMul, if_true, if_false, ↓reduceIte, forall_const, implies_true, reduceCtorEq, ne_eq, Nat.reduceBNe, Nat.reduceBEq, IntKind.signed, Nat.reduceEqDiff, Nat.reduceLeDiff, Nat.reduceLT, eq_self, Int.reduceEq, Int.reduceLT, Int.reduceLE, Int.reduceAdd, Int.reduceSub, VC.regC_nil, VC.regC_cons, VC.regCK_eq, VC.callQ, VC.tailQ, VC.goCall, VC.chStep]
        have st5 : St B (Mid n a s i (worldC n a s) s.cp o o) w (Mid n a s i (worldC n a s) (rstore s.cp x o.b) o1 { o with to := t }) (w4.setCell ⟨a.ab i, 5, none⟩ (.int .i64 t)) :=
          st4.trans (hh.setBox 4 rfl 5 (.int .i64 t))
        generalize w4.setCell ⟨a.ab i, 5, none⟩ (.int .i64 t) = w5 at st5 ⊢
        clear st4 hh ba hal k5 f5 hpl d0 d4 d3
        have hh := st5.hp
        have bo := (hh.get 3 rfl : Box w5 (a.pb i) (opC a i o1))
        have hpl := bo.1
        have d0 := bo.at (i := 0) rfl
        have d3 := bo.at (i := 3) rfl
        have ba := (hh.get 4 rfl : Box w5 (a.ab i) (apC { o with to := t }))
        have hal := ba.1
        have a0 := ba.at (i := 0) rfl
        have a2 := ba.at (i := 2) rfl
        subst hQ; simp -dsimp only [VC.Now, VC.vc_skip, VC.vc_ret, VC.vc_exit, VC.vc_block, VC.vc_cond, VC.vc_region, VC.lib, VC.regQ, VC.loopK, VC.reg, VC.opP, VC.pv, VC.thenF, VC.blkF, VC.retF, VC.resV, VC.oneV, VC.evo, VC.bin, VC.binI, VC.cmpI, VC.arithI, VC.ldv, VC.slv, VC.pickP, VC.holds, VC.chainOf, VC.look, VC.junk, VC.put, VC.eff, VC.callee, VC.pureB, VC.rdK, VC.rdKs, VC.okKs, VC.eqKs, VC.fillL, VC.putL, VC.stW, VC.stOK, VC.mixF, VC.setAll, Nat.reduceAdd, Nat.reduceSub, Nat.reduceMul, if_true, if_false, ↓reduceIte, forall_const, implies_true, reduceCtorEq, ne_eq, Nat.reduceBNe, Nat.reduceBEq, IntKind.signed, Nat.reduceEqDiff, Nat.reduceLeDiff, Nat.reduceLT, eq_self, Int.reduceEq, Int.reduceLT, Int.reduceLE, Int.reduceAdd, Int.reduceSub, VC.regC_nil, VC.regC_cons, VC.regCK_eq, VC.callQ, VC.tailQ, VC.goCall, VC.chStep]; (repeat rw [vc_seq]); refine vc_plain _ fun Q hQ => ?_; simp -dsimp only [Fa.F81, rdP_of d0, d0, hpl, hal, rdB_of a2, a2, VC.Now, VC.vc_skip, VC.vc_ret, VC.vc_exit, VC.vc_block, VC.vc_cond, VC.vc_region, VC.lib, VC.regQ, VC.loopK, VC.reg, VC.opP, VC.pv, VC.thenF, VC.blkF, VC.retF, VC.resV, VC.oneV, VC.evo, VC.bin, VC.binI, VC.cmpI, VC.arithI, VC.ldv, VC.slv, VC.pickP, VC.holds, VC.chainOf, VC.look, VC.junk, VC.put, VC.eff, VC.callee, VC.pureB, VC.rdK, VC.rdKs, VC.okKs, VC.eqKs, VC.fillL, VC.putL, VC.stW, VC.stOK, VC.mixF, VC.setAll, Nat.reduceAdd, Nat.reduceSub, Nat.reduceMul, if_true, if_false, ↓reduceIte, forall_const, implies_true, reduceCtorEq, ne_eq, Nat.reduceBNe, Nat.reduceBEq, IntKind.signed, Nat.reduceEqDiff, Nat.reduceLeDiff, Nat.reduceLT, eq_self, Int.reduceEq, Int.reduceLT, Int.reduceLE, Int.reduceAdd, Int.reduceSub, VC.regC_nil, VC.regC_cons, VC.regCK_eq, VC.callQ, VC.tailQ, VC.goCall, VC.chStep]
        cases hwr : o.wr with
        | true =>
          rw [hwr] at a2
          subst hQ
          simp -dsimp only [Fa.F81, VC.Now, VC.vc, VC.lib, VC.regQ, VC.loopK, VC.reg, VC.opP, VC.pv, VC.thenF, VC.blkF, VC.retF, VC.resV, VC.oneV, VC.evo, VC.bin, VC.binI, VC.cmpI, VC.arithI, VC.ldv, VC.slv, VC.pickP, VC.holds, VC.chainOf, VC.look, VC.junk, VC.put, VC.eff, VC.callee, VC.pureB, VC.rdK, VC.rdKs, VC.okKs, VC.eqKs, VC.fillL, VC.putL, VC.stW, VC.stOK, VC.mixF, VC.setAll, Nat.reduceAdd, Nat.reduceSub, Nat.reduceMul, if_true, if_false, ↓reduceIte, forall_const, implies_true, reduceCtorEq, ne_eq, Nat.reduceBNe, Nat.reduceBEq, IntKind.signed, Nat.reduceEqDiff, Nat.reduceLeDiff, Nat.reduceLT, eq_self, Int.reduceEq, Int.reduceLT, Int.reduceLE, Int.reduceAdd, Int.reduceSub, VC.regC_nil, VC.regC_cons, VC.regCK_eq, VC.callQ, VC.tailQ, VC.goCall, VC.chStep]
          obtain ⟨jw, hjw⟩ : ∃ jw : Nat, o.who = jw := ⟨o.who.toNat, by have := ho.who; omega⟩
          have hjN : o.who.toNat = jw := by omega
          have hj4 : jw < 4 := by have := ho.who; omega
          have hh := st5.hp
          have bo := (hh.get 3 rfl : Box w5 (a.pb i) (opC a i o1))
          have hpl := bo.1
          have d0 := bo.at (i := 0) rfl
          have ba := (hh.get 4 rfl : Box w5 (a.ab i) (apC { o with to := t }))
          have hal := ba.1
          have a0 : w5.cell? ⟨a.ab i, 0, none⟩ = some (.int .i64 o.who) := ba.at (i := 0) rfl
          rw [hjw] at a0
          have bm := (hh.get 0 rfl : Box w5 a.mb (worldC n a s))
          have hml := bm.1
          have k7 : ((w5.drewN 1).cell? ⟨a.mb, 2 + jw, none⟩).isSome = true := by
            have : w5.cell? ⟨a.mb, 2 + jw, none⟩ = _ := bm.at (now_at hj4)
            show (w5.cell? ⟨a.mb, 2 + jw, none⟩).isSome = true
            rw [this]; rfl
          have f7 : (w5.drewN 1).frozen? ⟨a.mb, 2 + jw, none⟩ = false := bm.soft (i := 2 + jw) (by show 2 + jw < 6; omega)
          refine WP_held 11 (fun _ => False) (.take 0 (.take 1 (.take 2 (.take 3 (.take 4 (.take 5 (.take 6 (.take 7 (.one 8 (.one 9 (.take 10 (.one 11 .done)))))))))))) Fa.mix (by kernel_rfl) rfl ?_
          simp -dsimp only [VC.heldF_done, VC.heldF_last, VC.planF_done, VC.planF_take, VC.planF_one, VC.planF_two, VC.planK_eq, VC.heldF_take, VC.heldF_one, VC.heldF_two, VC.heldF_twoL, VC.heldK_eq, VC.okRd, Fa.F81, rdP_of d0, d0, rdI_of a0, a0, hpl, hal, hml, k7, f7, Int.toNat_natCast, VC.Now, VC.vc, VC.lib, VC.regQ, VC.loopK, VC.reg, VC.opP, VC.pv, VC.thenF, VC.blkF, VC.retF, VC.resV, VC.oneV, VC.evo, VC.bin, VC.binI, VC.cmpI, VC.arithI, VC.ldv, VC.slv, VC.pickP, VC.holds, VC.chainOf, VC.look, VC.junk, VC.put, VC.eff, VC.callee, VC.pureB, VC.rdK, VC.rdKs, VC.okKs, VC.eqKs, VC.fillL, VC.putL, VC.stW, VC.stOK, VC.mixF, VC.setAll, Nat.reduceAdd, Nat.reduceSub, Nat.reduceMul, if_true, if_false, ↓reduceIte, forall_const, implies_true, reduceCtorEq, ne_eq, Nat.reduceBNe, Nat.reduceBEq, IntKind.signed, Nat.reduceEqDiff, Nat.reduceLeDiff, Nat.reduceLT, eq_self, Int.reduceEq, Int.reduceLT, Int.reduceLE, Int.reduceAdd, Int.reduceSub, VC.regC_nil, VC.regC_cons, VC.regCK_eq, VC.callQ, VC.tailQ, VC.goCall, VC.chStep]
          refine ⟨Agree.of_below (below_drewN (Below.refl _ w5) 1), Agree.of_below (below_drewN (Below.refl _ w5) 1), ⟨by omega, by omega⟩, k7, ?_⟩
          have st7 := (st5.drewN 1).trans ((st5.drewN 1).hp.setBox 0 rfl (2 + jw) (.pointer none))
          refine GPost.reach (now' := upd s.now jw none) (cp' := rstore s.cp x o.b) (o' := { o1 with to := t }) hi hop ?_ ?_
          · rw [worldC_end hj4]
            subst ho1
            exact st7
          · have h1 : reach1 x s.cp o = o1 := by unfold reach1; rw [if_neg (by rw [hse]; simp), ho1]
            have hw1 : o1.wr = o.wr := by rw [← ho1]
            have h2 : reach2 n t o1 = { o1 with to := t } := by
              unfold reach2
              rw [if_neg (by rw [hmany]; exact q2), if_pos (hsec.trans hse), if_pos (by rw [hw1, hwr])]
            unfold rreach
            rw [hop, if_neg q, h1, if_pos hse, if_pos ⟨by omega, hse⟩, hjN, h2]
        | false =>
          rw [hwr] at a2
          subst hQ
          simp -dsimp only [Fa.F81, VC.Now, VC.vc, VC.lib, VC.regQ, VC.loopK, VC.reg, VC.opP, VC.pv, VC.thenF, VC.blkF, VC.retF, VC.resV, VC.oneV, VC.evo, VC.bin, VC.binI, VC.cmpI, VC.arithI, VC.ldv, VC.slv, VC.pickP, VC.holds, VC.chainOf, VC.look, VC.junk, VC.put, VC.eff, VC.callee, VC.pureB, VC.rdK, VC.rdKs, VC.okKs, VC.eqKs, VC.fillL, VC.putL, VC.stW, VC.stOK, VC.mixF, VC.setAll, Nat.reduceAdd, Nat.reduceSub, Nat.reduceMul, if_true, if_false, ↓reduceIte, forall_const, implies_true, reduceCtorEq, ne_eq, Nat.reduceBNe, Nat.reduceBEq, IntKind.signed, Nat.reduceEqDiff, Nat.reduceLeDiff, Nat.reduceLT, eq_self, Int.reduceEq, Int.reduceLT, Int.reduceLE, Int.reduceAdd, Int.reduceSub, VC.regC_nil, VC.regC_cons, VC.regCK_eq, VC.callQ, VC.tailQ, VC.goCall, VC.chStep]
          obtain ⟨jw, hjw⟩ : ∃ jw : Nat, o.who = jw := ⟨o.who.toNat, by have := ho.who; omega⟩
          have hjN : o.who.toNat = jw := by omega
          have hj4 : jw < 4 := by have := ho.who; omega
          have k3 : ((w5.drewN 1).cell? ⟨a.ab i, 3, none⟩).isSome = true := by
            have : w5.cell? ⟨a.ab i, 3, none⟩ = _ := ba.at (i := 3) rfl
            show (w5.cell? ⟨a.ab i, 3, none⟩).isSome = true
            rw [this]; rfl
          have f3 : (w5.drewN 1).frozen? ⟨a.ab i, 3, none⟩ = false := ba.soft (i := 3) (by show 3 < 6; omega)
          refine WP_held 11 (fun _ => False) (.take 0 (.take 1 (.take 2 (.take 3 (.take 4 (.take 5 (.take 6 (.take 7 (.take 8 (.one 9 (.take 10 (.one 11 .done)))))))))))) Fa.mix (by kernel_rfl) rfl ?_
          simp -dsimp only [VC.heldF_done, VC.heldF_last, VC.planF_done, VC.planF_take, VC.planF_one, VC.planF_two, VC.planK_eq, VC.heldF_take, VC.heldF_one, VC.heldF_two, VC.heldF_twoL, VC.heldK_eq, VC.okRd, Fa.F81, rdP_of d0, d0, rdI_of d3, d3, hpl, hal, k3, f3, VC.Now, VC.vc, VC.lib, VC.regQ, VC.loopK, VC.reg, VC.opP, VC.pv, VC.thenF, VC.blkF, VC.retF, VC.resV, VC.oneV, VC.evo, VC.bin, VC.binI, VC.cmpI, VC.arithI, VC.ldv, VC.slv, VC.pickP, VC.holds, VC.chainOf, VC.look, VC.junk, VC.put, VC.eff, VC.callee, VC.pureB, VC.rdK, VC.rdKs, VC.okKs, VC.eqKs, VC.fillL, VC.putL, VC.stW, VC.stOK, VC.mixF, VC.setAll, Nat.reduceAdd, Nat.reduceSub, Nat.reduceMul, if_true, if_false, ↓reduceIte, forall_const, implies_true, reduceCtorEq, ne_eq, Nat.reduceBNe, Nat.reduceBEq, IntKind.signed, Nat.reduceEqDiff, Nat.reduceLeDiff, Nat.reduceLT, eq_self, Int.reduceEq, Int.reduceLT, Int.reduceLE, Int.reduceAdd, Int.reduceSub, VC.regC_nil, VC.regC_cons, VC.regCK_eq, VC.callQ, VC.tailQ, VC.goCall, VC.chStep]
          refine ⟨Agree.of_below (below_drewN (Below.refl _ w5) 1), k3, ?_⟩
          have st6 : St B (Mid n a s i (worldC n a s) s.cp o o) w (Mid n a s i (worldC n a s) (rstore s.cp x o.b) o1 { o with to := t, val := o1.b.val }) ((w5.drewN 1).setCell ⟨a.ab i, 3, none⟩ (.int .i64 o1.b.val)) :=
            (st5.drewN 1).trans ((st5.drewN 1).hp.setBox 4 rfl 3 (.int .i64 o1.b.val))
          generalize ((w5.drewN 1).setCell ⟨a.ab i, 3, none⟩ (.int .i64 o1.b.val)) = w6 at st6 ⊢
          clear hh bo hpl d0 d3 ba hal a0 a2
          have hh := st6.hp
          have bo := (hh.get 3 rfl : Box w6 (a.pb i) (opC a i o1))
          have hpl := bo.1
          have d0 := bo.at (i := 0) rfl
          have ba := (hh.get 4 rfl : Box w6 (a.ab i) (apC { o with to := t, val := o1.b.val }))
          have hal := ba.1
          have a0 : w6.cell? ⟨a.ab i, 0, none⟩ = some (.int .i64 o.who) := ba.at (i := 0) rfl
          rw [hjw] at a0
          have bm := (hh.get 0 rfl : Box w6 a.mb (worldC n a s))
          have hml := bm.1
          have k7 : ((w6.drewN 1).cell? ⟨a.mb, 2 + jw, none⟩).isSome = true := by
            have : w6.cell? ⟨a.mb, 2 + jw, none⟩ = _ := bm.at (now_at hj4)
            show (w6.cell? ⟨a.mb, 2 + jw, none⟩).isSome = true
            rw [this]; rfl
          have f7 : (w6.drewN 1).frozen? ⟨a.mb, 2 + jw, none⟩ = false := bm.soft (i := 2 + jw) (by show 2 + jw < 6; omega)
          refine WP_held 11 (fun _ => False) (.take 0 (.take 1 (.take 2 (.take 3 (.take 4 (.take 5 (.take 6 (.take 7 (.one 8 (.one 9 (.take 10 (.one 11 .done)))))))))))) Fa.mix (by kernel_rfl) rfl ?_
          simp -dsimp only [VC.heldF_done, VC.heldF_last, VC.planF_done, VC.planF_take, VC.planF_one, VC.planF_two, VC.planK_eq, VC.heldF_take, VC.heldF_one, VC.heldF_two, VC.heldF_twoL, VC.heldK_eq, VC.okRd, Fa.F81, rdP_of d0, d0, rdI_of a0, a0, hpl, hal, hml, k7, f7, Int.toNat_natCast, VC.Now, VC.vc, VC.lib, VC.regQ, VC.loopK, VC.reg, VC.opP, VC.pv, VC.thenF, VC.blkF, VC.retF, VC.resV, VC.oneV, VC.evo, VC.bin, VC.binI, VC.cmpI, VC.arithI, VC.ldv, VC.slv, VC.pickP, VC.holds, VC.chainOf, VC.look, VC.junk, VC.put, VC.eff, VC.callee, VC.pureB, VC.rdK, VC.rdKs, VC.okKs, VC.eqKs, VC.fillL, VC.putL, VC.stW, VC.stOK, VC.mixF, VC.setAll, Nat.reduceAdd, Nat.reduceSub, Nat.reduceMul, if_true, if_false, ↓reduceIte, forall_const, implies_true, reduceCtorEq, ne_eq, Nat.reduceBNe, Nat.reduceBEq, IntKind.signed, Nat.reduceEqDiff, Nat.reduceLeDiff, Nat.reduceLT, eq_self, Int.reduceEq, Int.reduceLT, Int.reduceLE, Int.reduceAdd, Int.reduceSub, VC.regC_nil, VC.regC_cons, VC.regCK_eq, VC.callQ, VC.tailQ, VC.goCall, VC.chStep]
          refine ⟨Agree.of_below (below_drewN (Below.refl _ w6) 1), Agree.of_below (below_drewN (Below.refl _ w6) 1), ⟨by omega, by omega⟩, k7, ?_⟩
          have st7 := (st6.drewN 1).trans ((st6.drewN 1).hp.setBox 0 rfl (2 + jw) (.pointer none))
          refine GPost.reach (now' := upd s.now jw none) (cp' := rstore s.cp x o.b) (o' := { o1 with to := t, val := o1.b.val }) hi hop ?_ ?_
          · rw [worldC_end hj4]
            subst ho1
            exact st7
          · have h1 : reach1 x s.cp o = o1 := by unfold reach1; rw [if_neg (by rw [hse]; simp), ho1]
            have hw1 : o1.wr = o.wr := by rw [← ho1]
            have h2 : reach2 n t o1 = { o1 with to := t, val := o1.b.val } := by
              unfold reach2
              rw [if_neg (by rw [hmany]; exact q2), if_pos (hsec.trans hse), if_neg (by rw [hw1, hwr]; decide)]
            unfold rreach
            rw [hop, if_neg q, h1, if_pos hse, if_pos ⟨by omega, hse⟩, hjN, h2]
    | false =>
      rw [hse] at d4
      obtain ⟨e0, e1, e2⟩ : w2.cell? ⟨a.gc, x * 3, none⟩ = some (.int .i64 (s.cp x).n) ∧ w2.cell? ⟨a.gc, x * 3 + 1, none⟩ = some (.int .i64 (s.cp x).who) ∧ w2.cell? ⟨a.gc, x * 3 + 2, none⟩ = some (.int .i64 (s.cp x).val) := by
        have hr : Recs w2 a.gc n 3 (fun i => stL (s.cp i)) := hh.get 1 rfl
        exact ⟨hr.at (j := 0) hx (by omega) rfl, hr.at (j := 1) hx (by omega) rfl, hr.at (j := 2) hx (by omega) rfl⟩
      subst hQ; simp -dsimp only [VC.Now, VC.vc_skip, VC.vc_ret, VC.vc_exit, VC.vc_block, VC.vc_cond, VC.vc_region, VC.lib, VC.regQ, VC.loopK, VC.reg, VC.opP, VC.pv, VC.thenF, VC.blkF, VC.retF, VC.resV, VC.oneV, VC.evo, VC.bin, VC.binI, VC.cmpI, VC.arithI, VC.ldv, VC.slv, VC.pickP, VC.holds, VC.chainOf, VC.look, VC.junk, VC.put, VC.eff, VC.callee, VC.pureB, VC.rdK, VC.rdKs, VC.okKs, VC.eqKs, VC.fillL, VC.putL, VC.stW, VC.stOK, VC.mixF, VC.setAll, Nat.reduceAdd, Nat.reduceSub, Nat.reduceMul, if_true, if_false, ↓reduceIte, forall_const, implies_true, reduceCtorEq, ne_eq, Nat.reduceBNe, Nat.reduceBEq, IntKind.signed, Nat.reduceEqDiff, Nat.reduceLeDiff, Nat.reduceLT, eq_self, Int.reduceEq, Int.reduceLT, Int.reduceLE, Int.reduceAdd, Int.reduceSub, VC.regC_nil, VC.regC_cons, VC.regCK_eq, VC.callQ, VC.tailQ, VC.goCall, VC.chStep]; (repeat rw [vc_seq]); refine vc_plain _ fun Q hQ => ?_; simp -dsimp only [Fa.F81, rdB_of d4, d4, hpl, VC.Now, VC.vc_skip, VC.vc_ret, VC.vc_exit, VC.vc_block, VC.vc_cond, VC.vc_region, VC.lib, VC.regQ, VC.loopK, VC.reg, VC.opP, VC.pv, VC.thenF, VC.blkF, VC.retF, VC.resV, VC.oneV, VC.evo, VC.bin, VC.binI, VC.cmpI, VC.arithI, VC.ldv, VC.slv, VC.pickP, VC.holds, VC.chainOf, VC.look, VC.junk, VC.put, VC.eff, VC.callee, VC.pureB, VC.rdK, VC.rdKs, VC.okKs, VC.eqKs, VC.fillL, VC.putL, VC.stW, VC.stOK, VC.mixF, VC.setAll, Nat.reduceAdd, Nat.reduceSub, Nat.reduceMul, if_true, if_false, ↓reduceIte, forall_const, implies_true, reduceCtorEq, ne_eq, Nat.reduceBNe, Nat.reduceBEq, IntKind.signed, Nat.reduceEqDiff, Nat.reduceLeDiff, Nat.reduceLT, eq_self, Int.reduceEq, Int.reduceLT, Int.reduceLE, Int.reduceAdd, Int.reduceSub, VC.regC_nil, VC.regC_cons, VC.regCK_eq, VC.callQ, VC.tailQ, VC.goCall, VC.chStep]
      subst hQ
      simp -dsimp only [Fa.F81, VC.Now, VC.vc_skip, VC.vc_ret, VC.vc_exit, VC.vc_block, VC.vc_cond, VC.vc_region, VC.lib, VC.regQ, VC.loopK, VC.reg, VC.opP, VC.pv, VC.thenF, VC.blkF, VC.retF, VC.resV, VC.oneV, VC.evo, VC.bin, VC.binI, VC.cmpI, VC.arithI, VC.ldv, VC.slv, VC.pickP, VC.holds, VC.chainOf, VC.look, VC.junk, VC.put, VC.eff, VC.callee, VC.pureB, VC.rdK, VC.rdKs, VC.okKs, VC.eqKs, VC.fillL, VC.putL, VC.stW, VC.stOK, VC.mixF, VC.setAll, Nat.reduceAdd, Nat.reduceSub, Nat.reduceMul, if_true, if_false, ↓reduceIte, forall_const, implies_true, reduceCtorEq, ne_eq, Nat.reduceBNe, Nat.reduceBEq, IntKind.signed, Nat.reduceEqDiff, Nat.reduceLeDiff, Nat.reduceLT, eq_self, Int.reduceEq, Int.reduceLT, Int.reduceLE, Int.reduceAdd, Int.reduceSub, VC.regC_nil, VC.regC_cons, VC.regCK_eq, VC.callQ, VC.tailQ, VC.goCall, VC.chStep]
      (repeat rw [vc_seq]); refine vc_plain _ fun Q hQ => ?_; simp -dsimp only [Fa.F81, rdSA_of m0, rdSN_of m0, rdSC_of m0, m0, hml, rdI_of e0, e0, rdI_of e1, e1, rdI_of e2, e2, Int.toNat_natCast, Nat.zero_add, VC.Now, VC.vc_skip, VC.vc_ret, VC.vc_exit, VC.vc_block, VC.vc_cond, VC.vc_region, VC.lib, VC.regQ, VC.loopK, VC.reg, VC.opP, VC.pv, VC.thenF, VC.blkF, VC.retF, VC.resV, VC.oneV, VC.evo, VC.bin, VC.binI, VC.cmpI, VC.arithI, VC.ldv, VC.slv, VC.pickP, VC.holds, VC.chainOf, VC.look, VC.junk, VC.put, VC.eff, VC.callee, VC.pureB, VC.rdK, VC.rdKs, VC.okKs, VC.eqKs, VC.fillL, VC.putL, VC.stW, VC.stOK, VC.mixF, VC.setAll, Nat.reduceAdd, Nat.reduceSub, Nat.reduceMul, if_true, if_false, ↓reduceIte, forall_const, implies_true, reduceCtorEq, ne_eq, Nat.reduceBNe, Nat.reduceBEq, IntKind.signed, Nat.reduceEqDiff, Nat.reduceLeDiff, Nat.reduceLT, eq_self, Int.reduceEq, Int.reduceLT, Int.reduceLE, Int.reduceAdd, Int.reduceSub, VC.regC_nil, VC.regC_cons, VC.regCK_eq, VC.callQ, VC.tailQ, VC.goCall, VC.chStep]
      refine ⟨⟨by omega, by omega⟩, ?_⟩
      have hcx := Box.new w2 (stL (s.cp x)) 148
      have hBx : Below w2.heap.size w2 (w2.alloc (.cells (stL (s.cp x)).toArray 148)) := (Below.refl _ _).alloc (Nat.le_refl _) _
      change Q _ _ (w2.alloc (.cells (stL (s.cp x)).toArray 148))
      generalize w2.alloc (.cells (stL (s.cp x)).toArray 148) = w3 at hcx hBx ⊢
      have st3 := st2.later hBx
      have hxp : a.pb i ≠ w2.heap.size := by omega
      generalize w2.heap.size = xb at hcx hxp ⊢
      clear st2 hh bo hpl d1 d2 d3 d4 bm hml m0 e0 e1 e2 hBx
      have hh := st3.hp
      have bo := (hh.get 3 rfl : Box w3 (a.pb i) (opC a i o1))
      have hpl := bo.1
      have d1 := bo.at (i := 1) rfl
      have d2 := bo.at (i := 2) rfl
      have d3 := bo.at (i := 3) rfl
      rw [hb1] at d1 d2 d3
      have x0 := hcx.at (i := 0) rfl
      have x1 := hcx.at (i := 1) rfl
      have x2 := hcx.at (i := 2) rfl
      subst hQ; simp -dsimp only [VC.Now, VC.vc_skip, VC.vc_ret, VC.vc_exit, VC.vc_block, VC.vc_cond, VC.vc_region, VC.lib, VC.regQ, VC.loopK, VC.reg, VC.opP, VC.pv, VC.thenF, VC.blkF, VC.retF, VC.resV, VC.oneV, VC.evo, VC.bin, VC.binI, VC.cmpI, VC.arithI, VC.ldv, VC.slv, VC.pickP, VC.holds, VC.chainOf, VC.look, VC.junk, VC.put, VC.eff, VC.callee, VC.pureB, VC.rdK, VC.rdKs, VC.okKs, VC.eqKs, VC.fillL, VC.putL, VC.stW, VC.stOK, VC.mixF, VC.setAll, Nat.reduceAdd, Nat.reduceSub, Nat.reduceMul, if_true, if_false, ↓reduceIte, forall_const, implies_true, reduceCtorEq, ne_eq, Nat.reduceBNe, Nat.reduceBEq, IntKind.signed, Nat.reduceEqDiff, Nat.reduceLeDiff, Nat.reduceLT, eq_self, Int.reduceEq, Int.reduceLT, Int.reduceLE, Int.reduceAdd, Int.reduceSub, VC.regC_nil, VC.regC_cons, VC.regCK_eq, VC.callQ, VC.tailQ, VC.goCall, VC.chStep]; (repeat rw [vc_seq]); refine vc_plain _ fun Q hQ => ?_; simp -dsimp only [Fa.F81, VC.Now, VC.vc_skip, VC.vc_ret, VC.vc_exit, VC.vc_block, VC.vc_cond, VC.vc_region, VC.lib, VC.regQ, VC.loopK, VC.reg, VC.opP, VC.pv, VC.thenF, VC.blkF, VC.retF, VC.resV, VC.oneV, VC.evo, VC.bin, VC.binI, VC.cmpI, VC.arithI, VC.ldv, VC.slv, VC.pickP, VC.holds, VC.chainOf, VC.look, VC.junk, VC.put, VC.eff, VC.callee, VC.pureB, VC.rdK, VC.rdKs, VC.okKs, VC.eqKs, VC.fillL, VC.putL, VC.stW, VC.stOK, VC.mixF, VC.setAll, Nat.reduceAdd, Nat.reduceSub, Nat.reduceMul, if_true, if_false, ↓reduceIte, forall_const, implies_true, reduceCtorEq, ne_eq, Nat.reduceBNe, Nat.reduceBEq, IntKind.signed, Nat.reduceEqDiff, Nat.reduceLeDiff, Nat.reduceLT, eq_self, Int.reduceEq, Int.reduceLT, Int.reduceLE, Int.reduceAdd, Int.reduceSub, VC.regC_nil, VC.regC_cons, VC.regCK_eq, VC.callQ, VC.tailQ, VC.goCall, VC.chStep]
      refine WP_calls Fa.mix (by kernel_rfl) (by kernel_rfl) rfl ?_
      simp -dsimp only [Fa.F81, rdI_of d1, d1, rdI_of d2, d2, rdI_of d3, d3, hpl, rdI_of x0, x0, rdI_of x1, x1, rdI_of x2, x2, VC.Now, VC.vc_skip, VC.vc_ret, VC.vc_exit, VC.vc_block, VC.vc_cond, VC.vc_region, VC.lib, VC.regQ, VC.loopK, VC.reg, VC.opP, VC.pv, VC.thenF, VC.blkF, VC.retF, VC.resV, VC.oneV, VC.evo, VC.bin, VC.binI, VC.cmpI, VC.arithI, VC.ldv, VC.slv, VC.pickP, VC.holds, VC.chainOf, VC.look, VC.junk, VC.put, VC.eff, VC.callee, VC.pureB, VC.rdK, VC.rdKs, VC.okKs, VC.eqKs, VC.fillL, VC.putL, VC.stW, VC.stOK, VC.mixF, VC.setAll, Nat.reduceAdd, Nat.reduceSub, Nat.reduceMul, if_true, if_false, ↓reduceIte, forall_const, implies_true, reduceCtorEq, ne_eq, Nat.reduceBNe, Nat.reduceBEq, IntKind.signed, Nat.reduceEqDiff, Nat.reduceLeDiff, Nat.reduceLT, eq_self, Int.reduceEq, Int.reduceLT, Int.reduceLE, Int.reduceAdd, Int.reduceSub, VC.regC_nil, VC.regC_cons, VC.regCK_eq, VC.callQ, VC.tailQ, VC.goCall, VC.chStep]
      refine CALLQ_of (v := .bool (later (s.cp x) o.b)) (fun _ wr _ => later_any (s.cp x) o.b wr) ?_
      simp -dsimp only [Fa.F81, VC.Now, VC.vc_skip, VC.vc_ret, VC.vc_exit, VC.vc_block, VC.vc_cond, VC.vc_region, VC.lib, VC.regQ, VC.loopK, VC.reg, VC.opP, VC.pv, VC.thenF, VC.blkF, VC.retF, VC.resV, VC.oneV, VC.evo, VC.bin, VC.binI, VC.cmpI, VC.arithI, VC.ldv, VC.slv, VC.pickP, VC.holds, VC.chainOf, VC.look, VC.junk, VC.put, VC.eff, VC.callee, VC.pureB, VC.rdK, VC.rdKs, VC.okKs, VC.eqKs, VC.fillL, VC.putL, VC.stW, VC.stOK, VC.mixF, VC.setAll, Nat.reduceAdd, Nat.reduceSub, Nat.reduceMul, if_true, if_false, ↓reduceIte, forall_const, implies_true, reduceCtorEq, ne_eq, Nat.reduceBNe, Nat.reduceBEq, IntKind.signed, Nat.reduceEqDiff, Nat.reduceLeDiff, Nat.reduceLT, eq_self, Int.reduceEq, Int.reduceLT, Int.reduceLE, Int.reduceAdd, Int.reduceSub, VC.regC_nil, VC.regC_cons, VC.regCK_eq, VC.callQ, VC.tailQ, VC.goCall, VC.chStep]
      intro w4 hw4
      have st4 := st3.later hw4
      replace hcx := hcx.below hw4
      clear st3 hh bo hpl d1 d2 d3 x0 x1 x2 hw4
      have hh := st4.hp
      have bo := (hh.get 3 rfl : Box w4 (a.pb i) (opC a i o1))
      have hpl := bo.1
      cases hlt : later (s.cp x) o.b with
      | true =>
        have h1 : reach1 x s.cp o = { o1 with b := s.cp x } := by unfold reach1; rw [if_pos ⟨hse, hlt⟩, ← ho1]
        have x0 := hcx.at (i := 0) rfl
        have x1 := hcx.at (i := 1) rfl
        have x2 := hcx.at (i := 2) rfl
        have g1 := bo.at (i := 1) rfl
        have g2 := bo.at (i := 2) rfl
        have g3 := bo.at (i := 3) rfl
        have f1 := bo.soft (i := 1) (by show 1 < 7; omega)
        have f2 := bo.soft (i := 2) (by show 2 < 7; omega)
        have f3 := bo.soft (i := 3) (by show 3 < 7; omega)
        subst hQ
        simp -dsimp only [Fa.F81, rdI_of x0, x0, rdI_of x1, x1, rdI_of x2, x2, hpl, g1, g2, g3, f1, f2, f3, VC.Now, VC.vc_skip, VC.vc_ret, VC.vc_exit, VC.vc_block, VC.vc_cond, VC.vc_region, VC.lib, VC.regQ, VC.loopK, VC.reg, VC.opP, VC.pv, VC.thenF, VC.blkF, VC.retF, VC.resV, VC.oneV, VC.evo, VC.bin, VC.binI, VC.cmpI, VC.arithI, VC.ldv, VC.slv, VC.pickP, VC.holds, VC.chainOf, VC.look, VC.junk, VC.put, VC.eff, VC.callee, VC.pureB, VC.rdK, VC.rdKs, VC.okKs, VC.eqKs, VC.fillL, VC.putL, VC.stW, VC.stOK, VC.mixF, VC.setAll, Nat.reduceAdd, Nat.reduceSub, Nat.reduceMul, if_true, if_false, ↓reduceIte, forall_const, implies_true, reduceCtorEq, ne_eq, Nat.reduceBNe, Nat.reduceBEq, IntKind.signed, Nat.reduceEqDiff, Nat.reduceLeDiff, Nat.reduceLT, eq_self, Int.reduceEq, Int.reduceLT, Int.reduceLE, Int.reduceAdd, Int.reduceSub, VC.regC_nil, VC.regC_cons, VC.regCK_eq, VC.callQ, VC.tailQ, VC.goCall, VC.chStep]
        have st5 : St B (Mid n a s i (worldC n a s) s.cp o o) w (Mid n a s i (worldC n a s) s.cp { o1 with b := s.cp x } o) (((w4.setCell ⟨a.pb i, 1, none⟩ (.int .i64 (s.cp x).n)).setCell ⟨a.pb i, 2, none⟩ (.int .i64 (s.cp x).who)).setCell ⟨a.pb i, 3, none⟩ (.int .i64 (s.cp x).val)) :=
          ((st4.trans (st4.hp.setBox 3 rfl 1 (.int .i64 (s.cp x).n))).trans ((st4.hp.setBox 3 rfl 1 (.int .i64 (s.cp x).n)).hp.setBox 3 rfl 2 (.int .i64 (s.cp x).who))).trans (((st4.hp.setBox 3 rfl 1 (.int .i64 (s.cp x).n)).hp.setBox 3 rfl 2 (.int .i64 (s.cp x).who)).hp.setBox 3 rfl 3 (.int .i64 (s.cp x).val))
        generalize (((w4.setCell ⟨a.pb i, 1, none⟩ (.int .i64 (s.cp x).n)).setCell ⟨a.pb i, 2, none⟩ (.int .i64 (s.cp x).who)).setCell ⟨a.pb i, 3, none⟩ (.int .i64 (s.cp x).val)) = w5 at st5 ⊢
        clear st4 hh bo hpl hcx x0 x1 x2 g1 g2 g3 f1 f2 f3
        have hh := st5.hp
        have bo := (hh.get 3 rfl : Box w5 (a.pb i) (opC a i { o1 with b := s.cp x }))
        have hpl := bo.1
        have d0 := bo.at (i := 0) rfl
        have d4 : w5.cell? ⟨a.pb i, 4, none⟩ = some (.bool o1.second) := bo.at (i := 4) rfl
        have d6 : w5.cell? ⟨a.pb i, 6, none⟩ = some (.int .i64 o1.many) := bo.at (i := 6) rfl
        have bm := (hh.get 0 rfl : Box w5 a.mb (worldC n a s))
        have hml := bm.1
        have m0 := bm.at (i := 0) rfl
        have hmany : o1.many = o.many + 1 := by rw [← ho1]
        rw [hmany] at d6
        rw [hsec, hse] at d4
        by_cases q2 : 2 * (o.many + 1) ≤ n
        · have e9 : (2 * ((o.many + 1 : Nat) : Int) ≤ n) = True := eq_true (by omega)
          simp -dsimp only [Fa.F81, rdI_of d6, d6, hpl, rdSA_of m0, rdSN_of m0, rdSC_of m0, m0, hml, e9, VC.Now, VC.vc, VC.lib, VC.regQ, VC.loopK, VC.reg, VC.opP, VC.pv, VC.thenF, VC.blkF, VC.retF, VC.resV, VC.oneV, VC.evo, VC.bin, VC.binI, VC.cmpI, VC.arithI, VC.ldv, VC.slv, VC.pickP, VC.holds, VC.chainOf, VC.look, VC.junk, VC.put, VC.eff, VC.callee, VC.pureB, VC.rdK, VC.rdKs, VC.okKs, VC.eqKs, VC.fillL, VC.putL, VC.stW, VC.stOK, VC.mixF, VC.setAll, Nat.reduceAdd, Nat.reduceSub, Nat.reduceMul, if_true, if_false, ↓reduceIte, forall_const, implies_true, reduceCtorEq, ne_eq, Nat.reduceBNe, Nat.reduceBEq, IntKind.signed, Nat.reduceEqDiff, Nat.reduceLeDiff, Nat.reduceLT, eq_self, Int.reduceEq, Int.reduceLT, Int.reduceLE, Int.reduceAdd, Int.reduceSub, VC.regC_nil, VC.regC_cons, VC.regCK_eq, VC.callQ, VC.tailQ, VC.goCall, VC.chStep]
          refine ⟨fits_i64 (by omega) (by omega), fun m => ?_⟩
          refine GPost.reach (now' := s.now) (cp' := s.cp) (o' := { o1 with b := s.cp x }) hi hop ?_ ?_
          · subst ho1
            exact st5.drewN m
          · unfold rreach
            rw [hop, if_neg q, h1, if_neg (by rw [hse]; decide), if_neg (fun h => by have := h.1; omega)]
            have h2 : reach2 n t { o1 with b := s.cp x } = { o1 with b := s.cp x } := by unfold reach2; rw [if_pos (by show 2 * o1.many ≤ n; rw [hmany]; exact q2)]
            rw [h2]
        · have e9 : (2 * ((o.many + 1 : Nat) : Int) ≤ n) = False := eq_false (by omega)
          (repeat rw [vc_seq]); refine vc_plain _ fun Q hQ => ?_; simp -dsimp only [Fa.F81, rdI_of d6, d6, hpl, rdSA_of m0, rdSN_of m0, rdSC_of m0, m0, hml, e9, VC.Now, VC.vc_skip, VC.vc_ret, VC.vc_exit, VC.vc_block, VC.vc_cond, VC.vc_region, VC.lib, VC.regQ, VC.loopK, VC.reg, VC.opP, VC.pv, VC.thenF, VC.blkF, VC.retF, VC.resV, VC.oneV, VC.evo, VC.bin, VC.binI, VC.cmpI, VC.arithI, VC.ldv, VC.slv, VC.pickP, VC.holds, VC.chainOf, VC.look, VC.junk, VC.put, VC.eff, VC.callee, VC.pureB, VC.rdK, VC.rdKs, VC.okKs, VC.eqKs, VC.fillL, VC.putL, VC.stW, VC.stOK, VC.mixF, VC.setAll, Nat.reduceAdd, Nat.reduceSub, Nat.reduceMul, if_true, if_false, ↓reduceIte, forall_const, implies_true, reduceCtorEq, ne_eq, Nat.reduceBNe, Nat.reduceBEq, IntKind.signed, Nat.reduceEqDiff, Nat.reduceLeDiff, Nat.reduceLT, eq_self, Int.reduceEq, Int.reduceLT, Int.reduceLE, Int.reduceAdd, Int.reduceSub, VC.regC_nil, VC.regC_cons, VC.regCK_eq, VC.callQ, VC.tailQ, VC.goCall, VC.chStep]
          refine ⟨fits_i64 (by omega) (by omega), fun m => ?_⟩
          have st6 := st5.drewN m
          replace d0 : (w5.drewN m).cell? ⟨a.pb i, 0, none⟩ = _ := d0
          replace d4 : (w5.drewN m).cell? ⟨a.pb i, 4, none⟩ = _ := d4
          replace hpl : a.pb i < (w5.drewN m).heap.size := hpl
          generalize w5.drewN m = w6 at st6 d0 d4 hpl ⊢
          clear st5 hh bo bm hml m0 d6
          have hh := st6.hp
          have bo := (hh.get 3 rfl : Box w6 (a.pb i) (opC a i { o1 with b := s.cp x }))
          have k4 : (w6.cell? ⟨a.pb i, 4, none⟩).isSome = true := by rw [d4]; rfl
          have k5 : (w6.cell? ⟨a.pb i, 5, none⟩).isSome = true := by rw [bo.at (i := 5) rfl]; rfl
          have k6 : (w6.cell? ⟨a.pb i, 6, none⟩).isSome = true := by rw [bo.at (i := 6) rfl]; rfl
          have f4 := bo.soft (i := 4) (by show 4 < 7; omega)
          have f5 := bo.soft (i := 5) (by show 5 < 7; omega)
          have f6 := bo.soft (i := 6) (by show 6 < 7; omega)
          subst hQ; simp -dsimp only [VC.Now, VC.vc_skip, VC.vc_ret, VC.vc_exit, VC.vc_block, VC.vc_cond, VC.vc_region, VC.lib, VC.regQ, VC.loopK, VC.reg, VC.opP, VC.pv, VC.thenF, VC.blkF, VC.retF, VC.resV, VC.oneV, VC.evo, VC.bin, VC.binI, VC.cmpI, VC.arithI, VC.ldv, VC.slv, VC.pickP, VC.holds, VC.chainOf, VC.look, VC.junk, VC.put, VC.eff, VC.callee, VC.pureB, VC.rdK, VC.rdKs, VC.okKs, VC.eqKs, VC.fillL, VC.putL, VC.stW, VC.stOK, VC.mixF, VC.setAll, Nat.reduceAdd, Nat.reduceSub, Nat.reduceMul, if_true, if_false, ↓reduceIte, forall_const, implies_true, reduceCtorEq, ne_eq, Nat.reduceBNe, Nat.reduceBEq, IntKind.signed, Nat.reduceEqDiff, Nat.reduceLeDiff, Nat.reduceLT, eq_self, Int.reduceEq, Int.reduceLT, Int.reduceLE, Int.reduceAdd, Int.reduceSub, VC.regC_nil, VC.regC_cons, VC.regCK_eq, VC.callQ, VC.tailQ, VC.goCall, VC.chStep]; (repeat rw [vc_seq]); refine vc_plain _ fun Q hQ => ?_; simp -dsimp only [Fa.F81, rdB_of d4, d4, hpl, VC.Now, VC.vc_skip, VC.vc_ret, VC.vc_exit, VC.vc_block, VC.vc_cond, VC.vc_region, VC.lib, VC.regQ, VC.loopK, VC.reg, VC.opP, VC.pv, VC.thenF, VC.blkF, VC.retF, VC.resV, VC.oneV, VC.evo, VC.bin, VC.binI, VC.cmpI, VC.arithI, VC.ldv, VC.slv, VC.pickP, VC.holds, VC.chainOf, VC.look, VC.junk, VC.put, VC.eff, VC.callee, VC.pureB, VC.rdK, VC.rdKs, VC.okKs, VC.eqKs, VC.fillL, VC.putL, VC.stW, VC.stOK, VC.mixF, VC.setAll, Nat.reduceAdd, Nat.reduceSub, Nat.reduceMul, if_true, if_false, ↓reduceIte, forall_const, implies_true, reduceCtorEq, ne_eq, Nat.reduceBNe, Nat.reduceBEq, IntKind.signed, Nat.reduceEqDiff, Nat.reduceLeDiff, Nat.reduceLT, eq_self, Int.reduceEq, Int.reduceLT, Int.reduceLE, Int.reduceAdd, Int.reduceSub, VC.regC_nil, VC.regC_cons, VC.regCK_eq, VC.callQ, VC.tailQ, VC.goCall, VC.chStep]
          subst hQ
          simp -dsimp only [Fa.F81, VC.Now, VC.vc_skip, VC.vc_ret, VC.vc_exit, VC.vc_block, VC.vc_cond, VC.vc_region, VC.lib, VC.regQ, VC.loopK, VC.reg, VC.opP, VC.pv, VC.thenF, VC.blkF, VC.retF, VC.resV, VC.oneV, VC.evo, VC.bin, VC.binI, VC.cmpI, VC.arithI, VC.ldv, VC.slv, VC.pickP, VC.holds, VC.chainOf, VC.look, VC.junk, VC.put, VC.eff, VC.callee, VC.pureB, VC.rdK, VC.rdKs, VC.okKs, VC.eqKs, VC.fillL, VC.putL, VC.stW, VC.stOK, VC.mixF, VC.setAll, Nat.reduceAdd, Nat.reduceSub, Nat.reduceMul, if_true, if_false, ↓reduceIte, forall_const, implies_true, reduceCtorEq, ne_eq, Nat.reduceBNe, Nat.reduceBEq, IntKind.signed, Nat.reduceEqDiff, Nat.reduceLeDiff, Nat.reduceLT, eq_self, Int.reduceEq, Int.reduceLT, Int.reduceLE, Int.reduceAdd, Int.reduceSub, VC.regC_nil, VC.regC_cons, VC.regCK_eq, VC.callQ, VC.tailQ, VC.goCall, VC.chStep]
          (repeat rw [vc_seq]); refine vc_plain _ fun Q hQ => ?_; simp -dsimp only [Fa.F81, hpl, k4, k5, k6, f4, f5, f6, VC.Now, VC.vc_skip, VC.vc_ret, VC.vc_exit, VC.vc_block, VC.vc_cond, VC.vc_region, VC.lib, VC.regQ, VC.loopK, VC.reg, VC.opP, VC.pv, VC.thenF, VC.blkF, VC.retF, VC.resV, VC.oneV, VC.evo, VC.bin, VC.binI, VC.cmpI, VC.arithI, VC.ldv, VC.slv, VC.pickP, VC.holds, VC.chainOf, VC.look, VC.junk, VC.put, VC.eff, VC.callee, VC.pureB, VC.rdK, VC.rdKs, VC.okKs, VC.eqKs, VC.fillL, VC.putL, VC.stW, VC.stOK, VC.mixF, VC.setAll, Nat.reduceAdd, Nat.reduceSub, Nat.reduceMul, if_true, if_false, ↓reduceIte, forall_const, implies_true, reduceCtorEq, ne_eq, Nat.reduceBNe, Nat.reduceBEq, IntKind.signed, Nat.reduceEqDiff, Nat.reduceLeDiff, Nat.reduceLT, eq_self, Int.reduceEq, Int.reduceLT, Int.reduceLE, Int.reduceAdd, Int.reduceSub, VC.regC_nil, VC.regC_cons, VC.regCK_eq, VC.callQ, VC.tailQ, VC.goCall, VC.chStep]
          have sa := st6.hp.setBox 3 rfl 4 (.bool true)
          have sb := sa.hp.setBox 3 rfl 5 (.int .u32 0)
          have sc := sb.hp.setBox 3 rfl 6 (.int .i64 0)
          have ba := (sa.hp.get 3 rfl : Box (w6.setCell ⟨a.pb i, 4, none⟩ (.bool true)) (a.pb i) _)
          have bb := (sb.hp.get 3 rfl : Box ((w6.setCell ⟨a.pb i, 4, none⟩ (.bool true)).setCell ⟨a.pb i, 5, none⟩ (.int .u32 0)) (a.pb i) _)
          refine ⟨⟨by rw [ba.at (i := 5) rfl]; rfl, ba.soft (i := 5) (by show 5 < 7; omega)⟩, ⟨by rw [bb.at (i := 6) rfl]; rfl, bb.soft (i := 6) (by show 6 < 7; omega)⟩, ?_⟩
          have st7 : St B (Mid n a s i (worldC n a s) s.cp o o) w (Mid n a s i (worldC n a s) s.cp { o1 with b := s.cp x, second := true, seen := 0, many := 0 } o) (((w6.setCell ⟨a.pb i, 4, none⟩ (.bool true)).setCell ⟨a.pb i, 5, none⟩ (.int .u32 0)).setCell ⟨a.pb i, 6, none⟩ (.int .i64 0)) := ((st6.trans sa).trans sb).trans sc
          generalize (((w6.setCell ⟨a.pb i, 4, none⟩ (.bool true)).setCell ⟨a.pb i, 5, none⟩ (.int .u32 0)).setCell ⟨a.pb i, 6, none⟩ (.int .i64 0)) = w7 at st7 ⊢
          clear sa sb sc ba bb st6 hh bo k4 k5 k6 f4 f5 f6 d0 d4 hpl
          have hh := st7.hp
          have bo := (hh.get 3 rfl : Box w7 (a.pb i) (opC a i { o1 with b := s.cp x, second := true, seen := 0, many := 0 }))
          have hpl := bo.1
          have d0 := bo.at (i := 0) rfl
          have ba := (hh.get 4 rfl : Box w7 (a.ab i) (apC o))
          have hal := ba.1
          have a2 := ba.at (i := 2) rfl
          subst hQ; simp -dsimp only [VC.Now, VC.vc_skip, VC.vc_ret, VC.vc_exit, VC.vc_block, VC.vc_cond, VC.vc_region, VC.lib, VC.regQ, VC.loopK, VC.reg, VC.opP, VC.pv, VC.thenF, VC.blkF, VC.retF, VC.resV, VC.oneV, VC.evo, VC.bin, VC.binI, VC.cmpI, VC.arithI, VC.ldv, VC.slv, VC.pickP, VC.holds, VC.chainOf, VC.look, VC.junk, VC.put, VC.eff, VC.callee, VC.pureB, VC.rdK, VC.rdKs, VC.okKs, VC.eqKs, VC.fillL, VC.putL, VC.stW, VC.stOK, VC.mixF, VC.setAll, Nat.reduceAdd, Nat.reduceSub, Nat.reduceMul, if_true, if_false, ↓reduceIte, forall_const, implies_true, reduceCtorEq, ne_eq, Nat.reduceBNe, Nat.reduceBEq, IntKind.signed, Nat.reduceEqDiff, Nat.reduceLeDiff, Nat.reduceLT, eq_self, Int.reduceEq, Int.reduceLT, Int.reduceLE, Int.reduceAdd, Int.reduceSub, VC.regC_nil, VC.regC_cons, VC.regCK_eq, VC.callQ, VC.tailQ, VC.goCall, VC.chStep]; (repeat rw [vc_seq]); refine vc_plain _ fun Q hQ => ?_; simp -dsimp only [Fa.F81, rdP_of d0, d0, hpl, hal, rdB_of a2, a2, VC.Now, VC.vc_skip, VC.vc_ret, VC.vc_exit, VC.vc_block, VC.vc_cond, VC.vc_region, VC.lib, VC.regQ, VC.loopK, VC.reg, VC.opP, VC.pv, VC.thenF, VC.blkF, VC.retF, VC.resV, VC.oneV, VC.evo, VC.bin, VC.binI, VC.cmpI, VC.arithI, VC.ldv, VC.slv, VC.pickP, VC.holds, VC.chainOf, VC.look, VC.junk, VC.put, VC.eff, VC.callee, VC.pureB, VC.rdK, VC.rdKs, VC.okKs, VC.eqKs, VC.fillL, VC.putL, VC.stW, VC.stOK, VC.mixF, VC.setAll, Nat.reduceAdd, Nat.reduceSub, Nat.reduceMul, if_true, if_false, ↓reduceIte, forall_const, implies_true, reduceCtorEq, ne_eq, Nat.reduceBNe, Nat.reduceBEq, IntKind.signed, Nat.reduceEqDiff, Nat.reduceLeDiff, Nat.reduceLT, eq_self, Int.reduceEq, Int.reduceLT, Int.reduceLE, Int.reduceAdd, Int.reduceSub, VC.regC_nil, VC.regC_cons, VC.regCK_eq, VC.callQ, VC.tailQ, VC.goCall, VC.chStep]
          have hw1 : o1.wr = o.wr := by rw [← ho1]
          cases hwr : o.wr with
          | false =>
            rw [hwr] at a2
            subst hQ
            simp -dsimp only [Fa.F81, VC.Now, VC.vc, VC.lib, VC.regQ, VC.loopK, VC.reg, VC.opP, VC.pv, VC.thenF, VC.blkF, VC.retF, VC.resV, VC.oneV, VC.evo, VC.bin, VC.binI, VC.cmpI, VC.arithI, VC.ldv, VC.slv, VC.pickP, VC.holds, VC.chainOf, VC.look, VC.junk, VC.put, VC.eff, VC.callee, VC.pureB, VC.rdK, VC.rdKs, VC.okKs, VC.eqKs, VC.fillL, VC.putL, VC.stW, VC.stOK, VC.mixF, VC.setAll, Nat.reduceAdd, Nat.reduceSub, Nat.reduceMul, if_true, if_false, ↓reduceIte, forall_const, implies_true, reduceCtorEq, ne_eq, Nat.reduceBNe, Nat.reduceBEq, IntKind.signed, Nat.reduceEqDiff, Nat.reduceLeDiff, Nat.reduceLT, eq_self, Int.reduceEq, Int.reduceLT, Int.reduceLE, Int.reduceAdd, Int.reduceSub, VC.regC_nil, VC.regC_cons, VC.regCK_eq, VC.callQ, VC.tailQ, VC.goCall, VC.chStep]
            refine GPost.reach (now' := s.now) (cp' := s.cp) (o' := { o1 with b := s.cp x, second := true, seen := 0, many := 0 }) hi hop ?_ ?_
            · subst ho1
              exact st7
            · unfold rreach
              rw [hop, if_neg q, h1, if_neg (by rw [hse]; decide), if_neg (fun h => by rw [hse] at h; exact absurd h.2 (by decide))]
              have h2 : reach2 n t { o1 with b := s.cp x } = { o1 with b := s.cp x, second := true, seen := 0, many := 0 } := by
                unfold reach2
                rw [if_neg (by show ¬ 2 * o1.many ≤ n; rw [hmany]; exact q2), if_neg (by show ¬ o1.second = true; rw [hsec, hse]; decide), if_neg (by show ¬ o1.wr = true; rw [hw1, hwr]; decide)]
              rw [h2]
          | true =>
            rw [hwr] at a2
            subst hQ
            simp -dsimp only [Fa.F81, VC.Now, VC.vc, VC.lib, VC.regQ, VC.loopK, VC.reg, VC.opP, VC.pv, VC.thenF, VC.blkF, VC.retF, VC.resV, VC.oneV, VC.evo, VC.bin, VC.binI, VC.cmpI, VC.arithI, VC.ldv, VC.slv, VC.pickP, VC.holds, VC.chainOf, VC.look, VC.junk, VC.put, VC.eff, VC.callee, VC.pureB, VC.rdK, VC.rdKs, VC.okKs, VC.eqKs, VC.fillL, VC.putL, VC.stW, VC.stOK, VC.mixF, VC.setAll, Nat.reduceAdd, Nat.reduceSub, Nat.reduceMul, if_true, if_false, ↓reduceIte, forall_const, implies_true, reduceCtorEq, ne_eq, Nat.reduceBNe, Nat.reduceBEq, IntKind.signed, Nat.reduceEqDiff, Nat.reduceLeDiff, Nat.reduceLT, eq_self, Int.reduceEq, Int.reduceLT, Int.reduceLE, Int.reduceAdd, Int.reduceSub, VC.regC_nil, VC.regC_cons, VC.regCK_eq, VC.callQ, VC.tailQ, VC.goCall, VC.chStep]
            have d1 := bo.at (i := 1) rfl
            have a0 := ba.at (i := 0) rfl
            have a3 := ba.at (i := 3) rfl
            have k1 : (w7.cell? ⟨a.pb i, 1, none⟩).isSome = true := by rw [d1]; rfl
            have k2 : (w7.cell? ⟨a.pb i, 2, none⟩).isSome = true := by rw [bo.at (i := 2) rfl]; rfl
            have k3 : (w7.cell? ⟨a.pb i, 3, none⟩).isSome = true := by rw [bo.at (i := 3) rfl]; rfl
            have f1 := bo.soft (i := 1) (by show 1 < 7; omega)
            have f2 := bo.soft (i := 2) (by show 2 < 7; omega)
            have f3 := bo.soft (i := 3) (by show 3 < 7; omega)
            refine WP_held 24 (fun _ => False) (.take 0 (.take 1 (.take 2 (.take 3 (.take 4 (.take 5 (.take 6 (.take 7 (.take 8 (.take 9 (.take 10 (.take 11 (.take 12 (.take 13 (.take 14 (.take 15 (.take 16 (.take 17 (.take 18 (.take 19 (.take 20 (.take 21 (.one 22 (.take 23 (.one 24 .done))))))))))))))))))))))))) Fa.mix (by kernel_rfl) rfl ?_
            simp -dsimp only [VC.heldF_done, VC.heldF_last, VC.planF_done, VC.planF_take, VC.planF_one, VC.planF_two, VC.planK_eq, VC.heldF_take, VC.heldF_one, VC.heldF_two, VC.heldF_twoL, VC.heldK_eq, VC.okRd, Fa.F81, rdP_of d0, d0, rdI_of d1, d1, rdI_of a0, a0, rdI_of a3, a3, hpl, hal, k1, k2, k3, f1, f2, f3, VC.Now, VC.vc, VC.lib, VC.regQ, VC.loopK, VC.reg, VC.opP, VC.pv, VC.thenF, VC.blkF, VC.retF, VC.resV, VC.oneV, VC.evo, VC.bin, VC.binI, VC.cmpI, VC.arithI, VC.ldv, VC.slv, VC.pickP, VC.holds, VC.chainOf, VC.look, VC.junk, VC.put, VC.eff, VC.callee, VC.pureB, VC.rdK, VC.rdKs, VC.okKs, VC.eqKs, VC.fillL, VC.putL, VC.stW, VC.stOK, VC.mixF, VC.setAll, Nat.reduceAdd, Nat.reduceSub, Nat.reduceMul, if_true, if_false, ↓reduceIte, forall_const, implies_true, reduceCtorEq, ne_eq, Nat.reduceBNe, Nat.reduceBEq, IntKind.signed, Nat.reduceEqDiff, Nat.reduceLeDiff, Nat.reduceLT, eq_self, Int.reduceEq, Int.reduceLT, Int.reduceLE, Int.reduceAdd, Int.reduceSub, VC.regC_nil, VC.regC_cons, VC.regCK_eq, VC.callQ, VC.tailQ, VC.goCall, VC.chStep]
            refine ⟨by have hcx := hok.cp x; exact fits_i64 (by have := hcx.1; omega) (by have := hcx.2; omega), Agree.of_below (below_drewN (Below.refl _ w7) 1), ?_⟩
            have hd := st7.drewN 1
            have sa := hd.hp.setBox 3 rfl 1 (.int .i64 ((s.cp x).n + 1))
            have sb := sa.hp.setBox 3 rfl 2 (.int .i64 o.who)
            have sc := sb.hp.setBox 3 rfl 3 (.int .i64 o.val)
            refine GPost.reach (now' := s.now) (cp' := s.cp) (o' := { o1 with b := ⟨(s.cp x).n + 1, o.who, o.val⟩, second := true, seen := 0, many := 0 }) hi hop ?_ ?_
            · subst ho1
              exact ((hd.trans sa).trans sb).trans sc
            · unfold rreach
              rw [hop, if_neg q, h1, if_neg (by rw [hse]; decide), if_neg (fun h => by rw [hse] at h; exact absurd h.2 (by decide))]
              have h2 : reach2 n t { o1 with b := s.cp x } = { o1 with b := ⟨(s.cp x).n + 1, o.who, o.val⟩, second := true, seen := 0, many := 0 } := by
                unfold reach2
                rw [if_neg (by show ¬ 2 * o1.many ≤ n; rw [hmany]; exact q2), if_neg (by show ¬ o1.second = true; rw [hsec, hse]; decide), if_pos (by show o1.wr = true; rw [hw1, hwr])]
                subst ho1
                rfl
              rw [h2]
      | false =>
        have h1 : reach1 x s.cp o = o1 := by unfold reach1; rw [if_neg (by rw [hlt]; simp), ho1]
        subst hQ
        simp -dsimp only [Fa.F81, VC.Now, VC.vc_skip, VC.vc_ret, VC.vc_exit, VC.vc_block, VC.vc_cond, VC.vc_region, VC.lib, VC.regQ, VC.loopK, VC.reg, VC.opP, VC.pv, VC.thenF, VC.blkF, VC.retF, VC.resV, VC.oneV, VC.evo, VC.bin, VC.binI, VC.cmpI, VC.arithI, VC.ldv, VC.slv, VC.pickP, VC.holds, VC.chainOf, VC.look, VC.junk, VC.put, VC.eff, VC.callee, VC.pureB, VC.rdK, VC.rdKs, VC.okKs, VC.eqKs, VC.fillL, VC.putL, VC.stW, VC.stOK, VC.mixF, VC.setAll, Nat.reduceAdd, Nat.reduceSub, Nat.reduceMul, if_true, if_false, ↓reduceIte, forall_const, implies_true, reduceCtorEq, ne_eq, Nat.reduceBNe, Nat.reduceBEq, IntKind.signed, Nat.reduceEqDiff, Nat.reduceLeDiff, Nat.reduceLT, eq_self, Int.reduceEq, Int.reduceLT, Int.reduceLE, Int.reduceAdd, Int.reduceSub, VC.regC_nil, VC.regC_cons, VC.regCK_eq, VC.callQ, VC.tailQ, VC.goCall, VC.chStep]
        have st5 := st4
        generalize w4 = w5 at st5 ⊢
        clear hh bo hpl
        have hh := st5.hp
        have bo := (hh.get 3 rfl : Box w5 (a.pb i) (opC a i o1))
        have hpl := bo.1
        have d0 := bo.at (i := 0) rfl
        have d4 : w5.cell? ⟨a.pb i, 4, none⟩ = some (.bool o1.second) := bo.at (i := 4) rfl
        have d6 : w5.cell? ⟨a.pb i, 6, none⟩ = some (.int .i64 o1.many) := bo.at (i := 6) rfl
        have bm := (hh.get 0 rfl : Box w5 a.mb (worldC n a s))
        have hml := bm.1
        have m0 := bm.at (i := 0) rfl
        have hmany : o1.many = o.many + 1 := by rw [← ho1]
        rw [hmany] at d6
        rw [hsec, hse] at d4
        by_cases q2 : 2 * (o.many + 1) ≤ n
        · have e9 : (2 * ((o.many + 1 : Nat) : Int) ≤ n) = True := eq_true (by omega)
          simp -dsimp only [Fa.F81, rdI_of d6, d6, hpl, rdSA_of m0, rdSN_of m0, rdSC_of m0, m0, hml, e9, VC.Now, VC.vc, VC.lib, VC.regQ, VC.loopK, VC.reg, VC.opP, VC.pv, VC.thenF, VC.blkF, VC.retF, VC.resV, VC.oneV, VC.evo, VC.bin, VC.binI, VC.cmpI, VC.arithI, VC.ldv, VC.slv, VC.pickP, VC.holds, VC.chainOf, VC.look, VC.junk, VC.put, VC.eff, VC.callee, VC.pureB, VC.rdK, VC.rdKs, VC.okKs, VC.eqKs, VC.fillL, VC.putL, VC.stW, VC.stOK, VC.mixF, VC.setAll, Nat.reduceAdd, Nat.reduceSub, Nat.reduceMul, if_true, if_false, ↓reduceIte, forall_const, implies_true, reduceCtorEq, ne_eq, Nat.reduceBNe, Nat.reduceBEq, IntKind.signed, Nat.reduceEqDiff, Nat.reduceLeDiff, Nat.reduceLT, eq_self, Int.reduceEq, Int.reduceLT, Int.reduceLE, Int.reduceAdd, Int.reduceSub, VC.regC_nil, VC.regC_cons, VC.regCK_eq, VC.callQ, VC.tailQ, VC.goCall, VC.chStep]
          refine ⟨fits_i64 (by omega) (by omega), fun m => ?_⟩
          refine GPost.reach (now' := s.now) (cp' := s.cp) (o' := o1) hi hop ?_ ?_
          · subst ho1
            exact st5.drewN m
          · unfold rreach
            rw [hop, if_neg q, h1, if_neg (by rw [hse]; decide), if_neg (fun h => by have := h.1; omega)]
            have h2 : reach2 n t o1 = o1 := by unfold reach2; rw [if_pos (by show 2 * o1.many ≤ n; rw [hmany]; exact q2)]
            rw [h2]
        · have e9 : (2 * ((o.many + 1 : Nat) : Int) ≤ n) = False := eq_false (by omega)
          (repeat rw [vc_seq]); refine vc_plain _ fun Q hQ => ?_; simp -dsimp only [Fa.F81, rdI_of d6, d6, hpl, rdSA_of m0, rdSN_of m0, rdSC_of m0, m0, hml, e9, VC.Now, VC.vc_skip, VC.vc_ret, VC.vc_exit, VC.vc_block, VC.vc_cond, VC.vc_region, VC.lib, VC.regQ, VC.loopK, VC.reg, VC.opP, VC.pv, VC.thenF, VC.blkF, VC.retF, VC.resV, VC.oneV, VC.evo, VC.bin, VC.binI, VC.cmpI, VC.arithI, VC.ldv, VC.slv, VC.pickP, VC.holds, VC.chainOf, VC.look, VC.junk, VC.put, VC.eff, VC.callee, VC.pureB, VC.rdK, VC.rdKs, VC.okKs, VC.eqKs, VC.fillL, VC.putL, VC.stW, VC.stOK, VC.mixF, VC.setAll, Nat.reduceAdd, Nat.reduceSub, Nat.reduceMul, if_true, if_false, ↓reduceIte, forall_const, implies_true, reduceCtorEq, ne_eq, Nat.reduceBNe, Nat.reduceBEq, IntKind.signed, Nat.reduceEqDiff, Nat.reduceLeDiff, Nat.reduceLT, eq_self, Int.reduceEq, Int.reduceLT, Int.reduceLE, Int.reduceAdd, Int.reduceSub, VC.regC_nil, VC.regC_cons, VC.regCK_eq, VC.callQ, VC.tailQ, VC.goCall, VC.chStep]
          refine ⟨fits_i64 (by omega) (by omega), fun m => ?_⟩
          have st6 := st5.drewN m
          replace d0 : (w5.drewN m).cell? ⟨a.pb i, 0, none⟩ = _ := d0
          replace d4 : (w5.drewN m).cell? ⟨a.pb i, 4, none⟩ = _ := d4
          replace hpl : a.pb i < (w5.drewN m).heap.size := hpl
          generalize w5.drewN m = w6 at st6 d0 d4 hpl ⊢
          clear st5 hh bo bm hml m0 d6
          have hh := st6.hp
          have bo := (hh.get 3 rfl : Box w6 (a.pb i) (opC a i o1))
          have k4 : (w6.cell? ⟨a.pb i, 4, none⟩).isSome = true := by rw [d4]; rfl
          have k5 : (w6.cell? ⟨a.pb i, 5, none⟩).isSome = true := by rw [bo.at (i := 5) rfl]; rfl
          have k6 : (w6.cell? ⟨a.pb i, 6, none⟩).isSome = true := by rw [bo.at (i := 6) rfl]; rfl
          have f4 := bo.soft (i := 4) (by show 4 < 7; omega)
          have f5 := bo.soft (i := 5) (by show 5 < 7; omega)
          have f6 := bo.soft (i := 6) (by show 6 < 7; omega)
          subst hQ; simp -dsimp only [VC.Now, VC.vc_skip, VC.vc_ret, VC.vc_exit, VC.vc_block, VC.vc_cond, VC.vc_region, VC.lib, VC.regQ, VC.loopK, VC.reg, VC.opP, VC.pv, VC.thenF, VC.blkF, VC.retF, VC.resV, VC.oneV, VC.evo, VC.bin, VC.binI, VC.cmpI, VC.arithI, VC.ldv, VC.slv, VC.pickP, VC.holds, VC.chainOf, VC.look, VC.junk, VC.put, VC.eff, VC.callee, VC.pureB, VC.rdK, VC.rdKs, VC.okKs, VC.eqKs, VC.fillL, VC.putL, VC.stW, VC.stOK, VC.mixF, VC.setAll, Nat.reduceAdd, Nat.reduceSub, Nat.reduceMul, if_true, if_false, ↓reduceIte, forall_const, implies_true, reduceCtorEq, ne_eq, Nat.reduceBNe, Nat.reduceBEq, IntKind.signed, Nat.reduceEqDiff, Nat.reduceLeDiff, Nat.reduceLT, eq_self, Int.reduceEq, Int.reduceLT, Int.reduceLE, Int.reduceAdd, Int.reduceSub, VC.regC_nil, VC.regC_cons, VC.regCK_eq, VC.callQ, VC.tailQ, VC.goCall, VC.chStep]; (repeat rw [vc_seq]); refine vc_plain _ fun Q hQ => ?_; simp -dsimp only [Fa.F81, rdB_of d4, d4, hpl, VC.Now, VC.vc_skip, VC.vc_ret, VC.vc_exit, VC.vc_block, VC.vc_cond, VC.vc_region, VC.lib, VC.regQ, VC.loopK, VC.reg, VC.opP, VC.pv, VC.thenF, VC.blkF, VC.retF, VC.resV, VC.oneV, VC.evo, VC.bin, VC.binI, VC.cmpI, VC.arithI, VC.ldv, VC.slv, VC.pickP, VC.holds, VC.chainOf, VC.look, VC.junk, VC.put, VC.eff, VC.callee, VC.pureB, VC.rdK, VC.rdKs, VC.okKs, VC.eqKs, VC.fillL, VC.putL, VC.stW, VC.stOK, VC.mixF, VC.setAll, Nat.reduceAdd, Nat.reduceSub, Nat.reduceMul, if_true, if_false, ↓reduceIte, forall_const, implies_true, reduceCtorEq, ne_eq, Nat.reduceBNe, Nat.reduceBEq, IntKind.signed, Nat.reduceEqDiff, Nat.reduceLeDiff, Nat.reduceLT, eq_self, Int.reduceEq, Int.reduceLT, Int.reduceLE, Int.reduceAdd, Int.reduceSub, VC.regC_nil, VC.regC_cons, VC.regCK_eq, VC.callQ, VC.tailQ, VC.goCall, VC.chStep]
          subst hQ
          simp -dsimp only [Fa.F81, VC.Now, VC.vc_skip, VC.vc_ret, VC.vc_exit, VC.vc_block, VC.vc_cond, VC.vc_region, VC.lib, VC.regQ, VC.loopK, VC.reg, VC.opP, VC.pv, VC.thenF, VC.blkF, VC.retF, VC.resV, VC.oneV, VC.evo, VC.bin, VC.binI, VC.cmpI, VC.arithI, VC.ldv, VC.slv, VC.pickP, VC.holds, VC.chainOf, VC.look, VC.junk, VC.put, VC.eff, VC.callee, VC.pureB, VC.rdK, VC.rdKs, VC.okKs, VC.eqKs, VC.fillL, VC.putL, VC.stW, VC.stOK, VC.mixF, VC.setAll, Nat.reduceAdd, Nat.reduceSub, Nat.reduceMul, if_true, if_false, ↓reduceIte, forall_const, implies_true, reduceCtorEq, ne_eq, Nat.reduceBNe, Nat.reduceBEq, IntKind.signed, Nat.reduceEqDiff, Nat.reduceLeDiff, Nat.reduceLT, eq_self, Int.reduceEq, Int.reduceLT, Int.reduceLE, Int.reduceAdd, Int.reduceSub, VC.regC_nil, VC.regC_cons, VC.regCK_eq, VC.callQ, VC.tailQ, VC.goCall, VC.chStep]
          (repeat rw [vc_seq]); refine vc_plain _ fun Q hQ => ?_; simp -dsimp only [Fa.F81, hpl, k4, k5, k6, f4, f5, f6, VC.Now, VC.vc_skip, VC.vc_ret, VC.vc_exit, VC.vc_block, VC.vc_cond, VC.vc_region, VC.lib, VC.regQ, VC.loopK, VC.reg, VC.opP, VC.pv, VC.thenF, VC.blkF, VC.retF, VC.resV, VC.oneV, VC.evo, VC.bin, VC.binI, VC.cmpI, VC.arithI, VC.ldv, VC.slv, VC.pickP, VC.holds, VC.chainOf, VC.look, VC.junk, VC.put, VC.eff, VC.callee, VC.pureB, VC.rdK, VC.rdKs, VC.okKs, VC.eqKs, VC.fillL, VC.putL, VC.stW, VC.stOK, VC.mixF, VC.setAll, Nat.reduceAdd, Nat.reduceSub, Nat.reduceMul, if_true, if_false, ↓reduceIte, forall_const, implies_true, reduceCtorEq, ne_eq, Nat.reduceBNe, Nat.reduceBEq, IntKind.signed, Nat.reduceEqDiff, Nat.reduceLeDiff, Nat.reduceLT, eq_self, Int.reduceEq, Int.reduceLT, Int.reduceLE, Int.reduceAdd, Int.reduceSub, VC.regC_nil, VC.regC_cons, VC.regCK_eq, VC.callQ, VC.tailQ, VC.goCall, VC.chStep]
          have sa := st6.hp.setBox 3 rfl 4 (.bool true)
          have sb := sa.hp.setBox 3 rfl 5 (.int .u32 0)
          have sc := sb.hp.setBox 3 rfl 6 (.int .i64 0)
          have ba := (sa.hp.get 3 rfl : Box (w6.setCell ⟨a.pb i, 4, none⟩ (.bool true)) (a.pb i) _)
          have bb := (sb.hp.get 3 rfl : Box ((w6.setCell ⟨a.pb i, 4, none⟩ (.bool true)).setCell ⟨a.pb i, 5, none⟩ (.int .u32 0)) (a.pb i) _)
          refine ⟨⟨by rw [ba.at (i := 5) rfl]; rfl, ba.soft (i := 5) (by show 5 < 7; omega)⟩, ⟨by rw [bb.at (i := 6) rfl]; rfl, bb.soft (i := 6) (by show 6 < 7; omega)⟩, ?_⟩
          have st7 : St B (Mid n a s i (worldC n a s) s.cp o o) w (Mid n a s i (worldC n a s) s.cp { o1 with second := true, seen := 0, many := 0 } o) (((w6.setCell ⟨a.pb i, 4, none⟩ (.bool true)).setCell ⟨a.pb i, 5, none⟩ (.int .u32 0)).setCell ⟨a.pb i, 6, none⟩ (.int .i64 0)) := ((st6.trans sa).trans sb).trans sc
          generalize (((w6.setCell ⟨a.pb i, 4, none⟩ (.bool true)).setCell ⟨a.pb i, 5, none⟩ (.int .u32 0)).setCell ⟨a.pb i, 6, none⟩ (.int .i64 0)) = w7 at st7 ⊢
          clear sa sb sc ba bb st6 hh bo k4 k5 k6 f4 f5 f6 d0 d4 hpl
          have hh := st7.hp
          have bo := (hh.get 3 rfl : Box w7 (a.pb i) (opC a i { o1 with second := true, seen := 0, many := 0 }))
          have hpl := bo.1
          have d0 := bo.at (i := 0) rfl
          have ba := (hh.get 4 rfl : Box w7 (a.ab i) (apC o))
          have hal := ba.1
          have a2 := ba.at (i := 2) rfl
          subst hQ; simp -dsimp only [VC.Now, VC.vc_skip, VC.vc_ret, VC.vc_exit, VC.vc_block, VC.vc_cond, VC.vc_region, VC.lib, VC.regQ, VC.loopK, VC.reg, VC.opP, VC.pv, VC.thenF, VC.blkF, VC.retF, VC.resV, VC.oneV, VC.evo, VC.bin, VC.binI, VC.cmpI, VC.arithI, VC.ldv, VC.slv, VC.pickP, VC.holds, VC.chainOf, VC.look, VC.junk, VC.put, VC.eff, VC.callee, VC.pureB, VC.rdK, VC.rdKs, VC.okKs, VC.eqKs, VC.fillL, VC.putL, VC.stW, VC.stOK, VC.mixF, VC.setAll, Nat.reduceAdd, Nat.reduceSub, Nat.reduceMul, if_true, if_false, ↓reduceIte, forall_const, implies_true, reduceCtorEq, ne_eq, Nat.reduceBNe, Nat.reduceBEq, IntKind.signed, Nat.reduceEqDiff, Nat.reduceLeDiff, Nat.reduceLT, eq_self, Int.reduceEq, Int.reduceLT, Int.reduceLE, Int.reduceAdd, Int.reduceSub, VC.regC_nil, VC.regC_cons, VC.regCK_eq, VC.callQ, VC.tailQ, VC.goCall, VC.chStep]; (repeat rw [vc_seq]); refine vc_plain _ fun Q hQ => ?_; simp -dsimp only [Fa.F81, rdP_of d0, d0, hpl, hal, rdB_of a2, a2, VC.Now, VC.vc_skip, VC.vc_ret, VC.vc_exit, VC.vc_block, VC.vc_cond, VC.vc_region, VC.lib, VC.regQ, VC.loopK, VC.reg, VC.opP, VC.pv, VC.thenF, VC.blkF, VC.retF, VC.resV, VC.oneV, VC.evo, VC.bin, VC.binI, VC.cmpI, VC.arithI, VC.ldv, VC.slv, VC.pickP, VC.holds, VC.chainOf, VC.look, VC.junk, VC.put, VC.eff, VC.callee, VC.pureB, VC.rdK, VC.rdKs, VC.okKs, VC.eqKs, VC.fillL, VC.putL, VC.stW, VC.stOK, VC.mixF, VC.setAll, Nat.reduceAdd, Nat.reduceSub, Nat.reduceMul, if_true, if_false, ↓reduceIte, forall_const, implies_true, reduceCtorEq, ne_eq, Nat.reduceBNe, Nat.reduceBEq, IntKind.signed, Nat.reduceEqDiff, Nat.reduceLeDiff, Nat.reduceLT, eq_self, Int.reduceEq, Int.reduceLT, Int.reduceLE, Int.reduceAdd, Int.reduceSub, VC.regC_nil, VC.regC_cons, VC.regCK_eq, VC.callQ, VC.tailQ, VC.goCall, VC.chStep]
          have hw1 : o1.wr = o.wr := by rw [← ho1]
          cases hwr : o.wr with
          | false =>
            rw [hwr] at a2
            subst hQ
            simp -dsimp only [Fa.F81, VC.Now, VC.vc, VC.lib, VC.regQ, VC.loopK, VC.reg, VC.opP, VC.pv, VC.thenF, VC.blkF, VC.retF, VC.resV, VC.oneV, VC.evo, VC.bin, VC.binI, VC.cmpI, VC.arithI, VC.ldv, VC.slv, VC.pickP, VC.holds, VC.chainOf, VC.look, VC.junk, VC.put, VC.eff, VC.callee, VC.pureB, VC.rdK, VC.rdKs, VC.okKs, VC.eqKs, VC.fillL, VC.putL, VC.stW, VC.stOK, VC.mixF, VC.setAll, Nat.reduceAdd, Nat.reduceSub, Nat.reduceMul, if_true, if_false, ↓reduceIte, forall_const, implies_true, reduceCtorEq, ne_eq, Nat.reduceBNe, Nat.reduceBEq, IntKind.signed, Nat.reduceEqDiff, Nat.reduceLeDiff, Nat.reduceLT, eq_self, Int.reduceEq, Int.reduceLT, Int.reduceLE, Int.reduceAdd, Int.reduceSub, VC.regC_nil, VC.regC_cons, VC.regCK_eq, VC.callQ, VC.tailQ, VC.goCall, VC.chStep]
            refine GPost.reach (now' := s.now) (cp' := s.cp) (o' := { o1 with second := true, seen := 0, many := 0 }) hi hop ?_ ?_
            · subst ho1
              exact st7
            · unfold rreach
              rw [hop, if_neg q, h1, if_neg (by rw [hse]; decide), if_neg (fun h => by rw [hse] at h; exact absurd h.2 (by decide))]
              have h2 : reach2 n t o1 = { o1 with second := true, seen := 0, many := 0 } := by
                unfold reach2
                rw [if_neg (by show ¬ 2 * o1.many ≤ n; rw [hmany]; exact q2), if_neg (by show ¬ o1.second = true; rw [hsec, hse]; decide), if_neg (by show ¬ o1.wr = true; rw [hw1, hwr]; decide)]
              rw [h2]
          | true =>
            rw [hwr] at a2
            subst hQ
            simp -dsimp only [Fa.F81, VC.Now, VC.vc, VC.lib, VC.regQ, VC.loopK, VC.reg, VC.opP, VC.pv, VC.thenF, VC.blkF, VC.retF, VC.resV, VC.oneV, VC.evo, VC.bin, VC.binI, VC.cmpI, VC.arithI, VC.ldv, VC.slv, VC.pickP, VC.holds, VC.chainOf, VC.look, VC.junk, VC.put, VC.eff, VC.callee, VC.pureB, VC.rdK, VC.rdKs, VC.okKs, VC.eqKs, VC.fillL, VC.putL, VC.stW, VC.stOK, VC.mixF, VC.setAll, Nat.reduceAdd, Nat.reduceSub, Nat.reduceMul, if_true, if_false, ↓reduceIte, forall_const, implies_true, reduceCtorEq, ne_eq, Nat.reduceBNe, Nat.reduceBEq, IntKind.signed, Nat.reduceEqDiff, Nat.reduceLeDiff, Nat.reduceLT, eq_self, Int.reduceEq, Int.reduceLT, Int.reduceLE, Int.reduceAdd, Int.reduceSub, VC.regC_nil, VC.regC_cons, VC.regCK_eq, VC.callQ, VC.tailQ, VC.goCall, VC.chStep]
            have d1 := bo.at (i := 1) rfl
            have a0 := ba.at (i := 0) rfl
            have a3 := ba.at (i := 3) rfl
            have k1 : (w7.cell? ⟨a.pb i, 1, none⟩).isSome = true := by rw [d1]; rfl
            have k2 : (w7.cell? ⟨a.pb i, 2, none⟩).isSome = true := by rw [bo.at (i := 2) rfl]; rfl
            have k3 : (w7.cell? ⟨a.pb i, 3, none⟩).isSome = true := by rw [bo.at (i := 3) rfl]; rfl
            have f1 := bo.soft (i := 1) (by show 1 < 7; omega)
            have f2 := bo.soft (i := 2) (by show 2 < 7; omega)
            have f3 := bo.soft (i := 3) (by show 3 < 7; omega)
            refine WP_held 24 (fun _ => False) (.take 0 (.take 1 (.take 2 (.take 3 (.take 4 (.take 5 (.take 6 (.take 7 (.take 8 (.take 9 (.take 10 (.take 11 (.take 12 (.take 13 (.take 14 (.take 15 (.take 16 (.take 17 (.take 18 (.take 19 (.take 20 (.take 21 (.one 22 (.take 23 (.one 24 .done))))))))))))))))))))))))) Fa.mix (by kernel_rfl) rfl ?_
            simp -dsimp only [VC.heldF_done, VC.heldF_last, VC.planF_done, VC.planF_take, VC.planF_one, VC.planF_two, VC.planK_eq, VC.heldF_take, VC.heldF_one, VC.heldF_two, VC.heldF_twoL, VC.heldK_eq, VC.okRd, Fa.F81, rdP_of d0, d0, rdI_of d1, d1, rdI_of a0, a0, rdI_of a3, a3, hpl, hal, k1, k2, k3, f1, f2, f3, VC.Now, VC.vc, VC.lib, VC.regQ, VC.loopK, VC.reg, VC.opP, VC.pv, VC.thenF, VC.blkF, VC.retF, VC.resV, VC.oneV, VC.evo, VC.bin, VC.binI, VC.cmpI, VC.arithI, VC.ldv, VC.slv, VC.pickP, VC.holds, VC.chainOf, VC.look, VC.junk, VC.put, VC.eff, VC.callee, VC.pureB, VC.rdK, VC.rdKs, VC.okKs, VC.eqKs, VC.fillL, VC.putL, VC.stW, VC.stOK, VC.mixF, VC.setAll, Nat.reduceAdd, Nat.reduceSub, Nat.reduceMul, if_true, if_false, ↓reduceIte, forall_const, implies_true, reduceCtorEq, ne_eq, Nat.reduceBNe, Nat.reduceBEq, IntKind.signed, Nat.reduceEqDiff, Nat.reduceLeDiff, Nat.reduceLT, eq_self, Int.reduceEq, Int.reduceLT, Int.reduceLE, Int.reduceAdd, Int.reduceSub, VC.regC_nil, VC.regC_cons, VC.regCK_eq, VC.callQ, VC.tailQ, VC.goCall, VC.chStep]
            refine ⟨by rw [hb1]; exact fits_i64 (by have := ho.b.1; omega) (by have := ho.b.2; omega), Agree.of_below (below_drewN (Below.refl _ w7) 1), ?_⟩
            have hd := st7.drewN 1
            have sa := hd.hp.setBox 3 rfl 1 (.int .i64 (o1.b.n + 1))
            have sb := sa.hp.setBox 3 rfl 2 (.int .i64 o.who)
            have sc := sb.hp.setBox 3 rfl 3 (.int .i64 o.val)
            refine GPost.reach (now' := s.now) (cp' := s.cp) (o' := { o1 with b := ⟨o1.b.n + 1, o.who, o.val⟩, second := true, seen := 0, many := 0 }) hi hop ?_ ?_
            · subst ho1
              exact ((hd.trans sa).trans sb).trans sc
            · unfold rreach
              rw [hop, if_neg q, h1, if_neg (by rw [hse]; decide), if_neg (fun h => by rw [hse] at h; exact absurd h.2 (by decide))]
              have h2 : reach2 n t o1 = { o1 with b := ⟨o1.b.n + 1, o.who, o.val⟩, second := true, seen := 0, many := 0 } := by
                unfold reach2
                rw [if_neg (by show ¬ 2 * o1.many ≤ n; rw [hmany]; exact q2), if_neg (by show ¬ o1.second = true; rw [hsec, hse]; decide), if_pos (by show o1.wr = true; rw [hw1, hwr])]
                subst ho1
                rfl
              rw [h2]
end
end Go.Proofs.Ytnggjekppdlaoaa
