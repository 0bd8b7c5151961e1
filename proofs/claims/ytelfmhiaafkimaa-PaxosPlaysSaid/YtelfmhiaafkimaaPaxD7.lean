/- A choice, the document's: a step that is to be taken, its beginning. -/
import Derived.Test.YtelfmhiaafkimaaPaxD4
namespace Go.Proofs.Ytelfmhiaafkimaa
open Go Go.RowKit Go.VC
set_option linter.unusedSimpArgs false
set_option linter.unusedVariables false

set_option maxRecDepth 8000 in
set_option maxHeartbeats 16000000 in
noncomputable def dtakeBut : { P : Prop // P → ∀ (B n t : Nat) (a : PD) (s : PS) (V T : List Vow) (w : World), Hp B (PDObs n a (begL s) V T s.fixd) w → PRel n t s V T → POK n t s → t ≤ 120 → n ≤ 5 → ∀ c : TryC, fits .i64 c.ballot → c.kind = 3 →
    Calls Try.prog 47 #[ptrV a.mb, tryV c] w (PDPost B n t a s V T w (pstep n c s)) } := by
  refine ⟨?P3 ∧ True, fun HH B n t a s V T w h hd hok ht hn c hc hk3 => ?body⟩
  case body =>
    have e1 : (c.kind = 1) = False := eq_false (by omega)
    have e2 : (c.kind = 2) = False := eq_false (by omega)
    have e3 := eq_true hk3
    have x0 := Box.new w (tryL c) 107
    have hB0 : Below w.heap.size w (w.alloc (.cells (tryL c).toArray 107)) := (Below.refl _ _).alloc (Nat.le_refl _) _
    refine calls_vc (rs := [.tmp 4, .tmp 5]) Fa.mix Try.func47 rfl Try.ntmps47 rfl (by kernel_rfl) (Nat.le_of_ble_eq_true rfl) ?_
    (repeat rw [vc_seq]); refine vc_plain _ fun Q hQ => ?_; simp -dsimp only [Fa.F47, VC.Now, VC.vc_skip, VC.vc_ret, VC.vc_exit, VC.vc_block, VC.vc_cond, VC.vc_region, VC.lib, VC.mapN_drewN, VC.mapB_drewN, VC.regQ, VC.loopK, VC.reg, VC.opP, VC.pv, VC.thenF, VC.blkF, VC.retF, VC.resV, VC.oneV, VC.evo, VC.bin, VC.binI, VC.cmpI, VC.arithI, VC.ldv, VC.slv, VC.pickP, VC.holds, VC.chainOf, VC.look, VC.junk, VC.put, VC.eff, VC.callee, VC.pureB, VC.rdK, VC.rdKs, VC.okKs, VC.eqKs, VC.fillL, VC.putL, VC.stW, VC.stOK, VC.mixF, VC.setAll, Nat.reduceAdd, Nat.reduceSub, Nat.reduceMul, if_true, if_false, ↓reduceIte, forall_const, implies_true, reduceCtorEq, ne_eq, Nat.reduceBNe, Nat.reduceBEq, IntKind.signed, Nat.reduceEqDiff, Nat.reduceLeDiff, Nat.reduceLT, eq_self, Int.reduceEq, Int.reduceLT, Int.reduceLE, Int.reduceAdd, Int.reduceSub, VC.regC_nil, VC.regC_cons, VC.regCK_eq, VC.callQ, VC.tailQ, VC.goCall, VC.chStep]
    change Q _ _ (w.alloc (.cells (tryL c).toArray 107))
    have hsz : (w.alloc (.cells (tryL c).toArray 107)).heap.size = w.heap.size + 1 := by simp
    generalize w.alloc (.cells (tryL c).toArray 107) = w1 at x0 hB0 hsz ⊢
    generalize hsb : w.heap.size = sb at x0 hsz ⊢
    have h1 := h.below hB0
    have z0 := x0.at (i := 0) rfl
    have z1 := x0.at (i := 1) rfl
    have z2 := x0.at (i := 2) rfl
    have z3 := x0.at (i := 3) rfl
    have hxl := x0.1
    have q0 : ¬ (c.kind < 1 ∨ 3 < c.kind) := by omega
    subst hQ; simp -dsimp only [VC.Now, VC.vc_skip, VC.vc_ret, VC.vc_exit, VC.vc_block, VC.vc_cond, VC.vc_region, VC.lib, VC.mapN_drewN, VC.mapB_drewN, VC.regQ, VC.loopK, VC.reg, VC.opP, VC.pv, VC.thenF, VC.blkF, VC.retF, VC.resV, VC.oneV, VC.evo, VC.bin, VC.binI, VC.cmpI, VC.arithI, VC.ldv, VC.slv, VC.pickP, VC.holds, VC.chainOf, VC.look, VC.junk, VC.put, VC.eff, VC.callee, VC.pureB, VC.rdK, VC.rdKs, VC.okKs, VC.eqKs, VC.fillL, VC.putL, VC.stW, VC.stOK, VC.mixF, VC.setAll, Nat.reduceAdd, Nat.reduceSub, Nat.reduceMul, if_true, if_false, ↓reduceIte, forall_const, implies_true, reduceCtorEq, ne_eq, Nat.reduceBNe, Nat.reduceBEq, IntKind.signed, Nat.reduceEqDiff, Nat.reduceLeDiff, Nat.reduceLT, eq_self, Int.reduceEq, Int.reduceLT, Int.reduceLE, Int.reduceAdd, Int.reduceSub, VC.regC_nil, VC.regC_cons, VC.regCK_eq, VC.callQ, VC.tailQ, VC.goCall, VC.chStep]; (repeat rw [vc_seq]); refine vc_plain _ fun Q hQ => ?_; simp -dsimp only [Fa.F47, rdI_of z0, z0, e1, e2, e3, undef, tu, uf, ul, ur, VC.Now, VC.vc_skip, VC.vc_ret, VC.vc_exit, VC.vc_block, VC.vc_cond, VC.vc_region, VC.lib, VC.mapN_drewN, VC.mapB_drewN, VC.regQ, VC.loopK, VC.reg, VC.opP, VC.pv, VC.thenF, VC.blkF, VC.retF, VC.resV, VC.oneV, VC.evo, VC.bin, VC.binI, VC.cmpI, VC.arithI, VC.ldv, VC.slv, VC.pickP, VC.holds, VC.chainOf, VC.look, VC.junk, VC.put, VC.eff, VC.callee, VC.pureB, VC.rdK, VC.rdKs, VC.okKs, VC.eqKs, VC.fillL, VC.putL, VC.stW, VC.stOK, VC.mixF, VC.setAll, Nat.reduceAdd, Nat.reduceSub, Nat.reduceMul, if_true, if_false, ↓reduceIte, forall_const, implies_true, reduceCtorEq, ne_eq, Nat.reduceBNe, Nat.reduceBEq, IntKind.signed, Nat.reduceEqDiff, Nat.reduceLeDiff, Nat.reduceLT, eq_self, Int.reduceEq, Int.reduceLT, Int.reduceLE, Int.reduceAdd, Int.reduceSub, VC.regC_nil, VC.regC_cons, VC.regCK_eq, VC.callQ, VC.tailQ, VC.goCall, VC.chStep]
    intro u
    subst hQ
    simp -dsimp only [Fa.F47, VC.Now, VC.vc_skip, VC.vc_ret, VC.vc_exit, VC.vc_block, VC.vc_cond, VC.vc_region, VC.lib, VC.mapN_drewN, VC.mapB_drewN, VC.regQ, VC.loopK, VC.reg, VC.opP, VC.pv, VC.thenF, VC.blkF, VC.retF, VC.resV, VC.oneV, VC.evo, VC.bin, VC.binI, VC.cmpI, VC.arithI, VC.ldv, VC.slv, VC.pickP, VC.holds, VC.chainOf, VC.look, VC.junk, VC.put, VC.eff, VC.callee, VC.pureB, VC.rdK, VC.rdKs, VC.okKs, VC.eqKs, VC.fillL, VC.putL, VC.stW, VC.stOK, VC.mixF, VC.setAll, Nat.reduceAdd, Nat.reduceSub, Nat.reduceMul, if_true, if_false, ↓reduceIte, forall_const, implies_true, reduceCtorEq, ne_eq, Nat.reduceBNe, Nat.reduceBEq, IntKind.signed, Nat.reduceEqDiff, Nat.reduceLeDiff, Nat.reduceLT, eq_self, Int.reduceEq, Int.reduceLT, Int.reduceLE, Int.reduceAdd, Int.reduceSub, VC.regC_nil, VC.regC_cons, VC.regCK_eq, VC.callQ, VC.tailQ, VC.goCall, VC.chStep]
    (repeat rw [vc_seq]); refine vc_plain _ fun Q hQ => ?_; simp -dsimp only [Fa.F47, VC.Now, VC.vc_skip, VC.vc_ret, VC.vc_exit, VC.vc_block, VC.vc_cond, VC.vc_region, VC.lib, VC.mapN_drewN, VC.mapB_drewN, VC.regQ, VC.loopK, VC.reg, VC.opP, VC.pv, VC.thenF, VC.blkF, VC.retF, VC.resV, VC.oneV, VC.evo, VC.bin, VC.binI, VC.cmpI, VC.arithI, VC.ldv, VC.slv, VC.pickP, VC.holds, VC.chainOf, VC.look, VC.junk, VC.put, VC.eff, VC.callee, VC.pureB, VC.rdK, VC.rdKs, VC.okKs, VC.eqKs, VC.fillL, VC.putL, VC.stW, VC.stOK, VC.mixF, VC.setAll, Nat.reduceAdd, Nat.reduceSub, Nat.reduceMul, if_true, if_false, ↓reduceIte, forall_const, implies_true, reduceCtorEq, ne_eq, Nat.reduceBNe, Nat.reduceBEq, IntKind.signed, Nat.reduceEqDiff, Nat.reduceLeDiff, Nat.reduceLT, eq_self, Int.reduceEq, Int.reduceLT, Int.reduceLE, Int.reduceAdd, Int.reduceSub, VC.regC_nil, VC.regC_cons, VC.regCK_eq, VC.callQ, VC.tailQ, VC.goCall, VC.chStep]
    have bm : Box w1 a.mb (paxC n a) := h1.get 0 rfl
    have m1 := bm.at (i := 1) rfl
    have hml := bm.1
    obtain ⟨Ab, cb, eb, _⟩ := id (h1.get 1 rfl : OwnK w1 0 117 2 (begL s).length a.vb _)
    rw [eb] at m1
    have hob := (h1.get 1 rfl : OwnK w1 0 117 2 (begL s).length a.vb _)
    rw [eb] at hob
    have hbl := begL_length s
    have hkk := hok.k
    have hrb := RdT.ownL hob (fun _ => rfl) bal0
    refine (fun hrest : (∀ (ob : Nat) (w2 : World), Below w1.heap.size w1 w2 → Box w2 ob (bL ((ofL (begL s) c.ballot).getD bal0)) → sb < ob → Q Exit.normal ((?F3 : Nat → Array Value) ob) w2) => ?main) ?rest
    case main =>
      refine WP_held 99 (fun j => w1.heap.size ≤ j) (.take 0 (.take 1 (.take 2 (.take 3 (.take 4 (.take 5 (.two 6 (.take 7 (.take 8 (.take 9 (.one 10 (.one 11 (.take 12 .done)))))) 10 (.one 6 (.take 7 (.take 8 (.take 9 (.one 11 (.take 12 .done))))))))))))) Fa.mix (by kernel_rfl) rfl ?_
      simp -dsimp only [VC.heldF_done, VC.heldF_last, VC.planF_done, VC.planF_take, VC.planF_one, VC.planF_two, VC.planK_eq, VC.heldF_take, VC.heldF_one, VC.heldF_two, VC.heldF_twoL, VC.heldK_eq, VC.okRd, Fa.F47, rdI_of z1, z1, rdSA_of m1, rdSN_of m1, rdSC_of m1, m1, hml, hxl, VC.Now, VC.vc, VC.lib, VC.mapN_drewN, VC.mapB_drewN, VC.regQ, VC.loopK, VC.reg, VC.opP, VC.pv, VC.thenF, VC.blkF, VC.retF, VC.resV, VC.oneV, VC.evo, VC.bin, VC.binI, VC.cmpI, VC.arithI, VC.ldv, VC.slv, VC.pickP, VC.holds, VC.chainOf, VC.look, VC.junk, VC.put, VC.eff, VC.callee, VC.pureB, VC.rdK, VC.rdKs, VC.okKs, VC.eqKs, VC.fillL, VC.putL, VC.stW, VC.stOK, VC.mixF, VC.setAll, Nat.reduceAdd, Nat.reduceSub, Nat.reduceMul, if_true, if_false, ↓reduceIte, forall_const, implies_true, reduceCtorEq, ne_eq, Nat.reduceBNe, Nat.reduceBEq, IntKind.signed, Nat.reduceEqDiff, Nat.reduceLeDiff, Nat.reduceLT, eq_self, Int.reduceEq, Int.reduceLT, Int.reduceLE, Int.reduceAdd, Int.reduceSub, VC.regC_nil, VC.regC_cons, VC.regCK_eq, VC.callQ, VC.tailQ, VC.goCall, VC.chStep]
      have hd1 : Below w1.heap.size w1 (w1.drewN 1) := below_drewN (Below.refl _ w1) 1
      refine ⟨by omega, by omega, ?_, ?_, ?_⟩
      · refine CALL_by (of_any (c := cb) (hrb.below hd1) (by omega) c.ballot) fun e w2 hp => ⟨_, hp.1, ?_⟩
        have hB2 : Below w1.heap.size w1 w2 := hd1.trans hp.2
        have agB := Agree.of_below (X := fun j => w1.heap.size ≤ j) hB2
        clear hp
        rw [VC.Now]
        simp -dsimp only [VC.heldF_done, VC.heldF_last, VC.planF_done, VC.planF_take, VC.planF_one, VC.planF_two, VC.planK_eq, VC.heldF_take, VC.heldF_one, VC.heldF_two, VC.heldF_twoL, VC.heldK_eq, VC.okRd, Fa.F47, rdI_of z1, z1, rdSA_of m1, rdSN_of m1, rdSC_of m1, m1, hml, hxl, VC.Now, VC.vc, VC.lib, VC.mapN_drewN, VC.mapB_drewN, VC.regQ, VC.loopK, VC.reg, VC.opP, VC.pv, VC.thenF, VC.blkF, VC.retF, VC.resV, VC.oneV, VC.evo, VC.bin, VC.binI, VC.cmpI, VC.arithI, VC.ldv, VC.slv, VC.pickP, VC.holds, VC.chainOf, VC.look, VC.junk, VC.put, VC.eff, VC.callee, VC.pureB, VC.rdK, VC.rdKs, VC.okKs, VC.eqKs, VC.fillL, VC.putL, VC.stW, VC.stOK, VC.mixF, VC.setAll, Nat.reduceAdd, Nat.reduceSub, Nat.reduceMul, if_true, if_false, ↓reduceIte, forall_const, implies_true, reduceCtorEq, ne_eq, Nat.reduceBNe, Nat.reduceBEq, IntKind.signed, Nat.reduceEqDiff, Nat.reduceLeDiff, Nat.reduceLT, eq_self, Int.reduceEq, Int.reduceLT, Int.reduceLE, Int.reduceAdd, Int.reduceSub, VC.regC_nil, VC.regC_cons, VC.regCK_eq, VC.callQ, VC.tailQ, VC.goCall, VC.chStep]
        have hnb := Box.new w2 (bL ((ofL (begL s) c.ballot).getD bal0)) 117
        have hB3 : Below w1.heap.size w1 (w2.alloc (.cells (bL ((ofL (begL s) c.ballot).getD bal0)).toArray 117)) := hB2.alloc hB2.size _
        refine ⟨agB, Agree.of_below (hB2.alloc hB2.size _), Agree.of_below hB3, ?_⟩
        change Q _ _ (w2.alloc (.cells (bL ((ofL (begL s) c.ballot).getD bal0)).toArray 117))
        have hlt2 := hB2.size
        generalize w2.alloc (.cells (bL ((ofL (begL s) c.ballot).getD bal0)).toArray 117) = w3 at hnb hB3 ⊢
        generalize w2.heap.size = ob at hnb hlt2 ⊢
        exact hrest ob w3 hB3 hnb (by omega)
      · exact Agree.of_below (hd1.alloc (Nat.le_refl _) _)
      · have hd2 : Below w1.heap.size w1 ((w1.drewN 1).alloc (.cells #[Value.int IntKind.i64 0, Value.int IntKind.i64 0] 117)) := hd1.alloc (Nat.le_refl _) _
        have hnb := Box.new (w1.drewN 1) [Value.int IntKind.i64 0, Value.int IntKind.i64 0] 117
        change Box ((w1.drewN 1).alloc (.cells #[Value.int IntKind.i64 0, Value.int IntKind.i64 0] 117)) _ _ at hnb
        have hzz : (w1.drewN 1).heap.size = w1.heap.size := rfl
        rw [hzz] at hnb
        generalize (w1.drewN 1).alloc (.cells #[Value.int IntKind.i64 0, Value.int IntKind.i64 0] 117) = w2 at hd2 hnb ⊢
        refine CALL_by (of_any (c := cb) (hrb.below hd2) (by omega) c.ballot) fun e w3 hp => ⟨_, hp.1, ?_⟩
        have hB2 : Below w1.heap.size w1 w3 := hd2.trans (hp.2.mono hd2.size)
        have agB := Agree.of_below (X := fun j => w1.heap.size ≤ j) hB2
        replace hnb := hnb.below hp.2
        clear hp
        rw [VC.Now]
        have g0 := hnb.at (i := 0) rfl
        have g1 := hnb.at (i := 1) rfl
        have f0 := hnb.soft (i := 0) (by show 0 < 2; omega)
        have f1 := hnb.soft (i := 1) (by show 1 < 2; omega)
        simp -dsimp only [VC.heldF_done, VC.heldF_last, VC.planF_done, VC.planF_take, VC.planF_one, VC.planF_two, VC.planK_eq, VC.heldF_take, VC.heldF_one, VC.heldF_two, VC.heldF_twoL, VC.heldK_eq, VC.okRd, Fa.F47, rdI_of z1, z1, rdSA_of m1, rdSN_of m1, rdSC_of m1, m1, hml, hxl, g0, g1, f0, f1, VC.Now, VC.vc, VC.lib, VC.mapN_drewN, VC.mapB_drewN, VC.regQ, VC.loopK, VC.reg, VC.opP, VC.pv, VC.thenF, VC.blkF, VC.retF, VC.resV, VC.oneV, VC.evo, VC.bin, VC.binI, VC.cmpI, VC.arithI, VC.ldv, VC.slv, VC.pickP, VC.holds, VC.chainOf, VC.look, VC.junk, VC.put, VC.eff, VC.callee, VC.pureB, VC.rdK, VC.rdKs, VC.okKs, VC.eqKs, VC.fillL, VC.putL, VC.stW, VC.stOK, VC.mixF, VC.setAll, Nat.reduceAdd, Nat.reduceSub, Nat.reduceMul, if_true, if_false, ↓reduceIte, forall_const, implies_true, reduceCtorEq, ne_eq, Nat.reduceBNe, Nat.reduceBEq, IntKind.signed, Nat.reduceEqDiff, Nat.reduceLeDiff, Nat.reduceLT, eq_self, Int.reduceEq, Int.reduceLT, Int.reduceLE, Int.reduceAdd, Int.reduceSub, VC.regC_nil, VC.regC_cons, VC.regCK_eq, VC.callQ, VC.tailQ, VC.goCall, VC.chStep]
        have hb2 := (hnb.set 0 (.int .i64 ((ofL (begL s) c.ballot).getD bal0).n)).set 1 (.int .i64 ((ofL (begL s) c.ballot).getD bal0).v)
        have hB4 : Below w1.heap.size w1 ((w3.setCell ⟨w1.heap.size, 0, none⟩ (.int .i64 ((ofL (begL s) c.ballot).getD bal0).n)).setCell ⟨w1.heap.size, 1, none⟩ (.int .i64 ((ofL (begL s) c.ballot).getD bal0).v)) := (hB2.setCell (p := ⟨w1.heap.size, 0, none⟩) (Nat.le_refl _) _).setCell (p := ⟨w1.heap.size, 1, none⟩) (Nat.le_refl _) _
        refine ⟨agB, Agree.of_below hB4, ?_⟩
        have hlt1 : sb < w1.heap.size := hxl
        generalize (w3.setCell ⟨w1.heap.size, 0, none⟩ (.int .i64 ((ofL (begL s) c.ballot).getD bal0).n)).setCell ⟨w1.heap.size, 1, none⟩ (.int .i64 ((ofL (begL s) c.ballot).getD bal0).v) = w4 at hb2 hB4 ⊢
        exact hrest w1.heap.size w4 hB4 hb2 hlt1
    clear hrb hob m1
    intro ob w2 hB2 hob hlo
    have hB := hB0.trans (hB2.mono (by omega))
    have h2 := h1.below hB2
    replace x0 := x0.below hB2
    clear hB2 z0 z1 z2 z3 hxl h1 bm hml hB0
    have z0 := x0.at (i := 0) rfl
    have z1 := x0.at (i := 1) rfl
    have z2 := x0.at (i := 2) rfl
    have z3 := x0.at (i := 3) rfl
    have hxl := x0.1
    have bm : Box w2 a.mb (paxC n a) := h2.get 0 rfl
    have m0 := bm.at (i := 0) rfl
    have hml := bm.1
    rw [begL_of hok] at hob ⊢
    generalize hpx : pidx s.num c.ballot s.k = px at hob ⊢
    by_cases q1 : c.ballot < 1 ∨ 1000 < c.ballot
    · have hr : pstep n c s = (2, s) := by unfold pstep; rw [if_neg q0, if_pos q1]
      subst hQ
      by_cases q2 : c.ballot < 1
      · have e4 := eq_true q2
        simp -dsimp only [Fa.F47, rdI_of z0, z0, rdI_of z1, z1, rdI_of z2, z2, rdI_of m0, m0, hxl, hml, e1, e2, e3, e4, undef, tu, uf, ul, ur, VC.Now, VC.vc, VC.lib, VC.mapN_drewN, VC.mapB_drewN, VC.regQ, VC.loopK, VC.reg, VC.opP, VC.pv, VC.thenF, VC.blkF, VC.retF, VC.resV, VC.oneV, VC.evo, VC.bin, VC.binI, VC.cmpI, VC.arithI, VC.ldv, VC.slv, VC.pickP, VC.holds, VC.chainOf, VC.look, VC.junk, VC.put, VC.eff, VC.callee, VC.pureB, VC.rdK, VC.rdKs, VC.okKs, VC.eqKs, VC.fillL, VC.putL, VC.stW, VC.stOK, VC.mixF, VC.setAll, Nat.reduceAdd, Nat.reduceSub, Nat.reduceMul, if_true, if_false, ↓reduceIte, forall_const, implies_true, reduceCtorEq, ne_eq, Nat.reduceBNe, Nat.reduceBEq, IntKind.signed, Nat.reduceEqDiff, Nat.reduceLeDiff, Nat.reduceLT, eq_self, Int.reduceEq, Int.reduceLT, Int.reduceLE, Int.reduceAdd, Int.reduceSub, VC.regC_nil, VC.regC_cons, VC.regCK_eq, VC.callQ, VC.tailQ, VC.goCall, VC.chStep]
        exact fun m => PDPost.same h hd (hB.trans ((below_drewN (Below.refl _ w2) m).mono hB.size)) hr
      · have e4 := eq_false q2
        have e5 : (1000 < c.ballot) = True := eq_true (by omega)
        simp -dsimp only [Fa.F47, rdI_of z0, z0, rdI_of z1, z1, rdI_of z2, z2, rdI_of m0, m0, hxl, hml, e1, e2, e3, e4, e5, undef, tu, uf, ul, ur, VC.Now, VC.vc, VC.lib, VC.mapN_drewN, VC.mapB_drewN, VC.regQ, VC.loopK, VC.reg, VC.opP, VC.pv, VC.thenF, VC.blkF, VC.retF, VC.resV, VC.oneV, VC.evo, VC.bin, VC.binI, VC.cmpI, VC.arithI, VC.ldv, VC.slv, VC.pickP, VC.holds, VC.chainOf, VC.look, VC.junk, VC.put, VC.eff, VC.callee, VC.pureB, VC.rdK, VC.rdKs, VC.okKs, VC.eqKs, VC.fillL, VC.putL, VC.stW, VC.stOK, VC.mixF, VC.setAll, Nat.reduceAdd, Nat.reduceSub, Nat.reduceMul, if_true, if_false, ↓reduceIte, forall_const, implies_true, reduceCtorEq, ne_eq, Nat.reduceBNe, Nat.reduceBEq, IntKind.signed, Nat.reduceEqDiff, Nat.reduceLeDiff, Nat.reduceLT, eq_self, Int.reduceEq, Int.reduceLT, Int.reduceLE, Int.reduceAdd, Int.reduceSub, VC.regC_nil, VC.regC_cons, VC.regCK_eq, VC.callQ, VC.tailQ, VC.goCall, VC.chStep]
        exact fun m => PDPost.same h hd (hB.trans ((below_drewN (Below.refl _ w2) m).mono hB.size)) hr
    have e4 : (c.ballot < 1) = False := eq_false (by omega)
    have e5 : (1000 < c.ballot) = False := eq_false (by omega)
    have hnk1 : ¬ c.kind = 1 := by omega
    cases px with
    | none =>
      have hr : pstep n c s = (2, s) := by unfold pstep; rw [if_neg q0, if_neg q1, hpx]; exact if_neg hnk1
      subst hQ
      simp -dsimp only [Fa.F47, rdI_of z0, z0, rdI_of z1, z1, rdI_of z2, z2, rdI_of m0, m0, hxl, hml, e1, e2, e3, e4, e5, undef, tu, uf, ul, ur, Option.map_none, Option.isSome_none, VC.Now, VC.vc, VC.lib, VC.mapN_drewN, VC.mapB_drewN, VC.regQ, VC.loopK, VC.reg, VC.opP, VC.pv, VC.thenF, VC.blkF, VC.retF, VC.resV, VC.oneV, VC.evo, VC.bin, VC.binI, VC.cmpI, VC.arithI, VC.ldv, VC.slv, VC.pickP, VC.holds, VC.chainOf, VC.look, VC.junk, VC.put, VC.eff, VC.callee, VC.pureB, VC.rdK, VC.rdKs, VC.okKs, VC.eqKs, VC.fillL, VC.putL, VC.stW, VC.stOK, VC.mixF, VC.setAll, Nat.reduceAdd, Nat.reduceSub, Nat.reduceMul, if_true, if_false, ↓reduceIte, forall_const, implies_true, reduceCtorEq, ne_eq, Nat.reduceBNe, Nat.reduceBEq, IntKind.signed, Nat.reduceEqDiff, Nat.reduceLeDiff, Nat.reduceLT, eq_self, Int.reduceEq, Int.reduceLT, Int.reduceLE, Int.reduceAdd, Int.reduceSub, VC.regC_nil, VC.regC_cons, VC.regCK_eq, VC.callQ, VC.tailQ, VC.goCall, VC.chStep]
      exact fun m => PDPost.same h hd (hB.trans ((below_drewN (Below.refl _ w2) m).mono hB.size)) hr
    | some i =>
      by_cases q2 : c.who < 0
      · have e6 := eq_true q2
        have hr : pstep n c s = (2, s) := by unfold pstep; rw [if_neg q0, if_neg q1, hpx]; exact (if_neg hnk1).trans (if_pos (Or.inl q2))
        subst hQ
        simp -dsimp only [Fa.F47, rdI_of z0, z0, rdI_of z1, z1, rdI_of z2, z2, rdI_of m0, m0, hxl, hml, e1, e2, e3, e4, e5, e6, undef, tu, uf, ul, ur, Option.map_some, Option.isSome_some, VC.Now, VC.vc, VC.lib, VC.mapN_drewN, VC.mapB_drewN, VC.regQ, VC.loopK, VC.reg, VC.opP, VC.pv, VC.thenF, VC.blkF, VC.retF, VC.resV, VC.oneV, VC.evo, VC.bin, VC.binI, VC.cmpI, VC.arithI, VC.ldv, VC.slv, VC.pickP, VC.holds, VC.chainOf, VC.look, VC.junk, VC.put, VC.eff, VC.callee, VC.pureB, VC.rdK, VC.rdKs, VC.okKs, VC.eqKs, VC.fillL, VC.putL, VC.stW, VC.stOK, VC.mixF, VC.setAll, Nat.reduceAdd, Nat.reduceSub, Nat.reduceMul, if_true, if_false, ↓reduceIte, forall_const, implies_true, reduceCtorEq, ne_eq, Nat.reduceBNe, Nat.reduceBEq, IntKind.signed, Nat.reduceEqDiff, Nat.reduceLeDiff, Nat.reduceLT, eq_self, Int.reduceEq, Int.reduceLT, Int.reduceLE, Int.reduceAdd, Int.reduceSub, VC.regC_nil, VC.regC_cons, VC.regCK_eq, VC.callQ, VC.tailQ, VC.goCall, VC.chStep]
        exact fun m => PDPost.same h hd (hB.trans ((below_drewN (Below.refl _ w2) m).mono hB.size)) hr
      have e6 := eq_false q2
      by_cases q3 : (n : Int) ≤ c.who
      · have e7 := eq_true q3
        have hr : pstep n c s = (2, s) := by unfold pstep; rw [if_neg q0, if_neg q1, hpx]; exact (if_neg hnk1).trans (if_pos (Or.inr q3))
        subst hQ
        simp -dsimp only [Fa.F47, rdI_of z0, z0, rdI_of z1, z1, rdI_of z2, z2, rdI_of m0, m0, hxl, hml, e1, e2, e3, e4, e5, e6, e7, undef, tu, uf, ul, ur, Option.map_some, Option.isSome_some, VC.Now, VC.vc, VC.lib, VC.mapN_drewN, VC.mapB_drewN, VC.regQ, VC.loopK, VC.reg, VC.opP, VC.pv, VC.thenF, VC.blkF, VC.retF, VC.resV, VC.oneV, VC.evo, VC.bin, VC.binI, VC.cmpI, VC.arithI, VC.ldv, VC.slv, VC.pickP, VC.holds, VC.chainOf, VC.look, VC.junk, VC.put, VC.eff, VC.callee, VC.pureB, VC.rdK, VC.rdKs, VC.okKs, VC.eqKs, VC.fillL, VC.putL, VC.stW, VC.stOK, VC.mixF, VC.setAll, Nat.reduceAdd, Nat.reduceSub, Nat.reduceMul, if_true, if_false, ↓reduceIte, forall_const, implies_true, reduceCtorEq, ne_eq, Nat.reduceBNe, Nat.reduceBEq, IntKind.signed, Nat.reduceEqDiff, Nat.reduceLeDiff, Nat.reduceLT, eq_self, Int.reduceEq, Int.reduceLT, Int.reduceLE, Int.reduceAdd, Int.reduceSub, VC.regC_nil, VC.regC_cons, VC.regCK_eq, VC.callQ, VC.tailQ, VC.goCall, VC.chStep]
        exact fun m => PDPost.same h hd (hB.trans ((below_drewN (Below.refl _ w2) m).mono hB.size)) hr
      have e7 := eq_false q3
      obtain ⟨x, hx0⟩ : ∃ x : Nat, c.who = x := ⟨c.who.toNat, by omega⟩
      have hxN : c.who.toNat = x := by omega
      have hxn : x < n := by omega
      obtain ⟨hi, hnum⟩ := pidx_some hpx
      subst hQ; simp -dsimp only [VC.Now, VC.vc_skip, VC.vc_ret, VC.vc_exit, VC.vc_block, VC.vc_cond, VC.vc_region, VC.lib, VC.mapN_drewN, VC.mapB_drewN, VC.regQ, VC.loopK, VC.reg, VC.opP, VC.pv, VC.thenF, VC.blkF, VC.retF, VC.resV, VC.oneV, VC.evo, VC.bin, VC.binI, VC.cmpI, VC.arithI, VC.ldv, VC.slv, VC.pickP, VC.holds, VC.chainOf, VC.look, VC.junk, VC.put, VC.eff, VC.callee, VC.pureB, VC.rdK, VC.rdKs, VC.okKs, VC.eqKs, VC.fillL, VC.putL, VC.stW, VC.stOK, VC.mixF, VC.setAll, Nat.reduceAdd, Nat.reduceSub, Nat.reduceMul, if_true, if_false, ↓reduceIte, forall_const, implies_true, reduceCtorEq, ne_eq, Nat.reduceBNe, Nat.reduceBEq, IntKind.signed, Nat.reduceEqDiff, Nat.reduceLeDiff, Nat.reduceLT, eq_self, Int.reduceEq, Int.reduceLT, Int.reduceLE, Int.reduceAdd, Int.reduceSub, VC.regC_nil, VC.regC_cons, VC.regCK_eq, VC.callQ, VC.tailQ, VC.goCall, VC.chStep]; (repeat rw [vc_seq]); refine vc_plain _ fun Q hQ => ?_; simp -dsimp only [Fa.F47, rdI_of z0, z0, rdI_of z1, z1, rdI_of z2, z2, rdI_of m0, m0, hxl, hml, e1, e2, e3, e4, e5, e6, e7, undef, tu, uf, ul, ur, Option.map_some, Option.isSome_some, VC.Now, VC.vc_skip, VC.vc_ret, VC.vc_exit, VC.vc_block, VC.vc_cond, VC.vc_region, VC.lib, VC.mapN_drewN, VC.mapB_drewN, VC.regQ, VC.loopK, VC.reg, VC.opP, VC.pv, VC.thenF, VC.blkF, VC.retF, VC.resV, VC.oneV, VC.evo, VC.bin, VC.binI, VC.cmpI, VC.arithI, VC.ldv, VC.slv, VC.pickP, VC.holds, VC.chainOf, VC.look, VC.junk, VC.put, VC.eff, VC.callee, VC.pureB, VC.rdK, VC.rdKs, VC.okKs, VC.eqKs, VC.fillL, VC.putL, VC.stW, VC.stOK, VC.mixF, VC.setAll, Nat.reduceAdd, Nat.reduceSub, Nat.reduceMul, if_true, if_false, ↓reduceIte, forall_const, implies_true, reduceCtorEq, ne_eq, Nat.reduceBNe, Nat.reduceBEq, IntKind.signed, Nat.reduceEqDiff, Nat.reduceLeDiff, Nat.reduceLT, eq_self, Int.reduceEq, Int.reduceLT, Int.reduceLE, Int.reduceAdd, Int.reduceSub, VC.regC_nil, VC.regC_cons, VC.regCK_eq, VC.callQ, VC.tailQ, VC.goCall, VC.chStep]
      intro u2 m
      have hBm : Below w.heap.size w (w2.drewN m) := hB.trans ((below_drewN (Below.refl _ w2) m).mono hB.size)
      have h3 := h2.drewN m
      replace x0 := x0.below (below_drewN (Below.refl _ w2) m)
      replace hob : Box (w2.drewN m) ob (bL ⟨s.num i, (s.bal i).own⟩) := hob.below (below_drewN (Below.refl _ w2) m)
      clear hB h2 z0 z1 z2 z3 hxl bm m0 hml e4 e5 e6 e7
      generalize w2.drewN m = w3 at hBm h3 x0 hob ⊢
      have z0 := x0.at (i := 0) rfl
      have z1 := x0.at (i := 1) rfl
      have hxl := x0.1
      subst hQ
      simp -dsimp only [Fa.F47, VC.Now, VC.vc_skip, VC.vc_ret, VC.vc_exit, VC.vc_block, VC.vc_cond, VC.vc_region, VC.lib, VC.mapN_drewN, VC.mapB_drewN, VC.regQ, VC.loopK, VC.reg, VC.opP, VC.pv, VC.thenF, VC.blkF, VC.retF, VC.resV, VC.oneV, VC.evo, VC.bin, VC.binI, VC.cmpI, VC.arithI, VC.ldv, VC.slv, VC.pickP, VC.holds, VC.chainOf, VC.look, VC.junk, VC.put, VC.eff, VC.callee, VC.pureB, VC.rdK, VC.rdKs, VC.okKs, VC.eqKs, VC.fillL, VC.putL, VC.stW, VC.stOK, VC.mixF, VC.setAll, Nat.reduceAdd, Nat.reduceSub, Nat.reduceMul, if_true, if_false, ↓reduceIte, forall_const, implies_true, reduceCtorEq, ne_eq, Nat.reduceBNe, Nat.reduceBEq, IntKind.signed, Nat.reduceEqDiff, Nat.reduceLeDiff, Nat.reduceLT, eq_self, Int.reduceEq, Int.reduceLT, Int.reduceLE, Int.reduceAdd, Int.reduceSub, VC.regC_nil, VC.regC_cons, VC.regCK_eq, VC.callQ, VC.tailQ, VC.goCall, VC.chStep]
      (repeat rw [vc_seq]); refine vc_plain _ fun Q hQ => ?_; simp -dsimp only [Fa.F47, rdI_of z0, z0, hxl, e1, VC.Now, VC.vc_skip, VC.vc_ret, VC.vc_exit, VC.vc_block, VC.vc_cond, VC.vc_region, VC.lib, VC.mapN_drewN, VC.mapB_drewN, VC.regQ, VC.loopK, VC.reg, VC.opP, VC.pv, VC.thenF, VC.blkF, VC.retF, VC.resV, VC.oneV, VC.evo, VC.bin, VC.binI, VC.cmpI, VC.arithI, VC.ldv, VC.slv, VC.pickP, VC.holds, VC.chainOf, VC.look, VC.junk, VC.put, VC.eff, VC.callee, VC.pureB, VC.rdK, VC.rdKs, VC.okKs, VC.eqKs, VC.fillL, VC.putL, VC.stW, VC.stOK, VC.mixF, VC.setAll, Nat.reduceAdd, Nat.reduceSub, Nat.reduceMul, if_true, if_false, ↓reduceIte, forall_const, implies_true, reduceCtorEq, ne_eq, Nat.reduceBNe, Nat.reduceBEq, IntKind.signed, Nat.reduceEqDiff, Nat.reduceLeDiff, Nat.reduceLT, eq_self, Int.reduceEq, Int.reduceLT, Int.reduceLE, Int.reduceAdd, Int.reduceSub, VC.regC_nil, VC.regC_cons, VC.regCK_eq, VC.callQ, VC.tailQ, VC.goCall, VC.chStep]
      subst hQ; simp -dsimp only [VC.Now, VC.vc_skip, VC.vc_ret, VC.vc_exit, VC.vc_block, VC.vc_cond, VC.vc_region, VC.lib, VC.mapN_drewN, VC.mapB_drewN, VC.regQ, VC.loopK, VC.reg, VC.opP, VC.pv, VC.thenF, VC.blkF, VC.retF, VC.resV, VC.oneV, VC.evo, VC.bin, VC.binI, VC.cmpI, VC.arithI, VC.ldv, VC.slv, VC.pickP, VC.holds, VC.chainOf, VC.look, VC.junk, VC.put, VC.eff, VC.callee, VC.pureB, VC.rdK, VC.rdKs, VC.okKs, VC.eqKs, VC.fillL, VC.putL, VC.stW, VC.stOK, VC.mixF, VC.setAll, Nat.reduceAdd, Nat.reduceSub, Nat.reduceMul, if_true, if_false, ↓reduceIte, forall_const, implies_true, reduceCtorEq, ne_eq, Nat.reduceBNe, Nat.reduceBEq, IntKind.signed, Nat.reduceEqDiff, Nat.reduceLeDiff, Nat.reduceLT, eq_self, Int.reduceEq, Int.reduceLT, Int.reduceLE, Int.reduceAdd, Int.reduceSub, VC.regC_nil, VC.regC_cons, VC.regCK_eq, VC.callQ, VC.tailQ, VC.goCall, VC.chStep]; (repeat rw [vc_seq]); refine vc_plain _ fun Q hQ => ?_; simp -dsimp only [Fa.F47, rdI_of z0, z0, hxl, e1, VC.Now, VC.vc_skip, VC.vc_ret, VC.vc_exit, VC.vc_block, VC.vc_cond, VC.vc_region, VC.lib, VC.mapN_drewN, VC.mapB_drewN, VC.regQ, VC.loopK, VC.reg, VC.opP, VC.pv, VC.thenF, VC.blkF, VC.retF, VC.resV, VC.oneV, VC.evo, VC.bin, VC.binI, VC.cmpI, VC.arithI, VC.ldv, VC.slv, VC.pickP, VC.holds, VC.chainOf, VC.look, VC.junk, VC.put, VC.eff, VC.callee, VC.pureB, VC.rdK, VC.rdKs, VC.okKs, VC.eqKs, VC.fillL, VC.putL, VC.stW, VC.stOK, VC.mixF, VC.setAll, Nat.reduceAdd, Nat.reduceSub, Nat.reduceMul, if_true, if_false, ↓reduceIte, forall_const, implies_true, reduceCtorEq, ne_eq, Nat.reduceBNe, Nat.reduceBEq, IntKind.signed, Nat.reduceEqDiff, Nat.reduceLeDiff, Nat.reduceLT, eq_self, Int.reduceEq, Int.reduceLT, Int.reduceLE, Int.reduceAdd, Int.reduceSub, VC.regC_nil, VC.regC_cons, VC.regCK_eq, VC.callQ, VC.tailQ, VC.goCall, VC.chStep]
      have bm : Box w3 a.mb (paxC n a) := h3.get 0 rfl
      have m4 := bm.at (i := 4) rfl
      have hml := bm.1
      obtain ⟨Af, cf, ef, _⟩ := id (h3.get 4 rfl : OwnK w3 0 117 2 s.fixd.length a.vf _)
      rw [ef] at m4
      have hof := (h3.get 4 rfl : OwnK w3 0 117 2 s.fixd.length a.vf _)
      rw [ef] at hof
      have hkk2 := hok.fixd
      have hrf := RdT.ownL hof (fun _ => rfl) bal0
      have hobl := hob.1
      refine (fun hrest : (∀ (fb : Nat) (w4 : World), Below w3.heap.size w3 w4 → Box w4 fb (bL ((ofL s.fixd c.ballot).getD bal0)) → ob < fb → Q Exit.normal ((?F4 : Nat → Array Value) fb) w4) => ?main2) ?rest2
      case main2 =>
        refine WP_held 99 (fun j => w3.heap.size ≤ j) (.take 0 (.take 1 (.take 2 (.take 3 (.take 4 (.take 5 (.two 6 (.take 7 (.take 8 (.take 9 (.one 10 (.one 11 (.take 12 .done)))))) 10 (.one 6 (.take 7 (.take 8 (.take 9 (.one 11 (.take 12 .done))))))))))))) Fa.mix (by kernel_rfl) rfl ?_
        simp -dsimp only [VC.heldF_done, VC.heldF_last, VC.planF_done, VC.planF_take, VC.planF_one, VC.planF_two, VC.planK_eq, VC.heldF_take, VC.heldF_one, VC.heldF_two, VC.heldF_twoL, VC.heldK_eq, VC.okRd, Fa.F47, rdI_of z1, z1, rdSA_of m4, rdSN_of m4, rdSC_of m4, m4, hml, hxl, VC.Now, VC.vc, VC.lib, VC.mapN_drewN, VC.mapB_drewN, VC.regQ, VC.loopK, VC.reg, VC.opP, VC.pv, VC.thenF, VC.blkF, VC.retF, VC.resV, VC.oneV, VC.evo, VC.bin, VC.binI, VC.cmpI, VC.arithI, VC.ldv, VC.slv, VC.pickP, VC.holds, VC.chainOf, VC.look, VC.junk, VC.put, VC.eff, VC.callee, VC.pureB, VC.rdK, VC.rdKs, VC.okKs, VC.eqKs, VC.fillL, VC.putL, VC.stW, VC.stOK, VC.mixF, VC.setAll, Nat.reduceAdd, Nat.reduceSub, Nat.reduceMul, if_true, if_false, ↓reduceIte, forall_const, implies_true, reduceCtorEq, ne_eq, Nat.reduceBNe, Nat.reduceBEq, IntKind.signed, Nat.reduceEqDiff, Nat.reduceLeDiff, Nat.reduceLT, eq_self, Int.reduceEq, Int.reduceLT, Int.reduceLE, Int.reduceAdd, Int.reduceSub, VC.regC_nil, VC.regC_cons, VC.regCK_eq, VC.callQ, VC.tailQ, VC.goCall, VC.chStep]
        have hd1 : Below w3.heap.size w3 (w3.drewN 1) := below_drewN (Below.refl _ w3) 1
        refine ⟨by omega, by omega, ?_, ?_, ?_⟩
        · refine CALL_by (of_any (c := cf) (hrf.below hd1) (by omega) c.ballot) fun e w4 hp => ⟨_, hp.1, ?_⟩
          have hB2 : Below w3.heap.size w3 w4 := hd1.trans hp.2
          have agB := Agree.of_below (X := fun j => w3.heap.size ≤ j) hB2
          clear hp
          rw [VC.Now]
          simp -dsimp only [VC.heldF_done, VC.heldF_last, VC.planF_done, VC.planF_take, VC.planF_one, VC.planF_two, VC.planK_eq, VC.heldF_take, VC.heldF_one, VC.heldF_two, VC.heldF_twoL, VC.heldK_eq, VC.okRd, Fa.F47, rdI_of z1, z1, rdSA_of m4, rdSN_of m4, rdSC_of m4, m4, hml, hxl, VC.Now, VC.vc, VC.lib, VC.mapN_drewN, VC.mapB_drewN, VC.regQ, VC.loopK, VC.reg, VC.opP, VC.pv, VC.thenF, VC.blkF, VC.retF, VC.resV, VC.oneV, VC.evo, VC.bin, VC.binI, VC.cmpI, VC.arithI, VC.ldv, VC.slv, VC.pickP, VC.holds, VC.chainOf, VC.look, VC.junk, VC.put, VC.eff, VC.callee, VC.pureB, VC.rdK, VC.rdKs, VC.okKs, VC.eqKs, VC.fillL, VC.putL, VC.stW, VC.stOK, VC.mixF, VC.setAll, Nat.reduceAdd, Nat.reduceSub, Nat.reduceMul, if_true, if_false, ↓reduceIte, forall_const, implies_true, reduceCtorEq, ne_eq, Nat.reduceBNe, Nat.reduceBEq, IntKind.signed, Nat.reduceEqDiff, Nat.reduceLeDiff, Nat.reduceLT, eq_self, Int.reduceEq, Int.reduceLT, Int.reduceLE, Int.reduceAdd, Int.reduceSub, VC.regC_nil, VC.regC_cons, VC.regCK_eq, VC.callQ, VC.tailQ, VC.goCall, VC.chStep]
          have hnb := Box.new w4 (bL ((ofL s.fixd c.ballot).getD bal0)) 117
          have hB3 : Below w3.heap.size w3 (w4.alloc (.cells (bL ((ofL s.fixd c.ballot).getD bal0)).toArray 117)) := hB2.alloc hB2.size _
          refine ⟨agB, Agree.of_below (hB2.alloc hB2.size _), Agree.of_below hB3, ?_⟩
          change Q _ _ (w4.alloc (.cells (bL ((ofL s.fixd c.ballot).getD bal0)).toArray 117))
          have hlt2 := hB2.size
          generalize w4.alloc (.cells (bL ((ofL s.fixd c.ballot).getD bal0)).toArray 117) = w5 at hnb hB3 ⊢
          generalize w4.heap.size = fb at hnb hlt2 ⊢
          exact hrest fb w5 hB3 hnb (by omega)
        · exact Agree.of_below (hd1.alloc (Nat.le_refl _) _)
        · have hd2 : Below w3.heap.size w3 ((w3.drewN 1).alloc (.cells #[Value.int IntKind.i64 0, Value.int IntKind.i64 0] 117)) := hd1.alloc (Nat.le_refl _) _
          have hnb := Box.new (w3.drewN 1) [Value.int IntKind.i64 0, Value.int IntKind.i64 0] 117
          change Box ((w3.drewN 1).alloc (.cells #[Value.int IntKind.i64 0, Value.int IntKind.i64 0] 117)) _ _ at hnb
          have hzz : (w3.drewN 1).heap.size = w3.heap.size := rfl
          rw [hzz] at hnb
          generalize (w3.drewN 1).alloc (.cells #[Value.int IntKind.i64 0, Value.int IntKind.i64 0] 117) = w4 at hd2 hnb ⊢
          refine CALL_by (of_any (c := cf) (hrf.below hd2) (by omega) c.ballot) fun e w5 hp => ⟨_, hp.1, ?_⟩
          have hB2 : Below w3.heap.size w3 w5 := hd2.trans (hp.2.mono hd2.size)
          have agB := Agree.of_below (X := fun j => w3.heap.size ≤ j) hB2
          replace hnb := hnb.below hp.2
          clear hp
          rw [VC.Now]
          have g0 := hnb.at (i := 0) rfl
          have g1 := hnb.at (i := 1) rfl
          have f0 := hnb.soft (i := 0) (by show 0 < 2; omega)
          have f1 := hnb.soft (i := 1) (by show 1 < 2; omega)
          simp -dsimp only [VC.heldF_done, VC.heldF_last, VC.planF_done, VC.planF_take, VC.planF_one, VC.planF_two, VC.planK_eq, VC.heldF_take, VC.heldF_one, VC.heldF_two, VC.heldF_twoL, VC.heldK_eq, VC.okRd, Fa.F47, rdI_of z1, z1, rdSA_of m4, rdSN_of m4, rdSC_of m4, m4, hml, hxl, g0, g1, f0, f1, VC.Now, VC.vc, VC.lib, VC.mapN_drewN, VC.mapB_drewN, VC.regQ, VC.loopK, VC.reg, VC.opP, VC.pv, VC.thenF, VC.blkF, VC.retF, VC.resV, VC.oneV, VC.evo, VC.bin, VC.binI, VC.cmpI, VC.arithI, VC.ldv, VC.slv, VC.pickP, VC.holds, VC.chainOf, VC.look, VC.junk, VC.put, VC.eff, VC.callee, VC.pureB, VC.rdK, VC.rdKs, VC.okKs, VC.eqKs, VC.fillL, VC.putL, VC.stW, VC.stOK, VC.mixF, VC.setAll, Nat.reduceAdd, Nat.reduceSub, Nat.reduceMul, if_true, if_false, ↓reduceIte, forall_const, implies_true, reduceCtorEq, ne_eq, Nat.reduceBNe, Nat.reduceBEq, IntKind.signed, Nat.reduceEqDiff, Nat.reduceLeDiff, Nat.reduceLT, eq_self, Int.reduceEq, Int.reduceLT, Int.reduceLE, Int.reduceAdd, Int.reduceSub, VC.regC_nil, VC.regC_cons, VC.regCK_eq, VC.callQ, VC.tailQ, VC.goCall, VC.chStep]
          have hb2 := (hnb.set 0 (.int .i64 ((ofL s.fixd c.ballot).getD bal0).n)).set 1 (.int .i64 ((ofL s.fixd c.ballot).getD bal0).v)
          have hB4 : Below w3.heap.size w3 ((w5.setCell ⟨w3.heap.size, 0, none⟩ (.int .i64 ((ofL s.fixd c.ballot).getD bal0).n)).setCell ⟨w3.heap.size, 1, none⟩ (.int .i64 ((ofL s.fixd c.ballot).getD bal0).v)) := (hB2.setCell (p := ⟨w3.heap.size, 0, none⟩) (Nat.le_refl _) _).setCell (p := ⟨w3.heap.size, 1, none⟩) (Nat.le_refl _) _
          refine ⟨agB, Agree.of_below hB4, ?_⟩
          generalize (w5.setCell ⟨w3.heap.size, 0, none⟩ (.int .i64 ((ofL s.fixd c.ballot).getD bal0).n)).setCell ⟨w3.heap.size, 1, none⟩ (.int .i64 ((ofL s.fixd c.ballot).getD bal0).v) = w6 at hb2 hB4 ⊢
          exact hrest w3.heap.size w6 hB4 hb2 hobl
      clear hrf hof m4 ef
      intro fb w4 hB4 hfb hlf
      have hB := hBm.trans (hB4.mono (by have := hBm.size; omega))
      have h4 := h3.below hB4
      replace x0 := x0.below hB4
      replace hob := hob.below hB4
      clear hB4 z0 z1 hxl h3 bm hml hBm hobl
      have z0 := x0.at (i := 0) rfl
      have z1 := x0.at (i := 1) rfl
      have z2 := x0.at (i := 2) rfl
      have hxl := x0.1
      have bm : Box w4 a.mb (paxC n a) := h4.get 0 rfl
      have m0 := bm.at (i := 0) rfl
      have m2 := bm.at (i := 2) rfl
      have m3 := bm.at (i := 3) rfl
      have m4 := bm.at (i := 4) rfl
      have hml := bm.1
      rw [hx0] at z2
      have hfx := hd.fx i hi
      rw [hnum] at hfx
      obtain ⟨Av, cv, ev, _⟩ := id (h4.get 2 rfl : OwnK w4 0 258 4 V.length a.vv _)
      obtain ⟨At, ct, et, _⟩ := id (h4.get 3 rfl : OwnK w4 0 258 4 T.length a.vt _)
      rw [ev] at m2
      rw [et] at m3
      have hov := (h4.get 2 rfl : OwnK w4 0 258 4 V.length a.vv _)
      have hot := (h4.get 3 rfl : OwnK w4 0 258 4 T.length a.vt _)
      rw [ev] at hov
      rw [et] at hot
      have hlV := hd.lenV
      have hlT := hd.lenT
      have hpro := hd.pro x
      rw [hfx]
      rw [hfx] at hfb
      have his : (if (s.bal i).fixed = true then some (s.bal i).best else none).isSome = (s.bal i).fixed := by cases (s.bal i).fixed <;> rfl
      rw [his]
      subst hQ
      simp -dsimp only [Fa.F47, VC.Now, VC.vc_skip, VC.vc_ret, VC.vc_exit, VC.vc_block, VC.vc_cond, VC.vc_region, VC.lib, VC.mapN_drewN, VC.mapB_drewN, VC.regQ, VC.loopK, VC.reg, VC.opP, VC.pv, VC.thenF, VC.blkF, VC.retF, VC.resV, VC.oneV, VC.evo, VC.bin, VC.binI, VC.cmpI, VC.arithI, VC.ldv, VC.slv, VC.pickP, VC.holds, VC.chainOf, VC.look, VC.junk, VC.put, VC.eff, VC.callee, VC.pureB, VC.rdK, VC.rdKs, VC.okKs, VC.eqKs, VC.fillL, VC.putL, VC.stW, VC.stOK, VC.mixF, VC.setAll, Nat.reduceAdd, Nat.reduceSub, Nat.reduceMul, if_true, if_false, ↓reduceIte, forall_const, implies_true, reduceCtorEq, ne_eq, Nat.reduceBNe, Nat.reduceBEq, IntKind.signed, Nat.reduceEqDiff, Nat.reduceLeDiff, Nat.reduceLT, eq_self, Int.reduceEq, Int.reduceLT, Int.reduceLE, Int.reduceAdd, Int.reduceSub, VC.regC_nil, VC.regC_cons, VC.regCK_eq, VC.callQ, VC.tailQ, VC.goCall, VC.chStep]
      (repeat rw [vc_seq]); refine vc_plain _ fun Q hQ => ?_; simp -dsimp only [Fa.F47, rdI_of z0, z0, hxl, e2, VC.Now, VC.vc_skip, VC.vc_ret, VC.vc_exit, VC.vc_block, VC.vc_cond, VC.vc_region, VC.lib, VC.mapN_drewN, VC.mapB_drewN, VC.regQ, VC.loopK, VC.reg, VC.opP, VC.pv, VC.thenF, VC.blkF, VC.retF, VC.resV, VC.oneV, VC.evo, VC.bin, VC.binI, VC.cmpI, VC.arithI, VC.ldv, VC.slv, VC.pickP, VC.holds, VC.chainOf, VC.look, VC.junk, VC.put, VC.eff, VC.callee, VC.pureB, VC.rdK, VC.rdKs, VC.okKs, VC.eqKs, VC.fillL, VC.putL, VC.stW, VC.stOK, VC.mixF, VC.setAll, Nat.reduceAdd, Nat.reduceSub, Nat.reduceMul, if_true, if_false, ↓reduceIte, forall_const, implies_true, reduceCtorEq, ne_eq, Nat.reduceBNe, Nat.reduceBEq, IntKind.signed, Nat.reduceEqDiff, Nat.reduceLeDiff, Nat.reduceLT, eq_self, Int.reduceEq, Int.reduceLT, Int.reduceLE, Int.reduceAdd, Int.reduceSub, VC.regC_nil, VC.regC_cons, VC.regCK_eq, VC.callQ, VC.tailQ, VC.goCall, VC.chStep]
      subst hQ
      simp -dsimp only [Fa.F47, e2, VC.Now, VC.vc_skip, VC.vc_ret, VC.vc_exit, VC.vc_block, VC.vc_cond, VC.vc_region, VC.lib, VC.mapN_drewN, VC.mapB_drewN, VC.regQ, VC.loopK, VC.reg, VC.opP, VC.pv, VC.thenF, VC.blkF, VC.retF, VC.resV, VC.oneV, VC.evo, VC.bin, VC.binI, VC.cmpI, VC.arithI, VC.ldv, VC.slv, VC.pickP, VC.holds, VC.chainOf, VC.look, VC.junk, VC.put, VC.eff, VC.callee, VC.pureB, VC.rdK, VC.rdKs, VC.okKs, VC.eqKs, VC.fillL, VC.putL, VC.stW, VC.stOK, VC.mixF, VC.setAll, Nat.reduceAdd, Nat.reduceSub, Nat.reduceMul, if_true, if_false, ↓reduceIte, forall_const, implies_true, reduceCtorEq, ne_eq, Nat.reduceBNe, Nat.reduceBEq, IntKind.signed, Nat.reduceEqDiff, Nat.reduceLeDiff, Nat.reduceLT, eq_self, Int.reduceEq, Int.reduceLT, Int.reduceLE, Int.reduceAdd, Int.reduceSub, VC.regC_nil, VC.regC_cons, VC.regCK_eq, VC.callQ, VC.tailQ, VC.goCall, VC.chStep]
      (repeat rw [vc_seq]); refine vc_plain _ fun Q hQ => ?_; simp -dsimp only [Fa.F47, e2, VC.Now, VC.vc_skip, VC.vc_ret, VC.vc_exit, VC.vc_block, VC.vc_cond, VC.vc_region, VC.lib, VC.mapN_drewN, VC.mapB_drewN, VC.regQ, VC.loopK, VC.reg, VC.opP, VC.pv, VC.thenF, VC.blkF, VC.retF, VC.resV, VC.oneV, VC.evo, VC.bin, VC.binI, VC.cmpI, VC.arithI, VC.ldv, VC.slv, VC.pickP, VC.holds, VC.chainOf, VC.look, VC.junk, VC.put, VC.eff, VC.callee, VC.pureB, VC.rdK, VC.rdKs, VC.okKs, VC.eqKs, VC.fillL, VC.putL, VC.stW, VC.stOK, VC.mixF, VC.setAll, Nat.reduceAdd, Nat.reduceSub, Nat.reduceMul, if_true, if_false, ↓reduceIte, forall_const, implies_true, reduceCtorEq, ne_eq, Nat.reduceBNe, Nat.reduceBEq, IntKind.signed, Nat.reduceEqDiff, Nat.reduceLeDiff, Nat.reduceLT, eq_self, Int.reduceEq, Int.reduceLT, Int.reduceLE, Int.reduceAdd, Int.reduceSub, VC.regC_nil, VC.regC_cons, VC.regCK_eq, VC.callQ, VC.tailQ, VC.goCall, VC.chStep]
      have hr : pstep n c s = ptake n i x s := by unfold pstep; rw [if_neg q0, if_neg q1, hpx]; exact ((if_neg hnk1).trans (if_neg (by omega))).trans ((if_neg (by omega)).trans (by rw [hxN]))
      clear hc q0 q1 hpx hk3 hnk1 e1 e2 e3 hfx his
      revert B n t a s V T w c w1 sb u Ab cb ob w2 i x u2 m w3 Af cf fb w4 Av cv At ct Q
      exact HH.1
end Go.Proofs.Ytelfmhiaafkimaa
