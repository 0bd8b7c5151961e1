/- slices.AppendSeq and slices.Collect, over an iterator whose rounds go by what it has told. -/
import Derived.Test.YtelfmhiaafkimaaFa
import Derived.Test.YtelfmhiaafkimaaRangeG
import Derived.Test.YtelfmhiaafkimaaOwn3
namespace Go.Proofs.Ytelfmhiaafkimaa
open Go Go.RowKit Go.VC
set_option linter.unusedSimpArgs false
set_option linter.unusedVariables false

set_option maxRecDepth 8000 in
set_option maxHeartbeats 1000000 in
theorem appendSeqG_any (F : List Int → Prop) (gf : FuncId) (caps : List Value) (Kp : Nat → Prop) (w : World)
    (hit : IterG Try.prog gf caps ([] : List Int) (fun vis vals vis' W => ∃ x, vals = #[.int .i64 x] ∧ vis' = vis ++ [x] ∧ vis.length ≤ 100000) F (fun s k => k = s) Kp w) (hgf : VC.callB Try.prog gf = true) (hKp : ∀ k, Kp k → k < w.heap.size) :
    Calls Try.prog 103 #[.slice none 0 0, .func (.func gf) #[] caps.toArray] w fun e w' => ∃ v vis, e = .returned v ∧ F vis ∧ OwnV w' w.heap.size 3 v (vis.map (Value.int .i64)) ∧ Agree (fun k => w.heap.size ≤ k) w w' := by
  refine calls_vcM (rs := [.tmp 4]) Fa.mix Try.func103 rfl Try.ntmps103 rfl (by kernel_rfl) (Nat.le_of_ble_eq_true rfl) ?_
  simp -dsimp (maxSteps := 2000000) only [VC.vcM, VC.fixM, VC.thenM, VC.blkM, VC.retM, VC.rndF, VC.asgF, VC.loopKM, Fa.F103, VC.Now, VC.vc, VC.lib, VC.mapN_drewN, VC.mapB_drewN, VC.regQ, VC.loopK, VC.reg, VC.opP, VC.opS, VC.opZ, VC.nomulB, VC.pv, VC.thenF, VC.blkF, VC.retF, VC.resV, VC.oneV, VC.evo, VC.bin, VC.binI, VC.cmpI, VC.arithI, VC.ldv, VC.slv, VC.pickP, VC.holds, VC.chainOf, VC.look, VC.junk, VC.put, VC.eff, VC.callee, VC.pureB, VC.rdK, VC.rdKs, VC.okKs, VC.eqKs, VC.fillL, VC.putL, VC.stW, VC.stOK, VC.mixF, VC.setAll, Nat.reduceAdd, Nat.reduceSub, Nat.reduceMul, if_true, if_false, ↓reduceIte, forall_const, implies_true, reduceCtorEq, ne_eq, Nat.reduceBNe, Nat.reduceBEq, IntKind.signed, Nat.reduceEqDiff, Nat.reduceLeDiff, Nat.reduceLT, eq_self, Int.reduceEq, Int.reduceLT, Int.reduceLE, Int.reduceAdd, Int.reduceSub, VC.regC_nil, VC.regC_cons, VC.regCK_eq, VC.callQ, VC.tailQ, VC.goCall, VC.chStep]
  generalize hw1 : w.alloc (.cells #[.slice none 0 0] 23) = w1
  have hs1 : w1.heap.size = w.heap.size + 1 := by rw [← hw1]; simp
  have hB1 : Below w.heap.size w w1 := by rw [← hw1]; exact below_box (Below.refl _ _) _
  refine WPM_rangeG Fa.mix hit hB1 rfl rfl hgf (by rintro i vals i' W ⟨x, rfl, _⟩; rfl) (by kernel_rfl) (by kernel_rfl) (fun k hk => by have hk : k = w1.heap.size + 2 := hk; omega) (fun h => by have := hKp _ h; omega)
    (fun (vis : List Int) W => ∃ v, W.cell? ⟨w.heap.size, 0, none⟩ = some v ∧ W.frozen? ⟨w.heap.size, 0, none⟩ = false ∧ OwnV W (w.heap.size + 4) 3 v (vis.map (Value.int .i64)) ∧ Agree (fun k => w.heap.size ≤ k) w W ∧ w.heap.size < W.heap.size)
    (fun _ _ _ => False) ?_ (fun _ _ _ _ h _ => h) ?_ ?_ ?_ (fun _ _ _ h _ => h.elim)
  · rintro i A B ⟨v, h1, h2, h3, h4, h5⟩ hA
    have hx : ¬ (w.heap.size = w1.heap.size + 1 ∨ w.heap.size = w1.heap.size + 2) := by
      rintro (h | h)
      · omega
      · omega
    refine ⟨v, (hA.cell h5 hx).trans h1, (hA.frozen h5 hx).trans h2, h3.agree hA ?_, h4.trans' hA ?_, Nat.lt_of_lt_of_le h5 hA.size⟩
    · rintro k (h | h)
      · left; omega
      · left; omega
    · rintro j hj (h | h)
      · omega
      · omega
  · refine ⟨.slice none 0 0, by rw [← hw1, World.cell?_alloc_new]; rfl, by rw [← hw1, World.frozen?_alloc_new], OwnV.nil _ _ _, Agree.of_below hB1, by omega⟩
  · rintro l vis vals vis' W ⟨v, h1, h2, h3, h4, h5⟩ ⟨x, rfl, rfl, hvl⟩ hz hsz _
    have hz' : w1.heap.size + 2 < W.heap.size := hz _ rfl
    obtain ⟨A, c, rfl, _⟩ := id h3
    simp -dsimp (maxSteps := 2000000) only [VC.vcM, VC.fixM, VC.thenM, VC.blkM, VC.retM, VC.rndF, VC.asgF, VC.loopKM, Fa.F103, VC.Now, VC.vc, VC.lib, VC.mapN_drewN, VC.mapB_drewN, VC.regQ, VC.loopK, VC.reg, VC.opP, VC.opS, VC.opZ, VC.nomulB, VC.pv, VC.thenF, VC.blkF, VC.retF, VC.resV, VC.oneV, VC.evo, VC.bin, VC.binI, VC.cmpI, VC.arithI, VC.ldv, VC.slv, VC.pickP, VC.holds, VC.chainOf, VC.look, VC.junk, VC.put, VC.eff, VC.callee, VC.pureB, VC.rdK, VC.rdKs, VC.okKs, VC.eqKs, VC.fillL, VC.putL, VC.stW, VC.stOK, VC.mixF, VC.setAll, Nat.reduceAdd, Nat.reduceSub, Nat.reduceMul, if_true, if_false, ↓reduceIte, forall_const, implies_true, reduceCtorEq, ne_eq, Nat.reduceBNe, Nat.reduceBEq, IntKind.signed, Nat.reduceEqDiff, Nat.reduceLeDiff, Nat.reduceLT, eq_self, Int.reduceEq, Int.reduceLT, Int.reduceLE, Int.reduceAdd, Int.reduceSub, VC.regC_nil, VC.regC_cons, VC.regCK_eq, VC.callQ, VC.tailQ, VC.goCall, VC.chStep]
    refine ⟨Agree.refl _ _, fun W3 hA3 => ?_⟩
    have hx3 : ¬ w.heap.size = w1.heap.size + 1 := by omega
    have g1 := (hA3.cell h5 hx3).trans h1
    have g2 := (hA3.frozen h5 hx3).trans h2
    have g3 := h3.agree hA3 (by rintro k rfl; left; omega)
    have hs3 := hA3.size
    rw [rdSA_of g1, rdSN_of g1, rdSC_of g1]
    refine ⟨g1, ?_⟩
    refine OPW_appG rfl Fa.apI23 rfl rfl rfl (by simp [Value.oneCell']) g3 (by omega) (by rw [List.length_map]; omega) (by omega) fun v' W4 ho4 hA4 => ?_
    have q1 : W4.cell? ⟨w.heap.size, 0, none⟩ = some (.slice A (vis.map (Value.int .i64)).length c) := (hA4.cell (by omega) (by omega)).trans g1
    have q2 : W4.frozen? ⟨w.heap.size, 0, none⟩ = false := (hA4.frozen (by omega) (by omega)).trans g2
    have hs4 := hA4.size
    obtain ⟨A', c', rfl, _⟩ := id ho4
    simp -dsimp (maxSteps := 2000000) only [VC.vcM, VC.fixM, VC.thenM, VC.blkM, VC.retM, VC.rndF, VC.asgF, VC.loopKM, Fa.F103, q1, q2, VC.Now, VC.vc, VC.lib, VC.mapN_drewN, VC.mapB_drewN, VC.regQ, VC.loopK, VC.reg, VC.opP, VC.opS, VC.opZ, VC.nomulB, VC.pv, VC.thenF, VC.blkF, VC.retF, VC.resV, VC.oneV, VC.evo, VC.bin, VC.binI, VC.cmpI, VC.arithI, VC.ldv, VC.slv, VC.pickP, VC.holds, VC.chainOf, VC.look, VC.junk, VC.put, VC.eff, VC.callee, VC.pureB, VC.rdK, VC.rdKs, VC.okKs, VC.eqKs, VC.fillL, VC.putL, VC.stW, VC.stOK, VC.mixF, VC.setAll, Nat.reduceAdd, Nat.reduceSub, Nat.reduceMul, if_true, if_false, ↓reduceIte, forall_const, implies_true, reduceCtorEq, ne_eq, Nat.reduceBNe, Nat.reduceBEq, IntKind.signed, Nat.reduceEqDiff, Nat.reduceLeDiff, Nat.reduceLT, eq_self, Int.reduceEq, Int.reduceLT, Int.reduceLE, Int.reduceAdd, Int.reduceSub, VC.regC_nil, VC.regC_cons, VC.regCK_eq, VC.callQ, VC.tailQ, VC.goCall, VC.chStep]
    have hstore : ∀ X : Nat → Prop, X w.heap.size → Agree X W4 (W4.setCell ⟨w.heap.size, 0, none⟩ (.slice A' (vis.map (Value.int .i64) ++ [Value.int .i64 x]).length c')) := fun X hX => Agree.setCell W4 _ hX
    refine ⟨?_, _, World.cell?_setCell_same W4 ⟨w.heap.size, 0, none⟩ _ q1, by rw [World.frozen?_setCell]; exact q2, ?_, ?_, by simp; omega⟩
    · refine (hA4.mono ?_).trans (hstore _ ?_)
      · rintro k _ hk (h | h | h | h)
        · have := hKp _ h; omega
        · omega
        · omega
        · omega
      · rintro (h | h | h | h)
        · have := hKp _ h; omega
        · omega
        · omega
        · omega
    · have e : (vis ++ [x]).map (Value.int .i64) = vis.map (Value.int .i64) ++ [Value.int .i64 x] := by simp
      rw [e]
      exact ho4.setCell (a := ⟨w.heap.size, 0, none⟩) (by simp) _
    · refine (((h4.trans' hA3 ?_).trans' hA4 ?_).trans' (hstore (fun k => k = w.heap.size) rfl) ?_)
      · intro j hj h; omega
      · intro j hj h; omega
      · intro j hj h; omega
  · rintro vis W hF ⟨v, h1, h2, h3, h4, h5⟩ hD
    obtain ⟨A, c, rfl, _⟩ := id h3
    simp -dsimp (maxSteps := 2000000) only [VC.vcM, VC.fixM, VC.thenM, VC.blkM, VC.retM, VC.rndF, VC.asgF, VC.loopKM, Fa.F103, rdSA_of h1, rdSN_of h1, rdSC_of h1, h1, VC.Now, VC.vc, VC.lib, VC.mapN_drewN, VC.mapB_drewN, VC.regQ, VC.loopK, VC.reg, VC.opP, VC.opS, VC.opZ, VC.nomulB, VC.pv, VC.thenF, VC.blkF, VC.retF, VC.resV, VC.oneV, VC.evo, VC.bin, VC.binI, VC.cmpI, VC.arithI, VC.ldv, VC.slv, VC.pickP, VC.holds, VC.chainOf, VC.look, VC.junk, VC.put, VC.eff, VC.callee, VC.pureB, VC.rdK, VC.rdKs, VC.okKs, VC.eqKs, VC.fillL, VC.putL, VC.stW, VC.stOK, VC.mixF, VC.setAll, Nat.reduceAdd, Nat.reduceSub, Nat.reduceMul, if_true, if_false, ↓reduceIte, forall_const, implies_true, reduceCtorEq, ne_eq, Nat.reduceBNe, Nat.reduceBEq, IntKind.signed, Nat.reduceEqDiff, Nat.reduceLeDiff, Nat.reduceLT, eq_self, Int.reduceEq, Int.reduceLT, Int.reduceLE, Int.reduceAdd, Int.reduceSub, VC.regC_nil, VC.regC_cons, VC.regCK_eq, VC.callQ, VC.tailQ, VC.goCall, VC.chStep]
    refine ⟨_, rfl, hD, trivial, _, vis, rfl, hF, ?_, ?_⟩
    · exact (h3.agree (Agree.putObj W _ (X := fun k => k = w1.heap.size) rfl) (by rintro k rfl; left; omega)).mono (by omega)
    · exact h4.trans' (Agree.putObj W _ (X := fun k => k = w1.heap.size) rfl) (by intro j hj h; omega)

set_option maxRecDepth 8000 in
set_option maxHeartbeats 1000000 in
theorem collectG_any (F : List Int → Prop) (gf : FuncId) (caps : List Value) (Kp : Nat → Prop) (w : World)
    (hit : IterG Try.prog gf caps ([] : List Int) (fun vis vals vis' W => ∃ x, vals = #[.int .i64 x] ∧ vis' = vis ++ [x] ∧ vis.length ≤ 100000) F (fun s k => k = s) Kp w) (hgf : VC.callB Try.prog gf = true) (hKp : ∀ k, Kp k → k < w.heap.size) :
    Calls Try.prog 69 #[.func (.func gf) #[] caps.toArray] w fun e w' => ∃ v vis, e = .returned v ∧ F vis ∧ OwnV w' w.heap.size 3 v (vis.map (Value.int .i64)) ∧ Agree (fun k => w.heap.size ≤ k) w w' := by
  refine calls_vc (rs := [.tmp 2]) Fa.mix Try.func69 rfl Try.ntmps69 rfl (by kernel_rfl) (Nat.le_of_ble_eq_true rfl) ?_
  simp -dsimp (maxSteps := 2000000) only [Fa.F69, VC.Now, VC.vc, VC.lib, VC.mapN_drewN, VC.mapB_drewN, VC.regQ, VC.loopK, VC.reg, VC.opP, VC.opS, VC.opZ, VC.nomulB, VC.pv, VC.thenF, VC.blkF, VC.retF, VC.resV, VC.oneV, VC.evo, VC.bin, VC.binI, VC.cmpI, VC.arithI, VC.ldv, VC.slv, VC.pickP, VC.holds, VC.chainOf, VC.look, VC.junk, VC.put, VC.eff, VC.callee, VC.pureB, VC.rdK, VC.rdKs, VC.okKs, VC.eqKs, VC.fillL, VC.putL, VC.stW, VC.stOK, VC.mixF, VC.setAll, Nat.reduceAdd, Nat.reduceSub, Nat.reduceMul, if_true, if_false, ↓reduceIte, forall_const, implies_true, reduceCtorEq, ne_eq, Nat.reduceBNe, Nat.reduceBEq, IntKind.signed, Nat.reduceEqDiff, Nat.reduceLeDiff, Nat.reduceLT, eq_self, Int.reduceEq, Int.reduceLT, Int.reduceLE, Int.reduceAdd, Int.reduceSub, VC.regC_nil, VC.regC_cons, VC.regCK_eq, VC.callQ, VC.tailQ, VC.goCall, VC.chStep]
  refine CALL_by (appendSeqG_any F gf caps Kp w hit hgf hKp) ?_
  rintro _ w1 ⟨v, vis, rfl, hF, h1, h2⟩
  refine ⟨_, rfl, ?_⟩
  rw [VC.Now, VC.seqK_eq]
  simp -dsimp (maxSteps := 2000000) only [Fa.F69, VC.Now, VC.vc, VC.lib, VC.mapN_drewN, VC.mapB_drewN, VC.regQ, VC.loopK, VC.reg, VC.opP, VC.opS, VC.opZ, VC.nomulB, VC.pv, VC.thenF, VC.blkF, VC.retF, VC.resV, VC.oneV, VC.evo, VC.bin, VC.binI, VC.cmpI, VC.arithI, VC.ldv, VC.slv, VC.pickP, VC.holds, VC.chainOf, VC.look, VC.junk, VC.put, VC.eff, VC.callee, VC.pureB, VC.rdK, VC.rdKs, VC.okKs, VC.eqKs, VC.fillL, VC.putL, VC.stW, VC.stOK, VC.mixF, VC.setAll, Nat.reduceAdd, Nat.reduceSub, Nat.reduceMul, if_true, if_false, ↓reduceIte, forall_const, implies_true, reduceCtorEq, ne_eq, Nat.reduceBNe, Nat.reduceBEq, IntKind.signed, Nat.reduceEqDiff, Nat.reduceLeDiff, Nat.reduceLT, eq_self, Int.reduceEq, Int.reduceLT, Int.reduceLE, Int.reduceAdd, Int.reduceSub, VC.regC_nil, VC.regC_cons, VC.regCK_eq, VC.callQ, VC.tailQ, VC.goCall, VC.chStep]
  exact ⟨_, vis, rfl, hF, h1, h2⟩
end Go.Proofs.Ytelfmhiaafkimaa
