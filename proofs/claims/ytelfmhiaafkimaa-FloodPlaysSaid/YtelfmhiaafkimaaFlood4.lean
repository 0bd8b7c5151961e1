/- The keys of a map, in whatever order; the least of some. -/
import Derived.Test.YtelfmhiaafkimaaCollectG
import Derived.Test.YtelfmhiaafkimaaFlood1
namespace Go.Proofs.Ytelfmhiaafkimaa
open Go Go.RowKit Go.VC
set_option linter.unusedSimpArgs false
set_option linter.unusedVariables false
set_option maxRecDepth 8000 in
set_option maxHeartbeats 1000000 in
theorem keys_iter (b n : Nat) (m : Int → Option Value) (bB : Nat) (Kp : Nat → Prop) (w : World) (hM : MapV Try.prog EJ w b n m) (hcb : w.cell? ⟨bB, 0, none⟩ = some (.map (some b))) (hn : n ≤ 100000) (hK1 : Kp bB) (hK2 : Kp b) :
    IterG Try.prog 104 [.pointer (some ⟨bB, 0, none⟩)] ([] : List Int) (fun vis vals vis' W => ∃ x, vals = #[.int .i64 x] ∧ vis' = vis ++ [x] ∧ vis.length ≤ 100000) (fun vis => vis.length ≤ n ∧ ∀ x, x ∈ vis ↔ (EJ.ok x ∧ (m x).isSome = true)) (fun s k => k = s) Kp w := by
  intro l J Jx W hB hJ hJx h0 hround
  have hbs : bB < w.heap.size := World.block_lt_of_cell? w _ hcb
  have hcW : W.cell? ⟨bB, 0, none⟩ = some (.map (some b)) := (hB.cell (p := ⟨bB, 0, none⟩) hbs).trans hcb
  have hbl : b < w.heap.size := hM.lt
  have hMW := hM.below hB
  refine calls_vc (rs := []) Fa.mix Try.func104 rfl Try.ntmps104 rfl (by kernel_rfl) (Nat.le_of_ble_eq_true rfl) ?_
  simp -dsimp (maxSteps := 2000000) only [Fa.F104, rdM_of hcW, hcW, VC.Now, VC.vc, VC.lib, VC.mapN_drewN, VC.mapB_drewN, VC.regQ, VC.loopK, VC.reg, VC.opP, VC.opS, VC.opZ, VC.nomulB, VC.pv, VC.thenF, VC.blkF, VC.retF, VC.resV, VC.oneV, VC.evo, VC.bin, VC.binI, VC.cmpI, VC.arithI, VC.ldv, VC.slv, VC.pickP, VC.holds, VC.chainOf, VC.look, VC.junk, VC.put, VC.eff, VC.callee, VC.pureB, VC.rdK, VC.rdKs, VC.okKs, VC.eqKs, VC.fillL, VC.putL, VC.stW, VC.stOK, VC.mixF, VC.setAll, Nat.reduceAdd, Nat.reduceSub, Nat.reduceMul, if_true, if_false, ↓reduceIte, forall_const, implies_true, reduceCtorEq, ne_eq, Nat.reduceBNe, Nat.reduceBEq, IntKind.signed, Nat.reduceEqDiff, Nat.reduceLeDiff, Nat.reduceLT, eq_self, Int.reduceEq, Int.reduceLT, Int.reduceLE, Int.reduceAdd, Int.reduceSub, VC.regC_nil, VC.regC_cons, VC.regCK_eq, VC.callQ, VC.tailQ, VC.goCall, VC.chStep]
  refine OPW_rangeV hMW rfl (by kernel_rfl) rfl fun w1 hR hB1 hs1 => ?_
  rw [VC.Now, VC.seqK_eq]
  simp -dsimp (maxSteps := 2000000) only [Fa.F104, VC.Now, VC.vc, VC.lib, VC.mapN_drewN, VC.mapB_drewN, VC.regQ, VC.loopK, VC.reg, VC.opP, VC.opS, VC.opZ, VC.nomulB, VC.pv, VC.thenF, VC.blkF, VC.retF, VC.resV, VC.oneV, VC.evo, VC.bin, VC.binI, VC.cmpI, VC.arithI, VC.ldv, VC.slv, VC.pickP, VC.holds, VC.chainOf, VC.look, VC.junk, VC.put, VC.eff, VC.callee, VC.pureB, VC.rdK, VC.rdKs, VC.okKs, VC.eqKs, VC.fillL, VC.putL, VC.stW, VC.stOK, VC.mixF, VC.setAll, Nat.reduceAdd, Nat.reduceSub, Nat.reduceMul, if_true, if_false, ↓reduceIte, forall_const, implies_true, reduceCtorEq, ne_eq, Nat.reduceBNe, Nat.reduceBEq, IntKind.signed, Nat.reduceEqDiff, Nat.reduceLeDiff, Nat.reduceLT, eq_self, Int.reduceEq, Int.reduceLT, Int.reduceLE, Int.reduceAdd, Int.reduceSub, VC.regC_nil, VC.regC_cons, VC.regCK_eq, VC.callQ, VC.tailQ, VC.goCall, VC.chStep]
  have hws := hB.size
  have hJ1 := hJ _ _ _ h0 (Agree.of_below hB1)
  refine loop_slots Fa.mix [] [3, 6, 7, 8, 9, 10, 11, 12, 13] (fun cnt vs wr => ∃ (vis : List Int) (left : Int → Prop), vs = [] ∧ J vis wr ∧ RangeV Try.prog EJ wr b W.heap.size n m left cnt ∧ (∀ x, EJ.ok x → (left x ↔ ((m x).isSome = true ∧ x ∉ vis))) ∧ (∀ x ∈ vis, EJ.ok x ∧ (m x).isSome = true) ∧ vis.length + cnt ≤ n) n (by kernel_rfl) rfl
    ⟨[], _, rfl, hJ1, hR, fun x hx => by simp, fun x hx => (by cases hx), by simp⟩ ?_
  clear hR hJ1 hB1 hs1
  rintro m2 vs u wr ⟨vis, left, rfl, hJv, hR, hl, hv, hlen⟩
  simp -dsimp (maxSteps := 2000000) only [Fa.F104, VC.Now, VC.vc, VC.lib, VC.mapN_drewN, VC.mapB_drewN, VC.regQ, VC.loopK, VC.reg, VC.opP, VC.opS, VC.opZ, VC.nomulB, VC.pv, VC.thenF, VC.blkF, VC.retF, VC.resV, VC.oneV, VC.evo, VC.bin, VC.binI, VC.cmpI, VC.arithI, VC.ldv, VC.slv, VC.pickP, VC.holds, VC.chainOf, VC.look, VC.junk, VC.put, VC.eff, VC.callee, VC.pureB, VC.rdK, VC.rdKs, VC.okKs, VC.eqKs, VC.fillL, VC.putL, VC.stW, VC.stOK, VC.mixF, VC.setAll, Nat.reduceAdd, Nat.reduceSub, Nat.reduceMul, if_true, if_false, ↓reduceIte, forall_const, implies_true, reduceCtorEq, ne_eq, Nat.reduceBNe, Nat.reduceBEq, IntKind.signed, Nat.reduceEqDiff, Nat.reduceLeDiff, Nat.reduceLT, eq_self, Int.reduceEq, Int.reduceLT, Int.reduceLE, Int.reduceAdd, Int.reduceSub, VC.regC_nil, VC.regC_cons, VC.regCK_eq, VC.callQ, VC.tailQ, VC.goCall, VC.chStep]
  refine OPW_nextV hR rfl rfl (fun h0 hno => ?_) (fun x v w4 cnt' hx hlx hmx hR4 hlt hA4 hs4 hE => ?_)
  · rw [VC.Now, VC.seqK_eq]
    simp -dsimp (maxSteps := 2000000) only [Fa.F104, VC.Now, VC.vc, VC.lib, VC.mapN_drewN, VC.mapB_drewN, VC.regQ, VC.loopK, VC.reg, VC.opP, VC.opS, VC.opZ, VC.nomulB, VC.pv, VC.thenF, VC.blkF, VC.retF, VC.resV, VC.oneV, VC.evo, VC.bin, VC.binI, VC.cmpI, VC.arithI, VC.ldv, VC.slv, VC.pickP, VC.holds, VC.chainOf, VC.look, VC.junk, VC.put, VC.eff, VC.callee, VC.pureB, VC.rdK, VC.rdKs, VC.okKs, VC.eqKs, VC.fillL, VC.putL, VC.stW, VC.stOK, VC.mixF, VC.setAll, Nat.reduceAdd, Nat.reduceSub, Nat.reduceMul, if_true, if_false, ↓reduceIte, forall_const, implies_true, reduceCtorEq, ne_eq, Nat.reduceBNe, Nat.reduceBEq, IntKind.signed, Nat.reduceEqDiff, Nat.reduceLeDiff, Nat.reduceLT, eq_self, Int.reduceEq, Int.reduceLT, Int.reduceLE, Int.reduceAdd, Int.reduceSub, VC.regC_nil, VC.regC_cons, VC.regCK_eq, VC.callQ, VC.tailQ, VC.goCall, VC.chStep]
    refine ⟨⟨_, rfl⟩, .inl ⟨vis, ⟨by omega, fun x => ⟨hv x, fun hh => ?_⟩⟩, hJv⟩⟩
    by_cases e : x ∈ vis
    · exact e
    · exact absurd ((hl x hh.1).2 ⟨hh.2, e⟩) (hno x hh.1)
  · have hxv := (hl x hx).1 hlx
    have hJ4 := hJ _ _ _ hJv hA4
    have hr4 := hR4.lt
    have hK : EJ.K x = .int .i64 x := rfl
    rw [VC.Now, VC.seqK_eq]
    simp -dsimp (maxSteps := 2000000) only [Fa.F104, VC.Now, VC.vc, VC.lib, VC.mapN_drewN, VC.mapB_drewN, VC.regQ, VC.loopK, VC.reg, VC.opP, VC.opS, VC.opZ, VC.nomulB, VC.pv, VC.thenF, VC.blkF, VC.retF, VC.resV, VC.oneV, VC.evo, VC.bin, VC.binI, VC.cmpI, VC.arithI, VC.ldv, VC.slv, VC.pickP, VC.holds, VC.chainOf, VC.look, VC.junk, VC.put, VC.eff, VC.callee, VC.pureB, VC.rdK, VC.rdKs, VC.okKs, VC.eqKs, VC.fillL, VC.putL, VC.stW, VC.stOK, VC.mixF, VC.setAll, Nat.reduceAdd, Nat.reduceSub, Nat.reduceMul, if_true, if_false, ↓reduceIte, forall_const, implies_true, reduceCtorEq, ne_eq, Nat.reduceBNe, Nat.reduceBEq, IntKind.signed, Nat.reduceEqDiff, Nat.reduceLeDiff, Nat.reduceLT, eq_self, Int.reduceEq, Int.reduceLT, Int.reduceLE, Int.reduceAdd, Int.reduceSub, VC.regC_nil, VC.regC_cons, VC.regCK_eq, VC.callQ, VC.tailQ, VC.goCall, VC.chStep]
    refine OPW_entryV hE rfl rfl ?_
    rw [VC.Now, VC.seqK_eq]
    simp -dsimp (maxSteps := 2000000) only [Fa.F104, hK, VC.Now, VC.vc, VC.lib, VC.mapN_drewN, VC.mapB_drewN, VC.regQ, VC.loopK, VC.reg, VC.opP, VC.opS, VC.opZ, VC.nomulB, VC.pv, VC.thenF, VC.blkF, VC.retF, VC.resV, VC.oneV, VC.evo, VC.bin, VC.binI, VC.cmpI, VC.arithI, VC.ldv, VC.slv, VC.pickP, VC.holds, VC.chainOf, VC.look, VC.junk, VC.put, VC.eff, VC.callee, VC.pureB, VC.rdK, VC.rdKs, VC.okKs, VC.eqKs, VC.fillL, VC.putL, VC.stW, VC.stOK, VC.mixF, VC.setAll, Nat.reduceAdd, Nat.reduceSub, Nat.reduceMul, if_true, if_false, ↓reduceIte, forall_const, implies_true, reduceCtorEq, ne_eq, Nat.reduceBNe, Nat.reduceBEq, IntKind.signed, Nat.reduceEqDiff, Nat.reduceLeDiff, Nat.reduceLT, eq_self, Int.reduceEq, Int.reduceLT, Int.reduceLE, Int.reduceAdd, Int.reduceSub, VC.regC_nil, VC.regC_cons, VC.regCK_eq, VC.callQ, VC.tailQ, VC.goCall, VC.chStep]
    refine OPW_yield rfl rfl rfl rfl (yield_monoG (hround vis _ (vis ++ [x]) w4 hJ4 ⟨x, by simp [evo], rfl, by omega⟩ (by rintro k rfl; omega)) ?_)
    rintro e w2 (⟨rfl, hJ2, hA⟩ | ⟨rfl, hJx2⟩)
    · refine ⟨_, rfl, ?_⟩
      rw [VC.Now, VC.seqK_eq]
      simp -dsimp (maxSteps := 2000000) only [Fa.F104, VC.Now, VC.vc, VC.lib, VC.mapN_drewN, VC.mapB_drewN, VC.regQ, VC.loopK, VC.reg, VC.opP, VC.opS, VC.opZ, VC.nomulB, VC.pv, VC.thenF, VC.blkF, VC.retF, VC.resV, VC.oneV, VC.evo, VC.bin, VC.binI, VC.cmpI, VC.arithI, VC.ldv, VC.slv, VC.pickP, VC.holds, VC.chainOf, VC.look, VC.junk, VC.put, VC.eff, VC.callee, VC.pureB, VC.rdK, VC.rdKs, VC.okKs, VC.eqKs, VC.fillL, VC.putL, VC.stW, VC.stOK, VC.mixF, VC.setAll, Nat.reduceAdd, Nat.reduceSub, Nat.reduceMul, if_true, if_false, ↓reduceIte, forall_const, implies_true, reduceCtorEq, ne_eq, Nat.reduceBNe, Nat.reduceBEq, IntKind.signed, Nat.reduceEqDiff, Nat.reduceLeDiff, Nat.reduceLT, eq_self, Int.reduceEq, Int.reduceLT, Int.reduceLE, Int.reduceAdd, Int.reduceSub, VC.regC_nil, VC.regC_cons, VC.regCK_eq, VC.callQ, VC.tailQ, VC.goCall, VC.chStep]
      refine ⟨SAME.intro (by kernel_rfl), cnt', hlt, vis ++ [x], _, hJ2, hR4.agree hA (fun hh => hh (.inl hK2)) (fun hh => hh (.inr rfl)), fun y hy => ?_, fun y hy => ?_, by simp; omega⟩
      · constructor
        · rintro ⟨h1, h2⟩
          have h3 := (hl y hy).1 h1
          exact ⟨h3.1, fun h4 => (List.mem_append.1 h4).elim h3.2 fun h5 => h2 (List.mem_singleton.1 h5)⟩
        · rintro ⟨h1, h2⟩
          exact ⟨(hl y hy).2 ⟨h1, fun h3 => h2 (List.mem_append_left _ h3)⟩, fun h3 => h2 (by rw [h3]; simp)⟩
      · rcases List.mem_append.1 hy with h1 | h1
        · exact hv y h1
        · rw [List.mem_singleton.1 h1]; exact ⟨hx, hxv.1⟩
    · refine ⟨_, rfl, ?_⟩
      rw [VC.Now, VC.seqK_eq]
      simp -dsimp (maxSteps := 2000000) only [Fa.F104, VC.Now, VC.vc, VC.lib, VC.mapN_drewN, VC.mapB_drewN, VC.regQ, VC.loopK, VC.reg, VC.opP, VC.opS, VC.opZ, VC.nomulB, VC.pv, VC.thenF, VC.blkF, VC.retF, VC.resV, VC.oneV, VC.evo, VC.bin, VC.binI, VC.cmpI, VC.arithI, VC.ldv, VC.slv, VC.pickP, VC.holds, VC.chainOf, VC.look, VC.junk, VC.put, VC.eff, VC.callee, VC.pureB, VC.rdK, VC.rdKs, VC.okKs, VC.eqKs, VC.fillL, VC.putL, VC.stW, VC.stOK, VC.mixF, VC.setAll, Nat.reduceAdd, Nat.reduceSub, Nat.reduceMul, if_true, if_false, ↓reduceIte, forall_const, implies_true, reduceCtorEq, ne_eq, Nat.reduceBNe, Nat.reduceBEq, IntKind.signed, Nat.reduceEqDiff, Nat.reduceLeDiff, Nat.reduceLT, eq_self, Int.reduceEq, Int.reduceLT, Int.reduceLE, Int.reduceAdd, Int.reduceSub, VC.regC_nil, VC.regC_cons, VC.regCK_eq, VC.callQ, VC.tailQ, VC.goCall, VC.chStep]
      exact ⟨⟨_, rfl⟩, .inr ⟨_, hJx2⟩⟩
end Go.Proofs.Ytelfmhiaafkimaa
