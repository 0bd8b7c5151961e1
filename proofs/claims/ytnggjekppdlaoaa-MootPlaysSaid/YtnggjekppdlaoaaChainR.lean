/- Paths as the document has them. -/
import Derived.Test.YtnggjekppdlaoaaChainPlain
import Derived.Test.YtnggjekppdlaoaaRefHas
namespace Go.Proofs.Ytnggjekppdlaoaa
open Go Go.RowKit Go.VC
set_option linter.unusedSimpArgs false
set_option linter.unusedVariables false

/-- A list of ints that a call made for itself. -/
def OwnI (w : World) (B : Nat) (v : Value) (l : List Int) : Prop :=
  ∃ A c, v = .slice A l.length c ∧ w.ownsRow B 3 1 (.slice A l.length c) l.length (l.map (Value.int .i64))

theorem OwnI.rd {w : World} {B : Nat} {A : Option Addr} {n c : Nat} {l : List Int} (h : OwnI w B (.slice A n c) l) : n = l.length ∧ Rd w A (l.map (Value.int .i64)) := by
  obtain ⟨A', c', hv, ho⟩ := h
  simp only [Value.slice.injEq] at hv
  obtain ⟨rfl, rfl, rfl⟩ := hv
  exact ⟨rfl, Rd.of_own (by simpa using ho)⟩

set_option maxHeartbeats 1000000 in
theorem pathRef_any (A : Option Addr) (n c : Nat) (p r : Nat → Int) (hn : n ≤ 40) (hu : Up n p) : ∀ (b : Nat) (w : World), b < n → RdBlk w A n p r →
    Calls Try.prog 79 #[.slice A n c, .int .i64 b] w fun e w' => ∃ v, e = .returned v ∧ OwnI w' w.heap.size v (path p b) ∧ Below w.heap.size w w' := by
  intro b
  induction b using Nat.strongRecOn with
  | _ b ih =>
  intro w hb hr
  obtain ⟨bb, o, rfl, hbb, hc⟩ := hr (by omega)
  obtain ⟨hpb, hrb, _, _⟩ := hc b hb
  refine calls_vc (rs := [.tmp 4]) Fa.mix Try.func79 rfl Try.ntmps79 rfl (by kernel_rfl) (Nat.le_of_ble_eq_true rfl) ?_
  simp -dsimp only [Fa.F79, rdI_of hpb, hpb, VC.Now, VC.vc, VC.lib, VC.regQ, VC.loopK, VC.reg, VC.opP, VC.pv, VC.thenF, VC.blkF, VC.retF, VC.resV, VC.oneV, VC.evo, VC.bin, VC.binI, VC.cmpI, VC.arithI, VC.ldv, VC.slv, VC.pickP, VC.holds, VC.chainOf, VC.look, VC.junk, VC.put, VC.eff, VC.callee, VC.pureB, VC.rdK, VC.rdKs, VC.okKs, VC.eqKs, VC.fillL, VC.putL, VC.stW, VC.stOK, VC.mixF, VC.setAll, Nat.reduceAdd, Nat.reduceSub, Nat.reduceMul, if_true, if_false, ↓reduceIte, forall_const, implies_true, reduceCtorEq, ne_eq, Nat.reduceBNe, Nat.reduceBEq, IntKind.signed, Nat.reduceEqDiff, Nat.reduceLeDiff, Nat.reduceLT, eq_self, Int.reduceEq, Int.reduceLT, Int.reduceLE, Int.reduceAdd, Int.reduceSub, VC.regC_nil, VC.regC_cons, VC.regCK_eq, VC.callQ, VC.tailQ, VC.goCall, VC.chStep]
  refine ⟨fun h0 => ?_, fun h0 => ⟨by omega, ?_⟩⟩
  · obtain rfl : b = 0 := by omega
    refine ⟨_, rfl, ⟨some ⟨w.heap.size, 0, none⟩, 1, rfl, ?_⟩, below_box (Below.refl _ _) _⟩
    exact World.ownsRow_lit w _ 1 (Nat.le_refl _) (by simp [maxLen]) rfl
  · have hlt := hu b (by omega) hb
    obtain ⟨q, hq⟩ : ∃ q : Nat, p b = q := ⟨(p b).toNat, by omega⟩
    have hpa : path p b = path p q ++ [(b : Int)] := by rw [path_succ hu (by omega) hb, hq]; rfl
    have hql := path_length hu q (by omega)
    rw [hq]
    refine CALL_ex (ih q (by omega) w (by omega) hr) fun v w1 ⟨⟨A1, c1, hv, ho⟩, hB⟩ => ?_
    subst hv
    simp -dsimp only [Fa.F79, VC.Now, VC.vc, VC.lib, VC.regQ, VC.loopK, VC.reg, VC.opP, VC.pv, VC.thenF, VC.blkF, VC.retF, VC.resV, VC.oneV, VC.evo, VC.bin, VC.binI, VC.cmpI, VC.arithI, VC.ldv, VC.slv, VC.pickP, VC.holds, VC.chainOf, VC.look, VC.junk, VC.put, VC.eff, VC.callee, VC.pureB, VC.rdK, VC.rdKs, VC.okKs, VC.eqKs, VC.fillL, VC.putL, VC.stW, VC.stOK, VC.mixF, VC.setAll, Nat.reduceAdd, Nat.reduceSub, Nat.reduceMul, if_true, if_false, ↓reduceIte, forall_const, implies_true, reduceCtorEq, ne_eq, Nat.reduceBNe, Nat.reduceBEq, IntKind.signed, Nat.reduceEqDiff, Nat.reduceLeDiff, Nat.reduceLT, eq_self, Int.reduceEq, Int.reduceLT, Int.reduceLE, Int.reduceAdd, Int.reduceSub, VC.regC_nil, VC.regC_cons, VC.regCK_eq, VC.callQ, VC.tailQ, VC.goCall, VC.chStep]
    refine OPW_append1 rfl Fa.apI22 rfl rfl rfl (by simp [Value.oneCell']) ho (by omega) (by omega) hB.size ?_
    intro A2 c2 w2 ho2 hg hloc
    simp -dsimp only [Fa.F79, VC.Now, VC.vc, VC.lib, VC.regQ, VC.loopK, VC.reg, VC.opP, VC.pv, VC.thenF, VC.blkF, VC.retF, VC.resV, VC.oneV, VC.evo, VC.bin, VC.binI, VC.cmpI, VC.arithI, VC.ldv, VC.slv, VC.pickP, VC.holds, VC.chainOf, VC.look, VC.junk, VC.put, VC.eff, VC.callee, VC.pureB, VC.rdK, VC.rdKs, VC.okKs, VC.eqKs, VC.fillL, VC.putL, VC.stW, VC.stOK, VC.mixF, VC.setAll, Nat.reduceAdd, Nat.reduceSub, Nat.reduceMul, if_true, if_false, ↓reduceIte, forall_const, implies_true, reduceCtorEq, ne_eq, Nat.reduceBNe, Nat.reduceBEq, IntKind.signed, Nat.reduceEqDiff, Nat.reduceLeDiff, Nat.reduceLT, eq_self, Int.reduceEq, Int.reduceLT, Int.reduceLE, Int.reduceAdd, Int.reduceSub, VC.regC_nil, VC.regC_cons, VC.regCK_eq, VC.callQ, VC.tailQ, VC.goCall, VC.chStep]
    refine ⟨_, rfl, ⟨A2, c2, ?_, ?_⟩, ?_⟩
    · rw [hpa]; simp
    · rw [hpa]; simpa using ho2
    · exact hB.grown hg hB.size fun k hk => (ho.lt k hk).1

end Go.Proofs.Ytnggjekppdlaoaa
