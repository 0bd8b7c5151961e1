/- folkmootref.Codes: are two lists the same? -/
import Derived.Test.YtelfmhiaafkimaaFa
import Derived.Test.YtelfmhiaafkimaaOwn
namespace Go.Proofs.Ytelfmhiaafkimaa
open Go Go.RowKit Go.VC
set_option linter.unusedSimpArgs false
set_option linter.unusedVariables false

theorem take_eq_succC {α : Type} {l l' : List α} {k : Nat} (h : l.take k = l'.take k) (hk : k < l.length) (hk' : k < l'.length) : l.take (k + 1) = l'.take (k + 1) ↔ l[k] = l'[k] := by
  rw [List.take_succ_eq_append_getElem hk, List.take_succ_eq_append_getElem hk', h, List.append_cancel_left_eq]
  simp

set_option maxHeartbeats 1000000 in
theorem codes_any (A B : Option Addr) (c d : Nat) (l l' : List Int) (w : World) (hr : Rd w A (l.map (Value.int .i64))) (hr' : Rd w B (l'.map (Value.int .i64))) (hl : l.length ≤ 1000000) (hl' : l'.length ≤ 1000000) :
    Calls Try.prog 50 #[.slice A l.length c, .slice B l'.length d] w fun e w' => e = .returned (.bool (decide (l = l'))) ∧ Below w.heap.size w w' := by
  by_cases hne : l.length = l'.length
  · refine calls_vc (rs := [.tmp 4]) Fa.mix Try.func50 rfl Try.ntmps50 rfl (by kernel_rfl) (Nat.le_of_ble_eq_true rfl) ?_
    simp -dsimp (maxSteps := 2000000) only [Fa.F50, VC.Now, VC.vc, VC.lib, VC.mapN_drewN, VC.mapB_drewN, VC.regQ, VC.loopK, VC.reg, VC.opP, VC.opS, VC.opZ, VC.nomulB, VC.pv, VC.thenF, VC.blkF, VC.retF, VC.resV, VC.oneV, VC.evo, VC.bin, VC.binI, VC.cmpI, VC.arithI, VC.ldv, VC.slv, VC.pickP, VC.holds, VC.chainOf, VC.look, VC.junk, VC.put, VC.eff, VC.callee, VC.pureB, VC.rdK, VC.rdKs, VC.okKs, VC.eqKs, VC.fillL, VC.putL, VC.stW, VC.stOK, VC.mixF, VC.setAll, Nat.reduceAdd, Nat.reduceSub, Nat.reduceMul, if_true, if_false, ↓reduceIte, forall_const, implies_true, reduceCtorEq, ne_eq, Nat.reduceBNe, Nat.reduceBEq, IntKind.signed, Nat.reduceEqDiff, Nat.reduceLeDiff, Nat.reduceLT, eq_self, Int.reduceEq, Int.reduceLT, Int.reduceLE, Int.reduceAdd, Int.reduceSub, VC.regC_nil, VC.regC_cons, VC.regCK_eq, VC.callQ, VC.tailQ, VC.goCall, VC.chStep]
    refine ⟨fun h => absurd h (by omega), fun _ => ?_⟩
    refine loop_slots Fa.mix [5] [4, 11, 12, 13, 14, 15, 16, 17, 18, 19, 20, 21, 22, 23, 24, 25] (fun m vs wr => ∃ k : Nat, k + m = l.length ∧ vs = [.int .i64 k] ∧ Below w.heap.size w wr ∧ l.take k = l'.take k) l.length (by kernel_rfl) rfl
      ⟨0, by omega, rfl, Below.refl _ _, by simp⟩ ?_
    rintro m vs u wr ⟨k, hkm, rfl, hB, heq⟩
    by_cases hk : k < l.length
    · obtain ⟨b, o, rfl, hb, hc⟩ := (hr.below hB).at hk 0
      obtain ⟨b', o', rfl, hb', hc'⟩ := (hr'.below hB).at (k := k) (by omega) 0
      simp -dsimp (maxSteps := 2000000) only [Fa.F50, rdI_of hc, hc, rdI_of hc', hc', VC.Now, VC.vc, VC.lib, VC.mapN_drewN, VC.mapB_drewN, VC.regQ, VC.loopK, VC.reg, VC.opP, VC.opS, VC.opZ, VC.nomulB, VC.pv, VC.thenF, VC.blkF, VC.retF, VC.resV, VC.oneV, VC.evo, VC.bin, VC.binI, VC.cmpI, VC.arithI, VC.ldv, VC.slv, VC.pickP, VC.holds, VC.chainOf, VC.look, VC.junk, VC.put, VC.eff, VC.callee, VC.pureB, VC.rdK, VC.rdKs, VC.okKs, VC.eqKs, VC.fillL, VC.putL, VC.stW, VC.stOK, VC.mixF, VC.setAll, Nat.reduceAdd, Nat.reduceSub, Nat.reduceMul, if_true, if_false, ↓reduceIte, forall_const, implies_true, reduceCtorEq, ne_eq, Nat.reduceBNe, Nat.reduceBEq, IntKind.signed, Nat.reduceEqDiff, Nat.reduceLeDiff, Nat.reduceLT, eq_self, Int.reduceEq, Int.reduceLT, Int.reduceLE, Int.reduceAdd, Int.reduceSub, VC.regC_nil, VC.regC_cons, VC.regCK_eq, VC.callQ, VC.tailQ, VC.goCall, VC.chStep]
      have hx : l.getD k 0 = l[k] := by simp [hk]
      have hx' : l'.getD k 0 = l'[k]'(by omega) := by simp [show k < l'.length by omega]
      rw [hx, hx']
      refine ⟨fun _ => ⟨by omega, by omega, fun u => ⟨fun h => ⟨ret_bool ?_, below_drewN hB u⟩, fun h => ⟨fits_i64_nat (by omega), SAME.intro (by kernel_rfl), m - 1, by omega, k + 1, by omega, rfl, below_drewN hB u, ?_⟩⟩⟩, fun h => absurd h (by omega)⟩
      · have : l ≠ l' := by rintro rfl; first | exact h rfl | simp at h
        simp [this]
      · exact (take_eq_succC heq hk (by omega)).2 (by first | exact h | simpa using h)
    · obtain rfl : k = l.length := by omega
      simp -dsimp (maxSteps := 2000000) only [Fa.F50, VC.Now, VC.vc, VC.lib, VC.mapN_drewN, VC.mapB_drewN, VC.regQ, VC.loopK, VC.reg, VC.opP, VC.opS, VC.opZ, VC.nomulB, VC.pv, VC.thenF, VC.blkF, VC.retF, VC.resV, VC.oneV, VC.evo, VC.bin, VC.binI, VC.cmpI, VC.arithI, VC.ldv, VC.slv, VC.pickP, VC.holds, VC.chainOf, VC.look, VC.junk, VC.put, VC.eff, VC.callee, VC.pureB, VC.rdK, VC.rdKs, VC.okKs, VC.eqKs, VC.fillL, VC.putL, VC.stW, VC.stOK, VC.mixF, VC.setAll, Nat.reduceAdd, Nat.reduceSub, Nat.reduceMul, if_true, if_false, ↓reduceIte, forall_const, implies_true, reduceCtorEq, ne_eq, Nat.reduceBNe, Nat.reduceBEq, IntKind.signed, Nat.reduceEqDiff, Nat.reduceLeDiff, Nat.reduceLT, eq_self, Int.reduceEq, Int.reduceLT, Int.reduceLE, Int.reduceAdd, Int.reduceSub, VC.regC_nil, VC.regC_cons, VC.regCK_eq, VC.callQ, VC.tailQ, VC.goCall, VC.chStep]
      have : l = l' := by rw [List.take_length, hne, List.take_length] at heq; exact heq
      exact ⟨ret_bool (by simp [this]), hB⟩
  · refine calls_vc (rs := [.tmp 4]) Fa.mix Try.func50 rfl Try.ntmps50 rfl (by kernel_rfl) (Nat.le_of_ble_eq_true rfl) ?_
    simp -dsimp (maxSteps := 2000000) only [Fa.F50, VC.Now, VC.vc, VC.lib, VC.mapN_drewN, VC.mapB_drewN, VC.regQ, VC.loopK, VC.reg, VC.opP, VC.opS, VC.opZ, VC.nomulB, VC.pv, VC.thenF, VC.blkF, VC.retF, VC.resV, VC.oneV, VC.evo, VC.bin, VC.binI, VC.cmpI, VC.arithI, VC.ldv, VC.slv, VC.pickP, VC.holds, VC.chainOf, VC.look, VC.junk, VC.put, VC.eff, VC.callee, VC.pureB, VC.rdK, VC.rdKs, VC.okKs, VC.eqKs, VC.fillL, VC.putL, VC.stW, VC.stOK, VC.mixF, VC.setAll, Nat.reduceAdd, Nat.reduceSub, Nat.reduceMul, if_true, if_false, ↓reduceIte, forall_const, implies_true, reduceCtorEq, ne_eq, Nat.reduceBNe, Nat.reduceBEq, IntKind.signed, Nat.reduceEqDiff, Nat.reduceLeDiff, Nat.reduceLT, eq_self, Int.reduceEq, Int.reduceLT, Int.reduceLE, Int.reduceAdd, Int.reduceSub, VC.regC_nil, VC.regC_cons, VC.regCK_eq, VC.callQ, VC.tailQ, VC.goCall, VC.chStep]
    refine ⟨fun h => ⟨ret_bool ?_, Below.refl _ _⟩, fun h => absurd h (by omega)⟩
    have : l ≠ l' := fun e => hne (by rw [e])
    simp [this]
end Go.Proofs.Ytelfmhiaafkimaa
