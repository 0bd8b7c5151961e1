/- Lists of lists of numbers, compared. -/
import Derived.Test.YtelfmhiaafkimaaLL
import Derived.Test.YtelfmhiaafkimaaPlan
import Derived.Test.YtelfmhiaafkimaaRefSameI
namespace Go.Proofs.Ytelfmhiaafkimaa
open Go Go.RowKit Go.VC
set_option linter.unusedSimpArgs false
set_option linter.unusedVariables false
/-- Lists of lists that lie in memory. -/
def RdLL (w : World) (A : Option Addr) (ls : List (List Int)) : Prop :=
  ∀ i, i < ls.length → ∃ g o A' c, A = some ⟨g, o, none⟩ ∧ g < w.heap.size ∧ w.cell? ⟨g, o + i, none⟩ = some (.slice A' (ls.getD i []).length c) ∧ Rd w A' (vInt (ls.getD i []))
theorem RdLL.below {w w' : World} {A : Option Addr} {ls : List (List Int)} (h : RdLL w A ls) (hB : Below w.heap.size w w') : RdLL w' A ls := by
  intro i hi
  obtain ⟨g, o, A', c, h1, h2, h3, h4⟩ := h i hi
  exact ⟨g, o, A', c, h1, Nat.lt_of_lt_of_le h2 hB.size, (hB.cell (p := ⟨g, o + i, none⟩) h2).trans h3, h4.below hB⟩
set_option maxRecDepth 8000 in
set_option maxHeartbeats 1000000 in
theorem lists_any (A B : Option Addr) (c d : Nat) (l l' : List (List Int)) (w : World) (hr : RdLL w A l) (hr' : RdLL w B l') (hl : l.length ≤ 1000000) (hl' : l'.length ≤ 1000000) (hi : ∀ x ∈ l, x.length ≤ 1000000) (hi' : ∀ x ∈ l', x.length ≤ 1000000) :
    Calls Try.prog 59 #[.slice A l.length c, .slice B l'.length d] w fun e w' => e = .returned (.bool (decide (l = l'))) ∧ Below w.heap.size w w' := by
  by_cases hne : l.length = l'.length
  · refine calls_vc (rs := [.tmp 4]) Fa.mix Try.func59 rfl Try.ntmps59 rfl (by kernel_rfl) (Nat.le_of_ble_eq_true rfl) ?_
    simp -dsimp (maxSteps := 2000000) only [Fa.F59, VC.Now, VC.vc, VC.lib, VC.mapN_drewN, VC.mapB_drewN, VC.regQ, VC.loopK, VC.reg, VC.opP, VC.opS, VC.opZ, VC.nomulB, VC.pv, VC.thenF, VC.blkF, VC.retF, VC.resV, VC.oneV, VC.evo, VC.bin, VC.binI, VC.cmpI, VC.arithI, VC.ldv, VC.slv, VC.pickP, VC.holds, VC.chainOf, VC.look, VC.junk, VC.put, VC.eff, VC.callee, VC.pureB, VC.rdK, VC.rdKs, VC.okKs, VC.eqKs, VC.fillL, VC.putL, VC.stW, VC.stOK, VC.mixF, VC.setAll, Nat.reduceAdd, Nat.reduceSub, Nat.reduceMul, if_true, if_false, ↓reduceIte, forall_const, implies_true, reduceCtorEq, ne_eq, Nat.reduceBNe, Nat.reduceBEq, IntKind.signed, Nat.reduceEqDiff, Nat.reduceLeDiff, Nat.reduceLT, eq_self, Int.reduceEq, Int.reduceLT, Int.reduceLE, Int.reduceAdd, Int.reduceSub, VC.regC_nil, VC.regC_cons, VC.regCK_eq, VC.callQ, VC.tailQ, VC.goCall, VC.chStep]
    refine ⟨fun h => absurd h (by omega), fun _ => ?_⟩
    refine loop_slots Fa.mix [5] [4, 11, 12, 13, 14, 15, 16, 17, 18, 19, 20, 21, 22, 23, 24, 25, 26] (fun m vs wr => ∃ k : Nat, k + m = l.length ∧ vs = [.int .i64 k] ∧ Below w.heap.size w wr ∧ l.take k = l'.take k) l.length (by kernel_rfl) rfl
      ⟨0, by omega, rfl, Below.refl _ _, by simp⟩ ?_
    rintro m vs u wr ⟨k, hkm, rfl, hB, heq⟩
    by_cases hk : k < l.length
    · have hk' : k < l'.length := by omega
      obtain ⟨b, o, A', c', rfl, hb, hc, hA'⟩ := (hr.below hB) k hk
      obtain ⟨b2, o2, B', d', rfl, hb2, hc2, hB'⟩ := (hr'.below hB) k hk'
      simp -dsimp (maxSteps := 2000000) only [Fa.F59, VC.Now, VC.vc, VC.lib, VC.mapN_drewN, VC.mapB_drewN, VC.regQ, VC.loopK, VC.reg, VC.opP, VC.opS, VC.opZ, VC.nomulB, VC.pv, VC.thenF, VC.blkF, VC.retF, VC.resV, VC.oneV, VC.evo, VC.bin, VC.binI, VC.cmpI, VC.arithI, VC.ldv, VC.slv, VC.pickP, VC.holds, VC.chainOf, VC.look, VC.junk, VC.put, VC.eff, VC.callee, VC.pureB, VC.rdK, VC.rdKs, VC.okKs, VC.eqKs, VC.fillL, VC.putL, VC.stW, VC.stOK, VC.mixF, VC.setAll, Nat.reduceAdd, Nat.reduceSub, Nat.reduceMul, if_true, if_false, ↓reduceIte, forall_const, implies_true, reduceCtorEq, ne_eq, Nat.reduceBNe, Nat.reduceBEq, IntKind.signed, Nat.reduceEqDiff, Nat.reduceLeDiff, Nat.reduceLT, eq_self, Int.reduceEq, Int.reduceLT, Int.reduceLE, Int.reduceAdd, Int.reduceSub, VC.regC_nil, VC.regC_cons, VC.regCK_eq, VC.callQ, VC.tailQ, VC.goCall, VC.chStep]
      refine ⟨fun _ => ?_, fun h => absurd h (by omega)⟩
      refine WP_calls Fa.mix (by kernel_rfl) (by kernel_rfl) rfl ?_
      have hx : l.getD k [] = l[k] := by simp [hk]
      have hx' : l'.getD k [] = l'[k]'hk' := by simp [hk']
      simp -dsimp (maxSteps := 2000000) only [Fa.F59, rdSA_of hc, rdSN_of hc, rdSC_of hc, hc, rdSA_of hc2, rdSN_of hc2, rdSC_of hc2, hc2, VC.Now, VC.vc, VC.lib, VC.mapN_drewN, VC.mapB_drewN, VC.regQ, VC.loopK, VC.reg, VC.opP, VC.opS, VC.opZ, VC.nomulB, VC.pv, VC.thenF, VC.blkF, VC.retF, VC.resV, VC.oneV, VC.evo, VC.bin, VC.binI, VC.cmpI, VC.arithI, VC.ldv, VC.slv, VC.pickP, VC.holds, VC.chainOf, VC.look, VC.junk, VC.put, VC.eff, VC.callee, VC.pureB, VC.rdK, VC.rdKs, VC.okKs, VC.eqKs, VC.fillL, VC.putL, VC.stW, VC.stOK, VC.mixF, VC.setAll, Nat.reduceAdd, Nat.reduceSub, Nat.reduceMul, if_true, if_false, ↓reduceIte, forall_const, implies_true, reduceCtorEq, ne_eq, Nat.reduceBNe, Nat.reduceBEq, IntKind.signed, Nat.reduceEqDiff, Nat.reduceLeDiff, Nat.reduceLT, eq_self, Int.reduceEq, Int.reduceLT, Int.reduceLE, Int.reduceAdd, Int.reduceSub, VC.regC_nil, VC.regC_cons, VC.regCK_eq, VC.callQ, VC.tailQ, VC.goCall, VC.chStep]
      refine ⟨by omega, by omega, CALLQ_of (v := .bool (decide (l.getD k [] = l'.getD k []))) (fun _ wx hBx => ints_any A' B' c' d' (l.getD k []) (l'.getD k []) wx (hA'.below hBx) (hB'.below hBx) (hi _ (by rw [hx]; exact List.getElem_mem hk)) (hi' _ (by rw [hx']; exact List.getElem_mem hk'))) ?_⟩
      simp -dsimp (maxSteps := 2000000) only [Fa.F59, VC.Now, VC.vc, VC.lib, VC.mapN_drewN, VC.mapB_drewN, VC.regQ, VC.loopK, VC.reg, VC.opP, VC.opS, VC.opZ, VC.nomulB, VC.pv, VC.thenF, VC.blkF, VC.retF, VC.resV, VC.oneV, VC.evo, VC.bin, VC.binI, VC.cmpI, VC.arithI, VC.ldv, VC.slv, VC.pickP, VC.holds, VC.chainOf, VC.look, VC.junk, VC.put, VC.eff, VC.callee, VC.pureB, VC.rdK, VC.rdKs, VC.okKs, VC.eqKs, VC.fillL, VC.putL, VC.stW, VC.stOK, VC.mixF, VC.setAll, Nat.reduceAdd, Nat.reduceSub, Nat.reduceMul, if_true, if_false, ↓reduceIte, forall_const, implies_true, reduceCtorEq, ne_eq, Nat.reduceBNe, Nat.reduceBEq, IntKind.signed, Nat.reduceEqDiff, Nat.reduceLeDiff, Nat.reduceLT, eq_self, Int.reduceEq, Int.reduceLT, Int.reduceLE, Int.reduceAdd, Int.reduceSub, VC.regC_nil, VC.regC_cons, VC.regCK_eq, VC.callQ, VC.tailQ, VC.goCall, VC.chStep]
      refine fun w' hB' => ⟨fun h => ⟨ret_bool ?_, hB.trans (hB'.mono hB.size)⟩, fun h => ⟨fits_i64_nat (by omega), SAME.intro (by kernel_rfl), m - 1, by omega, k + 1, by omega, rfl, hB.trans (hB'.mono hB.size), ?_⟩⟩
      · have : l ≠ l' := by rintro rfl; exact h rfl
        simp [this]
      · exact (take_eq_succI heq hk hk').2 (by rw [← hx, ← hx']; exact h)
    · obtain rfl : k = l.length := by omega
      simp -dsimp (maxSteps := 2000000) only [Fa.F59, VC.Now, VC.vc, VC.lib, VC.mapN_drewN, VC.mapB_drewN, VC.regQ, VC.loopK, VC.reg, VC.opP, VC.opS, VC.opZ, VC.nomulB, VC.pv, VC.thenF, VC.blkF, VC.retF, VC.resV, VC.oneV, VC.evo, VC.bin, VC.binI, VC.cmpI, VC.arithI, VC.ldv, VC.slv, VC.pickP, VC.holds, VC.chainOf, VC.look, VC.junk, VC.put, VC.eff, VC.callee, VC.pureB, VC.rdK, VC.rdKs, VC.okKs, VC.eqKs, VC.fillL, VC.putL, VC.stW, VC.stOK, VC.mixF, VC.setAll, Nat.reduceAdd, Nat.reduceSub, Nat.reduceMul, if_true, if_false, ↓reduceIte, forall_const, implies_true, reduceCtorEq, ne_eq, Nat.reduceBNe, Nat.reduceBEq, IntKind.signed, Nat.reduceEqDiff, Nat.reduceLeDiff, Nat.reduceLT, eq_self, Int.reduceEq, Int.reduceLT, Int.reduceLE, Int.reduceAdd, Int.reduceSub, VC.regC_nil, VC.regC_cons, VC.regCK_eq, VC.callQ, VC.tailQ, VC.goCall, VC.chStep]
      have : l = l' := by rw [List.take_length, hne, List.take_length] at heq; exact heq
      exact ⟨ret_bool (by simp [this]), hB⟩
  · refine calls_vc (rs := [.tmp 4]) Fa.mix Try.func59 rfl Try.ntmps59 rfl (by kernel_rfl) (Nat.le_of_ble_eq_true rfl) ?_
    simp -dsimp (maxSteps := 2000000) only [Fa.F59, VC.Now, VC.vc, VC.lib, VC.mapN_drewN, VC.mapB_drewN, VC.regQ, VC.loopK, VC.reg, VC.opP, VC.opS, VC.opZ, VC.nomulB, VC.pv, VC.thenF, VC.blkF, VC.retF, VC.resV, VC.oneV, VC.evo, VC.bin, VC.binI, VC.cmpI, VC.arithI, VC.ldv, VC.slv, VC.pickP, VC.holds, VC.chainOf, VC.look, VC.junk, VC.put, VC.eff, VC.callee, VC.pureB, VC.rdK, VC.rdKs, VC.okKs, VC.eqKs, VC.fillL, VC.putL, VC.stW, VC.stOK, VC.mixF, VC.setAll, Nat.reduceAdd, Nat.reduceSub, Nat.reduceMul, if_true, if_false, ↓reduceIte, forall_const, implies_true, reduceCtorEq, ne_eq, Nat.reduceBNe, Nat.reduceBEq, IntKind.signed, Nat.reduceEqDiff, Nat.reduceLeDiff, Nat.reduceLT, eq_self, Int.reduceEq, Int.reduceLT, Int.reduceLE, Int.reduceAdd, Int.reduceSub, VC.regC_nil, VC.regC_cons, VC.regCK_eq, VC.callQ, VC.tailQ, VC.goCall, VC.chStep]
    refine ⟨fun h => ⟨ret_bool ?_, Below.refl _ _⟩, fun h => absurd h (by omega)⟩
    have : l ≠ l' := fun e => hne (by rw [e])
    simp [this]

end Go.Proofs.Ytelfmhiaafkimaa
