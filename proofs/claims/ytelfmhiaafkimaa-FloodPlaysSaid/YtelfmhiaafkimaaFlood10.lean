/- What some who crash have said: where something is wrong. -/
import Derived.Test.YtelfmhiaafkimaaFlood2
import Derived.Test.YtelfmhiaafkimaaFlood8
namespace Go.Proofs.Ytelfmhiaafkimaa
open Go Go.RowKit Go.VC
set_option linter.unusedSimpArgs false
set_option linter.unusedVariables false
theorem crash_fit {w : World} {A : Option Addr} {n : Nat} {g : Nat → CrashC} (h : ArgS w A n 3 [.i .i64, .i .i64, .i .u32]) (hr : RdT w A n 3 (fun i => crL (g i))) : ∀ i, i < n → fits .i64 (g i).who := by
  intro i hi
  obtain ⟨b, o, e, hb, hc⟩ := h (by omega)
  obtain ⟨b', o', e', _, hc'⟩ := hr (by omega)
  rw [e] at e'; cases e'
  have h1 := hc' i hi 0 _ rfl
  obtain ⟨h2, n1, h3, h4⟩ := hc i hi 0 _ rfl
  rw [h1, h3] at h2
  have h5 : Value.int .i64 (g i).who = .int .i64 n1 := Option.some.inj h2
  have h6 : (g i).who = n1 := by cases h5; rfl
  rw [h6]; exact h4
theorem fl_pw {n : Nat} {g : Nat → CrashC} : ∀ len, (∀ j, j < len → flBad n g j = 0) → (crs g len).Pairwise fun a b => a.who ≠ b.who
  | 0, _ => List.Pairwise.nil
  | k + 1, h => by
    rw [crs_succ]
    refine List.pairwise_append.2 ⟨fl_pw k (fun j hj => h j (by omega)), List.pairwise_singleton _ _, fun a ha b hb => ?_⟩
    obtain rfl := List.mem_singleton.1 hb
    obtain ⟨j, hj, rfl⟩ := List.mem_map.1 ha
    intro e
    have h1 := h k (by omega)
    unfold flBad at h1
    split at h1
    · exact absurd h1 (by decide)
    · split at h1
      · exact absurd h1 (by decide)
      · rename_i hn
        exact hn (List.any_eq_true.2 ⟨j, hj, decide_eq_true e⟩)
set_option maxRecDepth 8000 in
set_option maxHeartbeats 2000000 in
theorem floodCheck_any (A0 : Option Addr) (n c0 : Nat) (R : Int) (A : Option Addr) (len c : Nat) (g : Nat → CrashC) (w : World) (hr : RdT w A len 3 (fun i => crL (g i))) (ht : ∀ i, (g i).to < 4294967296) :
    Calls Try.prog 34 #[.slice A0 n c0, .int .i64 R, .slice A len c] w fun e w' => e = .returned (.int .i64 (floodCode n R g len)) ∧ Below w.heap.size w w' := by
  by_cases hok : n = 0 ∨ 6 < n ∨ R < 0 ∨ 6 < R ∨ 6 < len
  case neg => exact floodCheck_ok A0 n c0 R A len c g w hr ht hok
  have hc : floodCode n R g len = 1 := by unfold floodCode; rw [if_pos hok]
  rw [hc]
  by_cases q1 : n = 0
  · have b1 : ((n : Int) = 0) = True := eq_true (by omega)
    refine calls_vc (rs := [.tmp 6]) Fa.mix Try.func34 rfl Try.ntmps34 rfl (by kernel_rfl) (Nat.le_of_ble_eq_true rfl) ?_
    simp -dsimp (maxSteps := 2000000) only [Fa.F34, b1, undef, tu, uf, ul, ur, VC.Now, VC.vc, VC.lib, VC.mapN_drewN, VC.mapB_drewN, VC.regQ, VC.loopK, VC.reg, VC.opP, VC.opS, VC.opZ, VC.nomulB, VC.pv, VC.thenF, VC.blkF, VC.retF, VC.resV, VC.oneV, VC.evo, VC.bin, VC.binI, VC.cmpI, VC.arithI, VC.ldv, VC.slv, VC.pickP, VC.holds, VC.chainOf, VC.look, VC.junk, VC.put, VC.eff, VC.callee, VC.pureB, VC.rdK, VC.rdKs, VC.okKs, VC.eqKs, VC.fillL, VC.putL, VC.stW, VC.stOK, VC.mixF, VC.setAll, Nat.reduceAdd, Nat.reduceSub, Nat.reduceMul, if_true, if_false, ↓reduceIte, forall_const, implies_true, reduceCtorEq, ne_eq, Nat.reduceBNe, Nat.reduceBEq, IntKind.signed, Nat.reduceEqDiff, Nat.reduceLeDiff, Nat.reduceLT, eq_self, Int.reduceEq, Int.reduceLT, Int.reduceLE, Int.reduceAdd, Int.reduceSub, VC.regC_nil, VC.regC_cons, VC.regCK_eq, VC.callQ, VC.tailQ, VC.goCall, VC.chStep]
    all_goals try intros
    all_goals exact Below.refl _ _
  have b1 : ((n : Int) = 0) = False := eq_false (by omega)
  by_cases q2 : 6 < n
  · have b2 : ((6 : Int) < n) = True := eq_true (by omega)
    refine calls_vc (rs := [.tmp 6]) Fa.mix Try.func34 rfl Try.ntmps34 rfl (by kernel_rfl) (Nat.le_of_ble_eq_true rfl) ?_
    simp -dsimp (maxSteps := 2000000) only [Fa.F34, b1, b2, undef, tu, uf, ul, ur, VC.Now, VC.vc, VC.lib, VC.mapN_drewN, VC.mapB_drewN, VC.regQ, VC.loopK, VC.reg, VC.opP, VC.opS, VC.opZ, VC.nomulB, VC.pv, VC.thenF, VC.blkF, VC.retF, VC.resV, VC.oneV, VC.evo, VC.bin, VC.binI, VC.cmpI, VC.arithI, VC.ldv, VC.slv, VC.pickP, VC.holds, VC.chainOf, VC.look, VC.junk, VC.put, VC.eff, VC.callee, VC.pureB, VC.rdK, VC.rdKs, VC.okKs, VC.eqKs, VC.fillL, VC.putL, VC.stW, VC.stOK, VC.mixF, VC.setAll, Nat.reduceAdd, Nat.reduceSub, Nat.reduceMul, if_true, if_false, ↓reduceIte, forall_const, implies_true, reduceCtorEq, ne_eq, Nat.reduceBNe, Nat.reduceBEq, IntKind.signed, Nat.reduceEqDiff, Nat.reduceLeDiff, Nat.reduceLT, eq_self, Int.reduceEq, Int.reduceLT, Int.reduceLE, Int.reduceAdd, Int.reduceSub, VC.regC_nil, VC.regC_cons, VC.regCK_eq, VC.callQ, VC.tailQ, VC.goCall, VC.chStep]
    all_goals try intros
    all_goals exact Below.refl _ _
  have b2 : ((6 : Int) < n) = False := eq_false (by omega)
  by_cases q3 : R < 0
  · have b3 := eq_true q3
    refine calls_vc (rs := [.tmp 6]) Fa.mix Try.func34 rfl Try.ntmps34 rfl (by kernel_rfl) (Nat.le_of_ble_eq_true rfl) ?_
    simp -dsimp (maxSteps := 2000000) only [Fa.F34, b1, b2, b3, undef, tu, uf, ul, ur, VC.Now, VC.vc, VC.lib, VC.mapN_drewN, VC.mapB_drewN, VC.regQ, VC.loopK, VC.reg, VC.opP, VC.opS, VC.opZ, VC.nomulB, VC.pv, VC.thenF, VC.blkF, VC.retF, VC.resV, VC.oneV, VC.evo, VC.bin, VC.binI, VC.cmpI, VC.arithI, VC.ldv, VC.slv, VC.pickP, VC.holds, VC.chainOf, VC.look, VC.junk, VC.put, VC.eff, VC.callee, VC.pureB, VC.rdK, VC.rdKs, VC.okKs, VC.eqKs, VC.fillL, VC.putL, VC.stW, VC.stOK, VC.mixF, VC.setAll, Nat.reduceAdd, Nat.reduceSub, Nat.reduceMul, if_true, if_false, ↓reduceIte, forall_const, implies_true, reduceCtorEq, ne_eq, Nat.reduceBNe, Nat.reduceBEq, IntKind.signed, Nat.reduceEqDiff, Nat.reduceLeDiff, Nat.reduceLT, eq_self, Int.reduceEq, Int.reduceLT, Int.reduceLE, Int.reduceAdd, Int.reduceSub, VC.regC_nil, VC.regC_cons, VC.regCK_eq, VC.callQ, VC.tailQ, VC.goCall, VC.chStep]
    all_goals try intros
    all_goals exact Below.refl _ _
  have b3 := eq_false q3
  by_cases q4 : 6 < R
  · have b4 := eq_true q4
    refine calls_vc (rs := [.tmp 6]) Fa.mix Try.func34 rfl Try.ntmps34 rfl (by kernel_rfl) (Nat.le_of_ble_eq_true rfl) ?_
    simp -dsimp (maxSteps := 2000000) only [Fa.F34, b1, b2, b3, b4, undef, tu, uf, ul, ur, VC.Now, VC.vc, VC.lib, VC.mapN_drewN, VC.mapB_drewN, VC.regQ, VC.loopK, VC.reg, VC.opP, VC.opS, VC.opZ, VC.nomulB, VC.pv, VC.thenF, VC.blkF, VC.retF, VC.resV, VC.oneV, VC.evo, VC.bin, VC.binI, VC.cmpI, VC.arithI, VC.ldv, VC.slv, VC.pickP, VC.holds, VC.chainOf, VC.look, VC.junk, VC.put, VC.eff, VC.callee, VC.pureB, VC.rdK, VC.rdKs, VC.okKs, VC.eqKs, VC.fillL, VC.putL, VC.stW, VC.stOK, VC.mixF, VC.setAll, Nat.reduceAdd, Nat.reduceSub, Nat.reduceMul, if_true, if_false, ↓reduceIte, forall_const, implies_true, reduceCtorEq, ne_eq, Nat.reduceBNe, Nat.reduceBEq, IntKind.signed, Nat.reduceEqDiff, Nat.reduceLeDiff, Nat.reduceLT, eq_self, Int.reduceEq, Int.reduceLT, Int.reduceLE, Int.reduceAdd, Int.reduceSub, VC.regC_nil, VC.regC_cons, VC.regCK_eq, VC.callQ, VC.tailQ, VC.goCall, VC.chStep]
    all_goals try intros
    all_goals exact Below.refl _ _
  have b4 := eq_false q4
  have b5 : ((6 : Int) < len) = True := eq_true (by omega)
  refine calls_vc (rs := [.tmp 6]) Fa.mix Try.func34 rfl Try.ntmps34 rfl (by kernel_rfl) (Nat.le_of_ble_eq_true rfl) ?_
  simp -dsimp (maxSteps := 2000000) only [Fa.F34, b1, b2, b3, b4, b5, undef, tu, uf, ul, ur, VC.Now, VC.vc, VC.lib, VC.mapN_drewN, VC.mapB_drewN, VC.regQ, VC.loopK, VC.reg, VC.opP, VC.opS, VC.opZ, VC.nomulB, VC.pv, VC.thenF, VC.blkF, VC.retF, VC.resV, VC.oneV, VC.evo, VC.bin, VC.binI, VC.cmpI, VC.arithI, VC.ldv, VC.slv, VC.pickP, VC.holds, VC.chainOf, VC.look, VC.junk, VC.put, VC.eff, VC.callee, VC.pureB, VC.rdK, VC.rdKs, VC.okKs, VC.eqKs, VC.fillL, VC.putL, VC.stW, VC.stOK, VC.mixF, VC.setAll, Nat.reduceAdd, Nat.reduceSub, Nat.reduceMul, if_true, if_false, ↓reduceIte, forall_const, implies_true, reduceCtorEq, ne_eq, Nat.reduceBNe, Nat.reduceBEq, IntKind.signed, Nat.reduceEqDiff, Nat.reduceLeDiff, Nat.reduceLT, eq_self, Int.reduceEq, Int.reduceLT, Int.reduceLE, Int.reduceAdd, Int.reduceSub, VC.regC_nil, VC.regC_cons, VC.regCK_eq, VC.callQ, VC.tailQ, VC.goCall, VC.chStep]
  all_goals try intros
  all_goals exact Below.refl _ _
set_option maxRecDepth 8000 in
set_option maxHeartbeats 2000000 in
theorem flood_large (A0 : Option Addr) (n c0 : Nat) (R : Int) (A : Option Addr) (len c : Nat) (g : Nat → CrashC) (w : World) (hok : n = 0 ∨ 6 < n ∨ R < 0 ∨ 6 < R ∨ 6 < len) :
    Calls Try.prog 33 #[.slice A0 n c0, .int .i64 R, .slice A len c] w fun e w' => e = .returned (.tuple #[.slice none 0 0, .int .i64 (floodCode n R g len)]) ∧ Below w.heap.size w w' := by
  have hc : floodCode n R g len = 1 := by unfold floodCode; rw [if_pos hok]
  rw [hc]
  by_cases q1 : n = 0
  · have b1 : ((n : Int) = 0) = True := eq_true (by omega)
    refine calls_vc (rs := [.tmp 6, .tmp 7]) Fa.mix Try.func33 rfl Try.ntmps33 rfl (by kernel_rfl) (Nat.le_of_ble_eq_true rfl) ?_
    simp -dsimp (maxSteps := 2000000) only [Fa.F33, b1, undef, tu, uf, ul, ur, VC.Now, VC.vc, VC.lib, VC.mapN_drewN, VC.mapB_drewN, VC.regQ, VC.loopK, VC.reg, VC.opP, VC.opS, VC.opZ, VC.nomulB, VC.pv, VC.thenF, VC.blkF, VC.retF, VC.resV, VC.oneV, VC.evo, VC.bin, VC.binI, VC.cmpI, VC.arithI, VC.ldv, VC.slv, VC.pickP, VC.holds, VC.chainOf, VC.look, VC.junk, VC.put, VC.eff, VC.callee, VC.pureB, VC.rdK, VC.rdKs, VC.okKs, VC.eqKs, VC.fillL, VC.putL, VC.stW, VC.stOK, VC.mixF, VC.setAll, Nat.reduceAdd, Nat.reduceSub, Nat.reduceMul, if_true, if_false, ↓reduceIte, forall_const, implies_true, reduceCtorEq, ne_eq, Nat.reduceBNe, Nat.reduceBEq, IntKind.signed, Nat.reduceEqDiff, Nat.reduceLeDiff, Nat.reduceLT, eq_self, Int.reduceEq, Int.reduceLT, Int.reduceLE, Int.reduceAdd, Int.reduceSub, VC.regC_nil, VC.regC_cons, VC.regCK_eq, VC.callQ, VC.tailQ, VC.goCall, VC.chStep]
    all_goals try intros
    all_goals exact Below.refl _ _
  have b1 : ((n : Int) = 0) = False := eq_false (by omega)
  by_cases q2 : 6 < n
  · have b2 : ((6 : Int) < n) = True := eq_true (by omega)
    refine calls_vc (rs := [.tmp 6, .tmp 7]) Fa.mix Try.func33 rfl Try.ntmps33 rfl (by kernel_rfl) (Nat.le_of_ble_eq_true rfl) ?_
    simp -dsimp (maxSteps := 2000000) only [Fa.F33, b1, b2, undef, tu, uf, ul, ur, VC.Now, VC.vc, VC.lib, VC.mapN_drewN, VC.mapB_drewN, VC.regQ, VC.loopK, VC.reg, VC.opP, VC.opS, VC.opZ, VC.nomulB, VC.pv, VC.thenF, VC.blkF, VC.retF, VC.resV, VC.oneV, VC.evo, VC.bin, VC.binI, VC.cmpI, VC.arithI, VC.ldv, VC.slv, VC.pickP, VC.holds, VC.chainOf, VC.look, VC.junk, VC.put, VC.eff, VC.callee, VC.pureB, VC.rdK, VC.rdKs, VC.okKs, VC.eqKs, VC.fillL, VC.putL, VC.stW, VC.stOK, VC.mixF, VC.setAll, Nat.reduceAdd, Nat.reduceSub, Nat.reduceMul, if_true, if_false, ↓reduceIte, forall_const, implies_true, reduceCtorEq, ne_eq, Nat.reduceBNe, Nat.reduceBEq, IntKind.signed, Nat.reduceEqDiff, Nat.reduceLeDiff, Nat.reduceLT, eq_self, Int.reduceEq, Int.reduceLT, Int.reduceLE, Int.reduceAdd, Int.reduceSub, VC.regC_nil, VC.regC_cons, VC.regCK_eq, VC.callQ, VC.tailQ, VC.goCall, VC.chStep]
    all_goals try intros
    all_goals exact Below.refl _ _
  have b2 : ((6 : Int) < n) = False := eq_false (by omega)
  by_cases q3 : R < 0
  · have b3 := eq_true q3
    refine calls_vc (rs := [.tmp 6, .tmp 7]) Fa.mix Try.func33 rfl Try.ntmps33 rfl (by kernel_rfl) (Nat.le_of_ble_eq_true rfl) ?_
    simp -dsimp (maxSteps := 2000000) only [Fa.F33, b1, b2, b3, undef, tu, uf, ul, ur, VC.Now, VC.vc, VC.lib, VC.mapN_drewN, VC.mapB_drewN, VC.regQ, VC.loopK, VC.reg, VC.opP, VC.opS, VC.opZ, VC.nomulB, VC.pv, VC.thenF, VC.blkF, VC.retF, VC.resV, VC.oneV, VC.evo, VC.bin, VC.binI, VC.cmpI, VC.arithI, VC.ldv, VC.slv, VC.pickP, VC.holds, VC.chainOf, VC.look, VC.junk, VC.put, VC.eff, VC.callee, VC.pureB, VC.rdK, VC.rdKs, VC.okKs, VC.eqKs, VC.fillL, VC.putL, VC.stW, VC.stOK, VC.mixF, VC.setAll, Nat.reduceAdd, Nat.reduceSub, Nat.reduceMul, if_true, if_false, ↓reduceIte, forall_const, implies_true, reduceCtorEq, ne_eq, Nat.reduceBNe, Nat.reduceBEq, IntKind.signed, Nat.reduceEqDiff, Nat.reduceLeDiff, Nat.reduceLT, eq_self, Int.reduceEq, Int.reduceLT, Int.reduceLE, Int.reduceAdd, Int.reduceSub, VC.regC_nil, VC.regC_cons, VC.regCK_eq, VC.callQ, VC.tailQ, VC.goCall, VC.chStep]
    all_goals try intros
    all_goals exact Below.refl _ _
  have b3 := eq_false q3
  by_cases q4 : 6 < R
  · have b4 := eq_true q4
    refine calls_vc (rs := [.tmp 6, .tmp 7]) Fa.mix Try.func33 rfl Try.ntmps33 rfl (by kernel_rfl) (Nat.le_of_ble_eq_true rfl) ?_
    simp -dsimp (maxSteps := 2000000) only [Fa.F33, b1, b2, b3, b4, undef, tu, uf, ul, ur, VC.Now, VC.vc, VC.lib, VC.mapN_drewN, VC.mapB_drewN, VC.regQ, VC.loopK, VC.reg, VC.opP, VC.opS, VC.opZ, VC.nomulB, VC.pv, VC.thenF, VC.blkF, VC.retF, VC.resV, VC.oneV, VC.evo, VC.bin, VC.binI, VC.cmpI, VC.arithI, VC.ldv, VC.slv, VC.pickP, VC.holds, VC.chainOf, VC.look, VC.junk, VC.put, VC.eff, VC.callee, VC.pureB, VC.rdK, VC.rdKs, VC.okKs, VC.eqKs, VC.fillL, VC.putL, VC.stW, VC.stOK, VC.mixF, VC.setAll, Nat.reduceAdd, Nat.reduceSub, Nat.reduceMul, if_true, if_false, ↓reduceIte, forall_const, implies_true, reduceCtorEq, ne_eq, Nat.reduceBNe, Nat.reduceBEq, IntKind.signed, Nat.reduceEqDiff, Nat.reduceLeDiff, Nat.reduceLT, eq_self, Int.reduceEq, Int.reduceLT, Int.reduceLE, Int.reduceAdd, Int.reduceSub, VC.regC_nil, VC.regC_cons, VC.regCK_eq, VC.callQ, VC.tailQ, VC.goCall, VC.chStep]
    all_goals try intros
    all_goals exact Below.refl _ _
  have b4 := eq_false q4
  have b5 : ((6 : Int) < len) = True := eq_true (by omega)
  refine calls_vc (rs := [.tmp 6, .tmp 7]) Fa.mix Try.func33 rfl Try.ntmps33 rfl (by kernel_rfl) (Nat.le_of_ble_eq_true rfl) ?_
  simp -dsimp (maxSteps := 2000000) only [Fa.F33, b1, b2, b3, b4, b5, undef, tu, uf, ul, ur, VC.Now, VC.vc, VC.lib, VC.mapN_drewN, VC.mapB_drewN, VC.regQ, VC.loopK, VC.reg, VC.opP, VC.opS, VC.opZ, VC.nomulB, VC.pv, VC.thenF, VC.blkF, VC.retF, VC.resV, VC.oneV, VC.evo, VC.bin, VC.binI, VC.cmpI, VC.arithI, VC.ldv, VC.slv, VC.pickP, VC.holds, VC.chainOf, VC.look, VC.junk, VC.put, VC.eff, VC.callee, VC.pureB, VC.rdK, VC.rdKs, VC.okKs, VC.eqKs, VC.fillL, VC.putL, VC.stW, VC.stOK, VC.mixF, VC.setAll, Nat.reduceAdd, Nat.reduceSub, Nat.reduceMul, if_true, if_false, ↓reduceIte, forall_const, implies_true, reduceCtorEq, ne_eq, Nat.reduceBNe, Nat.reduceBEq, IntKind.signed, Nat.reduceEqDiff, Nat.reduceLeDiff, Nat.reduceLT, eq_self, Int.reduceEq, Int.reduceLT, Int.reduceLE, Int.reduceAdd, Int.reduceSub, VC.regC_nil, VC.regC_cons, VC.regCK_eq, VC.callQ, VC.tailQ, VC.goCall, VC.chStep]
  all_goals try intros
  all_goals exact Below.refl _ _
set_option maxRecDepth 8000 in
set_option maxHeartbeats 2000000 in
theorem flood_bad (A0 : Option Addr) (n c0 : Nat) (R : Int) (A : Option Addr) (len c : Nat) (g : Nat → CrashC) (w : World) (hr : RdT w A len 3 (fun i => crL (g i))) (ht : ∀ i, (g i).to < 4294967296) (hfit : ∀ i, i < len → fits .i64 (g i).who) (hbad : ¬ floodCode n R g len = 0) :
    Calls Try.prog 33 #[.slice A0 n c0, .int .i64 R, .slice A len c] w fun e w' => e = .returned (.tuple #[.slice none 0 0, .int .i64 (floodCode n R g len)]) ∧ Below w.heap.size w w' := by
  by_cases hok : n = 0 ∨ 6 < n ∨ R < 0 ∨ 6 < R ∨ 6 < len
  · exact flood_large A0 n c0 R A len c g w hok
  have hc : floodCode n R g len = flCode n g len := by unfold floodCode; rw [if_neg hok]
  rw [hc] at hbad ⊢
  have b1 : ((n : Int) = 0) = False := eq_false (by omega)
  have b2 : ((6 : Int) < n) = False := eq_false (by omega)
  have b3 : (R < 0) = False := eq_false (by omega)
  have b4 : (6 < R) = False := eq_false (by omega)
  have b5 : ((6 : Int) < len) = False := eq_false (by omega)
  have b6 := eq_false hbad
  refine calls_vc (rs := [.tmp 6, .tmp 7]) Fa.mix Try.func33 rfl Try.ntmps33 rfl (by kernel_rfl) (Nat.le_of_ble_eq_true rfl) ?_
  simp -dsimp (maxSteps := 2000000) only [Fa.F33, b1, b2, b3, b4, b5, undef, tu, uf, ul, ur, VC.Now, VC.vc, VC.lib, VC.mapN_drewN, VC.mapB_drewN, VC.regQ, VC.loopK, VC.reg, VC.opP, VC.opS, VC.opZ, VC.nomulB, VC.pv, VC.thenF, VC.blkF, VC.retF, VC.resV, VC.oneV, VC.evo, VC.bin, VC.binI, VC.cmpI, VC.arithI, VC.ldv, VC.slv, VC.pickP, VC.holds, VC.chainOf, VC.look, VC.junk, VC.put, VC.eff, VC.callee, VC.pureB, VC.rdK, VC.rdKs, VC.okKs, VC.eqKs, VC.fillL, VC.putL, VC.stW, VC.stOK, VC.mixF, VC.setAll, Nat.reduceAdd, Nat.reduceSub, Nat.reduceMul, if_true, if_false, ↓reduceIte, forall_const, implies_true, reduceCtorEq, ne_eq, Nat.reduceBNe, Nat.reduceBEq, IntKind.signed, Nat.reduceEqDiff, Nat.reduceLeDiff, Nat.reduceLT, eq_self, Int.reduceEq, Int.reduceLT, Int.reduceLE, Int.reduceAdd, Int.reduceSub, VC.regC_nil, VC.regC_cons, VC.regCK_eq, VC.callQ, VC.tailQ, VC.goCall, VC.chStep]
  intro u9
  refine CALL_of (wrong_any A n len c g w hr ht (by omega) (by omega) hfit) fun w1 hB1 => ?_
  rw [VC.Now, VC.seqK_eq]
  simp -dsimp (maxSteps := 2000000) only [Fa.F33, b6, undef, tu, uf, ul, ur, VC.Now, VC.vc, VC.lib, VC.mapN_drewN, VC.mapB_drewN, VC.regQ, VC.loopK, VC.reg, VC.opP, VC.opS, VC.opZ, VC.nomulB, VC.pv, VC.thenF, VC.blkF, VC.retF, VC.resV, VC.oneV, VC.evo, VC.bin, VC.binI, VC.cmpI, VC.arithI, VC.ldv, VC.slv, VC.pickP, VC.holds, VC.chainOf, VC.look, VC.junk, VC.put, VC.eff, VC.callee, VC.pureB, VC.rdK, VC.rdKs, VC.okKs, VC.eqKs, VC.fillL, VC.putL, VC.stW, VC.stOK, VC.mixF, VC.setAll, Nat.reduceAdd, Nat.reduceSub, Nat.reduceMul, if_true, if_false, ↓reduceIte, forall_const, implies_true, reduceCtorEq, ne_eq, Nat.reduceBNe, Nat.reduceBEq, IntKind.signed, Nat.reduceEqDiff, Nat.reduceLeDiff, Nat.reduceLT, eq_self, Int.reduceEq, Int.reduceLT, Int.reduceLE, Int.reduceAdd, Int.reduceSub, VC.regC_nil, VC.regC_cons, VC.regCK_eq, VC.callQ, VC.tailQ, VC.goCall, VC.chStep]
  exact hB1
end Go.Proofs.Ytelfmhiaafkimaa
