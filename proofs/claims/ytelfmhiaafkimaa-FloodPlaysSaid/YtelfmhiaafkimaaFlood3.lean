/- What some who crash have said: who sends to whom. -/
import Derived.Test.YtelfmhiaafkimaaFlood1
namespace Go.Proofs.Ytelfmhiaafkimaa
open Go Go.RowKit Go.VC
set_option linter.unusedSimpArgs false
set_option linter.unusedVariables false
abbrev crs (g : Nat → CrashC) (len : Nat) : List CrashC := (List.range len).map g
theorem crs_miss {g : Nat → CrashC} {p : CrashC → Bool} : ∀ {len : Nat}, (∀ j, j < len → p (g j) = false) → (crs g len).find? p = none
  | len, h => List.find?_eq_none.2 fun c hc => by
    obtain ⟨j, hj, rfl⟩ := List.mem_map.1 hc
    rw [h j (List.mem_range.1 hj)]; simp
theorem crs_hit {g : Nat → CrashC} {p : CrashC → Bool} {k : Nat} (h0 : ∀ j, j < k → p (g j) = false) (h1 : p (g k) = true) : ∀ {len : Nat}, k < len → (crs g len).find? p = some (g k)
  | 0, h => absurd h (Nat.not_lt_zero k)
  | len + 1, h => by
    unfold crs
    rw [List.range_succ, List.map_append, List.find?_append]
    by_cases e : k = len
    · subst e
      rw [show ((List.range k).map g).find? p = none from crs_miss h0]
      simp [h1]
    · rw [show ((List.range len).map g).find? p = some (g k) from crs_hit h0 h1 (by omega)]; rfl
theorem sends1_miss {g : Nat → CrashC} {len i j r : Nat} (h : ∀ k, k < len → (g k).who ≠ (i : Int)) : sends1 (crs g len) i j r = true := by
  unfold sends1
  rw [crs_miss fun k hk => decide_eq_false (h k hk)]
theorem sends1_hit {g : Nat → CrashC} {len i j r k : Nat} (h : ∀ t, t < k → (g t).who ≠ (i : Int)) (hk : k < len) (he : (g k).who = (i : Int)) : sends1 (crs g len) i j r = (decide ((r : Int) < (g k).round) || (decide ((r : Int) = (g k).round) && (g k).to.testBit j)) := by
  unfold sends1
  rw [crs_hit (fun t ht => decide_eq_false (h t ht)) (decide_eq_true he) hk]
set_option maxRecDepth 8000 in
set_option maxHeartbeats 2000000 in
theorem sends_any (A : Option Addr) (len c : Nat) (g : Nat → CrashC) (i j r : Nat) (w : World) (hr : RdT w A len 3 (fun i => crL (g i))) (ht : ∀ i, (g i).to < 4294967296) (hj : j < 32) (hl : len ≤ 1000) :
    Calls Try.prog 66 #[.slice A len c, .int .i64 i, .int .i64 j, .int .i64 r] w fun e w' => e = .returned (.bool (sends1 (crs g len) i j r)) ∧ Below w.heap.size w w' := by
  refine calls_vc (rs := [.tmp 8]) Fa.mix Try.func66 rfl Try.ntmps66 rfl (by kernel_rfl) (Nat.le_of_ble_eq_true rfl) ?_
  simp -dsimp (maxSteps := 2000000) only [Fa.F66, VC.Now, VC.vc, VC.lib, VC.mapN_drewN, VC.mapB_drewN, VC.regQ, VC.loopK, VC.reg, VC.opP, VC.opS, VC.opZ, VC.nomulB, VC.pv, VC.thenF, VC.blkF, VC.retF, VC.resV, VC.oneV, VC.evo, VC.bin, VC.binI, VC.cmpI, VC.arithI, VC.ldv, VC.slv, VC.pickP, VC.holds, VC.chainOf, VC.look, VC.junk, VC.put, VC.eff, VC.callee, VC.pureB, VC.rdK, VC.rdKs, VC.okKs, VC.eqKs, VC.fillL, VC.putL, VC.stW, VC.stOK, VC.mixF, VC.setAll, Nat.reduceAdd, Nat.reduceSub, Nat.reduceMul, if_true, if_false, ↓reduceIte, forall_const, implies_true, reduceCtorEq, ne_eq, Nat.reduceBNe, Nat.reduceBEq, IntKind.signed, Nat.reduceEqDiff, Nat.reduceLeDiff, Nat.reduceLT, eq_self, Int.reduceEq, Int.reduceLT, Int.reduceLE, Int.reduceAdd, Int.reduceSub, VC.regC_nil, VC.regC_cons, VC.regCK_eq, VC.callQ, VC.tailQ, VC.goCall, VC.chStep]
  refine loop_slots Fa.mix [13] [8, 10, 14, 15, 16, 17, 18, 19, 20, 21, 22, 23, 24, 25, 26, 27, 28, 29, 30, 31, 32, 33, 34, 35, 36, 37, 38, 39] (fun m vs wx => ∃ (k : Nat), k + m = len ∧ vs = [.int .i64 k] ∧ Below w.heap.size w wx ∧ ∀ t, t < k → (g t).who ≠ (i : Int)) len (by kernel_rfl) rfl
    ⟨0, by omega, rfl, Below.refl _ _, fun j hj => absurd hj (by omega)⟩ ?_
  rintro m vs u2 wx ⟨k, hkm, rfl, hBx, hz⟩
  by_cases hk : k < len
  · have e7 : ((k : Int) < len) = True := eq_true (by omega)
    obtain ⟨b, o, rfl, hb0, hc3⟩ := (hr.below hBx) (by omega)
    have z0 := hc3 k hk 0 _ rfl
    have z1 := hc3 k hk 1 _ rfl
    have z2 := hc3 k hk 2 _ rfl
    simp only [Nat.add_zero] at z0
    have hBs : Below wx.heap.size wx (wx.alloc (.cells #[.int .i64 (g k).who, .int .i64 (g k).round, .int .u32 (g k).to] 212)) := (Below.refl _ _).alloc (Nat.le_refl _) _
    have hBy := hBx.trans (hBs.mono hBx.size)
    by_cases q1 : (g k).who = i
    case neg =>
      have a1 := eq_false q1
      simp -dsimp (maxSteps := 2000000) only [Fa.F66, e7, rdI_of z0, z0, rdI_of z1, z1, rdI_of z2, z2, hb0, a1, Int.toNat_natCast, undef, tu, uf, ul, ur, VC.Now, VC.vc, VC.lib, VC.mapN_drewN, VC.mapB_drewN, VC.regQ, VC.loopK, VC.reg, VC.opP, VC.opS, VC.opZ, VC.nomulB, VC.pv, VC.thenF, VC.blkF, VC.retF, VC.resV, VC.oneV, VC.evo, VC.bin, VC.binI, VC.cmpI, VC.arithI, VC.ldv, VC.slv, VC.pickP, VC.holds, VC.chainOf, VC.look, VC.junk, VC.put, VC.eff, VC.callee, VC.pureB, VC.rdK, VC.rdKs, VC.okKs, VC.eqKs, VC.fillL, VC.putL, VC.stW, VC.stOK, VC.mixF, VC.setAll, Nat.reduceAdd, Nat.reduceSub, Nat.reduceMul, if_true, if_false, ↓reduceIte, forall_const, implies_true, reduceCtorEq, ne_eq, Nat.reduceBNe, Nat.reduceBEq, IntKind.signed, Nat.reduceEqDiff, Nat.reduceLeDiff, Nat.reduceLT, eq_self, Int.reduceEq, Int.reduceLT, Int.reduceLE, Int.reduceAdd, Int.reduceSub, VC.regC_nil, VC.regC_cons, VC.regCK_eq, VC.callQ, VC.tailQ, VC.goCall, VC.chStep]
      refine ⟨by omega, fits_i64_nat (by omega), SAME.intro (by kernel_rfl), m - 1, by omega, k + 1, by omega, rfl, hBy, fun t ht2 => ?_⟩
      by_cases e : t = k
      · subst e; exact q1
      · exact hz t (by omega)
    have a1 := eq_true q1
    have hs := sends1_hit (j := j) (r := r) hz hk q1
    rw [hs]
    by_cases q2 : (r : Int) < (g k).round
    · have a2 := eq_true q2
      rw [decide_eq_true q2, Bool.true_or]
      simp -dsimp (maxSteps := 2000000) only [Fa.F66, e7, rdI_of z0, z0, rdI_of z1, z1, rdI_of z2, z2, hb0, a1, a2, Int.toNat_natCast, undef, tu, uf, ul, ur, VC.Now, VC.vc, VC.lib, VC.mapN_drewN, VC.mapB_drewN, VC.regQ, VC.loopK, VC.reg, VC.opP, VC.opS, VC.opZ, VC.nomulB, VC.pv, VC.thenF, VC.blkF, VC.retF, VC.resV, VC.oneV, VC.evo, VC.bin, VC.binI, VC.cmpI, VC.arithI, VC.ldv, VC.slv, VC.pickP, VC.holds, VC.chainOf, VC.look, VC.junk, VC.put, VC.eff, VC.callee, VC.pureB, VC.rdK, VC.rdKs, VC.okKs, VC.eqKs, VC.fillL, VC.putL, VC.stW, VC.stOK, VC.mixF, VC.setAll, Nat.reduceAdd, Nat.reduceSub, Nat.reduceMul, if_true, if_false, ↓reduceIte, forall_const, implies_true, reduceCtorEq, ne_eq, Nat.reduceBNe, Nat.reduceBEq, IntKind.signed, Nat.reduceEqDiff, Nat.reduceLeDiff, Nat.reduceLT, eq_self, Int.reduceEq, Int.reduceLT, Int.reduceLE, Int.reduceAdd, Int.reduceSub, VC.regC_nil, VC.regC_cons, VC.regCK_eq, VC.callQ, VC.tailQ, VC.goCall, VC.chStep]
      refine ⟨by omega, ?_⟩
      intros
      first | exact hBy | exact ⟨rfl, hBy⟩
    have a2 := eq_false q2
    rw [decide_eq_false q2, Bool.false_or]
    by_cases q3 : (r : Int) = (g k).round
    case neg =>
      have a3 := eq_false q3
      rw [decide_eq_false q3, Bool.false_and]
      simp -dsimp (maxSteps := 2000000) only [Fa.F66, e7, rdI_of z0, z0, rdI_of z1, z1, rdI_of z2, z2, hb0, a1, a2, a3, Int.toNat_natCast, undef, tu, uf, ul, ur, VC.Now, VC.vc, VC.lib, VC.mapN_drewN, VC.mapB_drewN, VC.regQ, VC.loopK, VC.reg, VC.opP, VC.opS, VC.opZ, VC.nomulB, VC.pv, VC.thenF, VC.blkF, VC.retF, VC.resV, VC.oneV, VC.evo, VC.bin, VC.binI, VC.cmpI, VC.arithI, VC.ldv, VC.slv, VC.pickP, VC.holds, VC.chainOf, VC.look, VC.junk, VC.put, VC.eff, VC.callee, VC.pureB, VC.rdK, VC.rdKs, VC.okKs, VC.eqKs, VC.fillL, VC.putL, VC.stW, VC.stOK, VC.mixF, VC.setAll, Nat.reduceAdd, Nat.reduceSub, Nat.reduceMul, if_true, if_false, ↓reduceIte, forall_const, implies_true, reduceCtorEq, ne_eq, Nat.reduceBNe, Nat.reduceBEq, IntKind.signed, Nat.reduceEqDiff, Nat.reduceLeDiff, Nat.reduceLT, eq_self, Int.reduceEq, Int.reduceLT, Int.reduceLE, Int.reduceAdd, Int.reduceSub, VC.regC_nil, VC.regC_cons, VC.regCK_eq, VC.callQ, VC.tailQ, VC.goCall, VC.chStep]
      refine ⟨by omega, ?_⟩
      intros
      first | exact hBy | exact ⟨rfl, hBy⟩
    have a3 := eq_true q3
    rw [decide_eq_true q3, Bool.true_and]
    have hsa : bits .and .u32 (((g k).to : Int).fdiv (2 ^ shN .u32 (j : Int))) 1 = if (g k).to.testBit j then 1 else 0 := shr_and (ht k) hj
    cases q4 : (g k).to.testBit j with
    | true =>
      rw [q4] at hsa
      have hsa : bits .and .u32 (((g k).to : Int).fdiv (2 ^ shN .u32 (j : Int))) 1 = 1 := hsa
      simp -dsimp (maxSteps := 2000000) only [Fa.F66, e7, rdI_of z0, z0, rdI_of z1, z1, rdI_of z2, z2, hb0, a1, a2, a3, hsa, Int.toNat_natCast, undef, tu, uf, ul, ur, VC.Now, VC.vc, VC.lib, VC.mapN_drewN, VC.mapB_drewN, VC.regQ, VC.loopK, VC.reg, VC.opP, VC.opS, VC.opZ, VC.nomulB, VC.pv, VC.thenF, VC.blkF, VC.retF, VC.resV, VC.oneV, VC.evo, VC.bin, VC.binI, VC.cmpI, VC.arithI, VC.ldv, VC.slv, VC.pickP, VC.holds, VC.chainOf, VC.look, VC.junk, VC.put, VC.eff, VC.callee, VC.pureB, VC.rdK, VC.rdKs, VC.okKs, VC.eqKs, VC.fillL, VC.putL, VC.stW, VC.stOK, VC.mixF, VC.setAll, Nat.reduceAdd, Nat.reduceSub, Nat.reduceMul, if_true, if_false, ↓reduceIte, forall_const, implies_true, reduceCtorEq, ne_eq, Nat.reduceBNe, Nat.reduceBEq, IntKind.signed, Nat.reduceEqDiff, Nat.reduceLeDiff, Nat.reduceLT, eq_self, Int.reduceEq, Int.reduceLT, Int.reduceLE, Int.reduceAdd, Int.reduceSub, VC.regC_nil, VC.regC_cons, VC.regCK_eq, VC.callQ, VC.tailQ, VC.goCall, VC.chStep]
      refine ⟨by omega, by omega, ?_⟩
      intros
      first | exact hBy | exact ⟨rfl, hBy⟩
    | false =>
      rw [q4] at hsa
      have hsa : bits .and .u32 (((g k).to : Int).fdiv (2 ^ shN .u32 (j : Int))) 1 = 0 := hsa
      simp -dsimp (maxSteps := 2000000) only [Fa.F66, e7, rdI_of z0, z0, rdI_of z1, z1, rdI_of z2, z2, hb0, a1, a2, a3, hsa, Int.toNat_natCast, undef, tu, uf, ul, ur, VC.Now, VC.vc, VC.lib, VC.mapN_drewN, VC.mapB_drewN, VC.regQ, VC.loopK, VC.reg, VC.opP, VC.opS, VC.opZ, VC.nomulB, VC.pv, VC.thenF, VC.blkF, VC.retF, VC.resV, VC.oneV, VC.evo, VC.bin, VC.binI, VC.cmpI, VC.arithI, VC.ldv, VC.slv, VC.pickP, VC.holds, VC.chainOf, VC.look, VC.junk, VC.put, VC.eff, VC.callee, VC.pureB, VC.rdK, VC.rdKs, VC.okKs, VC.eqKs, VC.fillL, VC.putL, VC.stW, VC.stOK, VC.mixF, VC.setAll, Nat.reduceAdd, Nat.reduceSub, Nat.reduceMul, if_true, if_false, ↓reduceIte, forall_const, implies_true, reduceCtorEq, ne_eq, Nat.reduceBNe, Nat.reduceBEq, IntKind.signed, Nat.reduceEqDiff, Nat.reduceLeDiff, Nat.reduceLT, eq_self, Int.reduceEq, Int.reduceLT, Int.reduceLE, Int.reduceAdd, Int.reduceSub, VC.regC_nil, VC.regC_cons, VC.regCK_eq, VC.callQ, VC.tailQ, VC.goCall, VC.chStep]
      refine ⟨by omega, by omega, ?_⟩
      intros
      first | exact hBy | exact ⟨rfl, hBy⟩
  · obtain rfl : k = len := by omega
    have e7 : ((k : Int) < k) = False := eq_false (by omega)
    simp -dsimp (maxSteps := 2000000) only [Fa.F66, e7, VC.Now, VC.vc, VC.lib, VC.mapN_drewN, VC.mapB_drewN, VC.regQ, VC.loopK, VC.reg, VC.opP, VC.opS, VC.opZ, VC.nomulB, VC.pv, VC.thenF, VC.blkF, VC.retF, VC.resV, VC.oneV, VC.evo, VC.bin, VC.binI, VC.cmpI, VC.arithI, VC.ldv, VC.slv, VC.pickP, VC.holds, VC.chainOf, VC.look, VC.junk, VC.put, VC.eff, VC.callee, VC.pureB, VC.rdK, VC.rdKs, VC.okKs, VC.eqKs, VC.fillL, VC.putL, VC.stW, VC.stOK, VC.mixF, VC.setAll, Nat.reduceAdd, Nat.reduceSub, Nat.reduceMul, if_true, if_false, ↓reduceIte, forall_const, implies_true, reduceCtorEq, ne_eq, Nat.reduceBNe, Nat.reduceBEq, IntKind.signed, Nat.reduceEqDiff, Nat.reduceLeDiff, Nat.reduceLT, eq_self, Int.reduceEq, Int.reduceLT, Int.reduceLE, Int.reduceAdd, Int.reduceSub, VC.regC_nil, VC.regC_cons, VC.regCK_eq, VC.callQ, VC.tailQ, VC.goCall, VC.chStep]
    exact ⟨by rw [sends1_miss hz], hBx⟩
end Go.Proofs.Ytelfmhiaafkimaa
