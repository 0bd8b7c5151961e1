/- What some who crash have said: the document's check; who sends. -/
import Derived.Test.YtelfmhiaafkimaaFlood1
namespace Go.Proofs.Ytelfmhiaafkimaa
open Go Go.RowKit Go.VC
set_option linter.unusedSimpArgs false
set_option linter.unusedVariables false
theorem sliceV {w : World} {B : Nat} {e : TypeId} {n : Nat} {v : Value} {xs : List Value} (h : OwnK w B e 1 n v xs) : ∃ A c, v = .slice A xs.length c ∧ Rd w A xs := by
  obtain ⟨A, c, rfl, ho⟩ := id h
  have := h.length
  exact ⟨A, c, by rw [this, Nat.mul_one], h.rd.2⟩
abbrev whoL (g : Nat → CrashC) (k : Nat) : List Int := (List.range k).map fun i => (g i).who
theorem whoL_in {g : Nat → CrashC} {k : Nat} {x : Int} : decide (x ∈ whoL g k) = hereB g k x := by
  unfold whoL hereB
  rw [Bool.eq_iff_iff]
  simp
open Classical in
noncomputable def floodCode (n : Nat) (rounds : Int) (g : Nat → CrashC) (len : Nat) : Int := if n = 0 ∨ 6 < n ∨ rounds < 0 ∨ 6 < rounds ∨ 6 < len then 1 else flCode n g len
set_option maxRecDepth 8000 in
set_option maxHeartbeats 2000000 in
theorem floodCheck_ok (A0 : Option Addr) (n c0 : Nat) (rounds : Int) (A : Option Addr) (len c : Nat) (g : Nat → CrashC) (w : World) (hr : RdT w A len 3 (fun i => crL (g i))) (ht : ∀ i, (g i).to < 4294967296) (hok : ¬ (n = 0 ∨ 6 < n ∨ rounds < 0 ∨ 6 < rounds ∨ 6 < len)) :
    Calls Try.prog 34 #[.slice A0 n c0, .int .i64 rounds, .slice A len c] w fun e w' => e = .returned (.int .i64 (floodCode n rounds g len)) ∧ Below w.heap.size w w' := by
  unfold floodCode
  rw [if_neg hok]
  unfold flCode
  have b1 : ((n : Int) = 0) = False := eq_false (by omega)
  have b2 : ((6 : Int) < n) = False := eq_false (by omega)
  have b3 : (rounds < 0) = False := eq_false (by omega)
  have b4 : (6 < rounds) = False := eq_false (by omega)
  have b5 : ((6 : Int) < len) = False := eq_false (by omega)
  refine calls_vc (rs := [.tmp 6]) Fa.mix Try.func34 rfl Try.ntmps34 rfl (by kernel_rfl) (Nat.le_of_ble_eq_true rfl) ?_
  simp -dsimp (maxSteps := 2000000) only [Fa.F34, b1, b2, b3, b4, b5, undef, tu, uf, ul, ur, VC.Now, VC.vc, VC.lib, VC.mapN_drewN, VC.mapB_drewN, VC.regQ, VC.loopK, VC.reg, VC.opP, VC.opS, VC.opZ, VC.nomulB, VC.pv, VC.thenF, VC.blkF, VC.retF, VC.resV, VC.oneV, VC.evo, VC.bin, VC.binI, VC.cmpI, VC.arithI, VC.ldv, VC.slv, VC.pickP, VC.holds, VC.chainOf, VC.look, VC.junk, VC.put, VC.eff, VC.callee, VC.pureB, VC.rdK, VC.rdKs, VC.okKs, VC.eqKs, VC.fillL, VC.putL, VC.stW, VC.stOK, VC.mixF, VC.setAll, Nat.reduceAdd, Nat.reduceSub, Nat.reduceMul, if_true, if_false, ↓reduceIte, forall_const, implies_true, reduceCtorEq, ne_eq, Nat.reduceBNe, Nat.reduceBEq, IntKind.signed, Nat.reduceEqDiff, Nat.reduceLeDiff, Nat.reduceLT, eq_self, Int.reduceEq, Int.reduceLT, Int.reduceLE, Int.reduceAdd, Int.reduceSub, VC.regC_nil, VC.regC_cons, VC.regCK_eq, VC.callQ, VC.tailQ, VC.goCall, VC.chStep]
  intro u9
  refine loop_slots Fa.mix [34, 8] [6, 10, 35, 36, 37, 38, 39, 40, 41, 42, 43, 44, 45, 46, 47, 48, 49, 50, 51, 52, 53, 54, 55, 56, 57, 58, 59, 60, 61, 62, 63, 64, 65, 66, 67] (fun m vs wx => ∃ (k : Nat) (v : Value), k + m = len ∧ vs = [.int .i64 k, v] ∧ Below w.heap.size w wx ∧ OwnK wx w.heap.size 3 1 k v ((whoL g k).map (Value.int .i64)) ∧ ∀ j, j < k → flBad n g j = 0) len (by kernel_rfl) rfl
    ⟨0, _, by omega, rfl, Below.refl _ _, OwnK.nil _ _ _ _, fun j hj => absurd hj (by omega)⟩ ?_
  rintro m vs u2 wx ⟨k, v, hkm, rfl, hBx, hO, hz⟩
  by_cases hk : k < len
  · have e7 : ((k : Int) < len) = True := eq_true (by omega)
    obtain ⟨b, o, rfl, hb0, hc3⟩ := (hr.below hBx) (by omega)
    have z0 := hc3 k hk 0 _ rfl
    have z1 := hc3 k hk 1 _ rfl
    have z2 := hc3 k hk 2 _ rfl
    simp only [Nat.add_zero] at z0
    have hBs : Below wx.heap.size wx (wx.alloc (.cells #[.int .i64 (g k).who, .int .i64 (g k).round, .int .u32 (g k).to] 212)) := (Below.refl _ _).alloc (Nat.le_refl _) _
    have hBy := hBx.trans (hBs.mono hBx.size)
    by_cases q1 : (g k).who < 0
    · have a1 := eq_true q1
      have hb : flBad n g k = 2 := by unfold flBad; rw [if_pos (by omega)]
      simp -dsimp (maxSteps := 2000000) only [Fa.F34, e7, rdI_of z0, z0, rdI_of z1, z1, rdI_of z2, z2, hb0, a1, Int.toNat_natCast, undef, tu, uf, ul, ur, VC.Now, VC.vc, VC.lib, VC.mapN_drewN, VC.mapB_drewN, VC.regQ, VC.loopK, VC.reg, VC.opP, VC.opS, VC.opZ, VC.nomulB, VC.pv, VC.thenF, VC.blkF, VC.retF, VC.resV, VC.oneV, VC.evo, VC.bin, VC.binI, VC.cmpI, VC.arithI, VC.ldv, VC.slv, VC.pickP, VC.holds, VC.chainOf, VC.look, VC.junk, VC.put, VC.eff, VC.callee, VC.pureB, VC.rdK, VC.rdKs, VC.okKs, VC.eqKs, VC.fillL, VC.putL, VC.stW, VC.stOK, VC.mixF, VC.setAll, Nat.reduceAdd, Nat.reduceSub, Nat.reduceMul, if_true, if_false, ↓reduceIte, forall_const, implies_true, reduceCtorEq, ne_eq, Nat.reduceBNe, Nat.reduceBEq, IntKind.signed, Nat.reduceEqDiff, Nat.reduceLeDiff, Nat.reduceLT, eq_self, Int.reduceEq, Int.reduceLT, Int.reduceLE, Int.reduceAdd, Int.reduceSub, VC.regC_nil, VC.regC_cons, VC.regCK_eq, VC.callQ, VC.tailQ, VC.goCall, VC.chStep]
      refine ⟨by omega, ?_⟩
      intros
      exact ⟨ret_int (by rw [firstNZ_hit hk hz (by omega), hb]), hBy⟩
    have a1 := eq_false q1
    by_cases q2 : (n : Int) ≤ (g k).who
    · have a2 := eq_true q2
      have hb : flBad n g k = 2 := by unfold flBad; rw [if_pos (by omega)]
      simp -dsimp (maxSteps := 2000000) only [Fa.F34, e7, rdI_of z0, z0, rdI_of z1, z1, rdI_of z2, z2, hb0, a1, a2, Int.toNat_natCast, undef, tu, uf, ul, ur, VC.Now, VC.vc, VC.lib, VC.mapN_drewN, VC.mapB_drewN, VC.regQ, VC.loopK, VC.reg, VC.opP, VC.opS, VC.opZ, VC.nomulB, VC.pv, VC.thenF, VC.blkF, VC.retF, VC.resV, VC.oneV, VC.evo, VC.bin, VC.binI, VC.cmpI, VC.arithI, VC.ldv, VC.slv, VC.pickP, VC.holds, VC.chainOf, VC.look, VC.junk, VC.put, VC.eff, VC.callee, VC.pureB, VC.rdK, VC.rdKs, VC.okKs, VC.eqKs, VC.fillL, VC.putL, VC.stW, VC.stOK, VC.mixF, VC.setAll, Nat.reduceAdd, Nat.reduceSub, Nat.reduceMul, if_true, if_false, ↓reduceIte, forall_const, implies_true, reduceCtorEq, ne_eq, Nat.reduceBNe, Nat.reduceBEq, IntKind.signed, Nat.reduceEqDiff, Nat.reduceLeDiff, Nat.reduceLT, eq_self, Int.reduceEq, Int.reduceLT, Int.reduceLE, Int.reduceAdd, Int.reduceSub, VC.regC_nil, VC.regC_cons, VC.regCK_eq, VC.callQ, VC.tailQ, VC.goCall, VC.chStep]
      refine ⟨by omega, ?_⟩
      intros
      exact ⟨ret_int (by rw [firstNZ_hit hk hz (by omega), hb]), hBy⟩
    have a2 := eq_false q2
    by_cases q3 : (g k).round < 0
    · have a3 := eq_true q3
      have hb : flBad n g k = 2 := by unfold flBad; rw [if_pos (by omega)]
      simp -dsimp (maxSteps := 2000000) only [Fa.F34, e7, rdI_of z0, z0, rdI_of z1, z1, rdI_of z2, z2, hb0, a1, a2, a3, Int.toNat_natCast, undef, tu, uf, ul, ur, VC.Now, VC.vc, VC.lib, VC.mapN_drewN, VC.mapB_drewN, VC.regQ, VC.loopK, VC.reg, VC.opP, VC.opS, VC.opZ, VC.nomulB, VC.pv, VC.thenF, VC.blkF, VC.retF, VC.resV, VC.oneV, VC.evo, VC.bin, VC.binI, VC.cmpI, VC.arithI, VC.ldv, VC.slv, VC.pickP, VC.holds, VC.chainOf, VC.look, VC.junk, VC.put, VC.eff, VC.callee, VC.pureB, VC.rdK, VC.rdKs, VC.okKs, VC.eqKs, VC.fillL, VC.putL, VC.stW, VC.stOK, VC.mixF, VC.setAll, Nat.reduceAdd, Nat.reduceSub, Nat.reduceMul, if_true, if_false, ↓reduceIte, forall_const, implies_true, reduceCtorEq, ne_eq, Nat.reduceBNe, Nat.reduceBEq, IntKind.signed, Nat.reduceEqDiff, Nat.reduceLeDiff, Nat.reduceLT, eq_self, Int.reduceEq, Int.reduceLT, Int.reduceLE, Int.reduceAdd, Int.reduceSub, VC.regC_nil, VC.regC_cons, VC.regCK_eq, VC.callQ, VC.tailQ, VC.goCall, VC.chStep]
      refine ⟨by omega, ?_⟩
      intros
      exact ⟨ret_int (by rw [firstNZ_hit hk hz (by omega), hb]), hBy⟩
    have a3 := eq_false q3
    simp -dsimp (maxSteps := 2000000) only [Fa.F34, e7, rdI_of z0, z0, rdI_of z1, z1, rdI_of z2, z2, hb0, a1, a2, a3, Int.toNat_natCast, undef, tu, uf, ul, ur, VC.Now, VC.vc, VC.lib, VC.mapN_drewN, VC.mapB_drewN, VC.regQ, VC.loopK, VC.reg, VC.opP, VC.opS, VC.opZ, VC.nomulB, VC.pv, VC.thenF, VC.blkF, VC.retF, VC.resV, VC.oneV, VC.evo, VC.bin, VC.binI, VC.cmpI, VC.arithI, VC.ldv, VC.slv, VC.pickP, VC.holds, VC.chainOf, VC.look, VC.junk, VC.put, VC.eff, VC.callee, VC.pureB, VC.rdK, VC.rdKs, VC.okKs, VC.eqKs, VC.fillL, VC.putL, VC.stW, VC.stOK, VC.mixF, VC.setAll, Nat.reduceAdd, Nat.reduceSub, Nat.reduceMul, if_true, if_false, ↓reduceIte, forall_const, implies_true, reduceCtorEq, ne_eq, Nat.reduceBNe, Nat.reduceBEq, IntKind.signed, Nat.reduceEqDiff, Nat.reduceLeDiff, Nat.reduceLT, eq_self, Int.reduceEq, Int.reduceLT, Int.reduceLE, Int.reduceAdd, Int.reduceSub, VC.regC_nil, VC.regC_cons, VC.regCK_eq, VC.callQ, VC.tailQ, VC.goCall, VC.chStep]
    refine ⟨by omega, ?_⟩
    refine CALL_of (outside_any (g k).to n _ (ht k) (by omega)) fun w3 hw3 => ?_
    subst hw3
    rw [VC.Now, VC.seqK_eq]
    have hO3 := hO.below hBs
    obtain ⟨Av, cv, ev, hrv⟩ := sliceV hO3
    rw [List.length_map] at ev
    have hwl : (whoL g k).length = k := by simp
    by_cases q4 : (g k).to < 2 ^ n
    case neg =>
      have hb : flBad n g k = 2 := by unfold flBad; rw [if_pos (by omega)]
      have d4 : decide (¬ (g k).to < 2 ^ n) = true := decide_eq_true q4
      simp -dsimp (maxSteps := 2000000) only [Fa.F34, d4, undef, tu, uf, ul, ur, VC.Now, VC.vc, VC.lib, VC.mapN_drewN, VC.mapB_drewN, VC.regQ, VC.loopK, VC.reg, VC.opP, VC.opS, VC.opZ, VC.nomulB, VC.pv, VC.thenF, VC.blkF, VC.retF, VC.resV, VC.oneV, VC.evo, VC.bin, VC.binI, VC.cmpI, VC.arithI, VC.ldv, VC.slv, VC.pickP, VC.holds, VC.chainOf, VC.look, VC.junk, VC.put, VC.eff, VC.callee, VC.pureB, VC.rdK, VC.rdKs, VC.okKs, VC.eqKs, VC.fillL, VC.putL, VC.stW, VC.stOK, VC.mixF, VC.setAll, Nat.reduceAdd, Nat.reduceSub, Nat.reduceMul, if_true, if_false, ↓reduceIte, forall_const, implies_true, reduceCtorEq, ne_eq, Nat.reduceBNe, Nat.reduceBEq, IntKind.signed, Nat.reduceEqDiff, Nat.reduceLeDiff, Nat.reduceLT, eq_self, Int.reduceEq, Int.reduceLT, Int.reduceLE, Int.reduceAdd, Int.reduceSub, VC.regC_nil, VC.regC_cons, VC.regCK_eq, VC.callQ, VC.tailQ, VC.goCall, VC.chStep]
      exact ⟨ret_int (by rw [firstNZ_hit hk hz (by omega), hb]), hBy⟩
    have d4 : decide (¬ (g k).to < 2 ^ n) = false := decide_eq_false (fun hh => hh q4)
    simp -dsimp (maxSteps := 2000000) only [Fa.F34, d4, undef, tu, uf, ul, ur, VC.Now, VC.vc, VC.lib, VC.mapN_drewN, VC.mapB_drewN, VC.regQ, VC.loopK, VC.reg, VC.opP, VC.opS, VC.opZ, VC.nomulB, VC.pv, VC.thenF, VC.blkF, VC.retF, VC.resV, VC.oneV, VC.evo, VC.bin, VC.binI, VC.cmpI, VC.arithI, VC.ldv, VC.slv, VC.pickP, VC.holds, VC.chainOf, VC.look, VC.junk, VC.put, VC.eff, VC.callee, VC.pureB, VC.rdK, VC.rdKs, VC.okKs, VC.eqKs, VC.fillL, VC.putL, VC.stW, VC.stOK, VC.mixF, VC.setAll, Nat.reduceAdd, Nat.reduceSub, Nat.reduceMul, if_true, if_false, ↓reduceIte, forall_const, implies_true, reduceCtorEq, ne_eq, Nat.reduceBNe, Nat.reduceBEq, IntKind.signed, Nat.reduceEqDiff, Nat.reduceLeDiff, Nat.reduceLT, eq_self, Int.reduceEq, Int.reduceLT, Int.reduceLE, Int.reduceAdd, Int.reduceSub, VC.regC_nil, VC.regC_cons, VC.regCK_eq, VC.callQ, VC.tailQ, VC.goCall, VC.chStep]
    rw [ev]
    refine CALL_of (has_any Av cv (whoL g k) (g k).who _ hrv (by omega)) fun w4 hw4 => ?_
    subst hw4
    rw [whoL_in, VC.Now, VC.seqK_eq]
    cases hh : hereB g k (g k).who with
    | true =>
      have hb : flBad n g k = 3 := by unfold flBad; rw [if_neg (by omega)]; exact if_pos hh
      simp -dsimp (maxSteps := 2000000) only [Fa.F34, VC.Now, VC.vc, VC.lib, VC.mapN_drewN, VC.mapB_drewN, VC.regQ, VC.loopK, VC.reg, VC.opP, VC.opS, VC.opZ, VC.nomulB, VC.pv, VC.thenF, VC.blkF, VC.retF, VC.resV, VC.oneV, VC.evo, VC.bin, VC.binI, VC.cmpI, VC.arithI, VC.ldv, VC.slv, VC.pickP, VC.holds, VC.chainOf, VC.look, VC.junk, VC.put, VC.eff, VC.callee, VC.pureB, VC.rdK, VC.rdKs, VC.okKs, VC.eqKs, VC.fillL, VC.putL, VC.stW, VC.stOK, VC.mixF, VC.setAll, Nat.reduceAdd, Nat.reduceSub, Nat.reduceMul, if_true, if_false, ↓reduceIte, forall_const, implies_true, reduceCtorEq, ne_eq, Nat.reduceBNe, Nat.reduceBEq, IntKind.signed, Nat.reduceEqDiff, Nat.reduceLeDiff, Nat.reduceLT, eq_self, Int.reduceEq, Int.reduceLT, Int.reduceLE, Int.reduceAdd, Int.reduceSub, VC.regC_nil, VC.regC_cons, VC.regCK_eq, VC.callQ, VC.tailQ, VC.goCall, VC.chStep]
      exact ⟨ret_int (by rw [firstNZ_hit hk hz (by omega), hb]), hBy⟩
    | false =>
      have hb : flBad n g k = 0 := by unfold flBad; rw [if_neg (by omega)]; exact if_neg (by show ¬ hereB g k (g k).who = true; rw [hh]; simp)
      simp -dsimp (maxSteps := 2000000) only [Fa.F34, VC.Now, VC.vc, VC.lib, VC.mapN_drewN, VC.mapB_drewN, VC.regQ, VC.loopK, VC.reg, VC.opP, VC.opS, VC.opZ, VC.nomulB, VC.pv, VC.thenF, VC.blkF, VC.retF, VC.resV, VC.oneV, VC.evo, VC.bin, VC.binI, VC.cmpI, VC.arithI, VC.ldv, VC.slv, VC.pickP, VC.holds, VC.chainOf, VC.look, VC.junk, VC.put, VC.eff, VC.callee, VC.pureB, VC.rdK, VC.rdKs, VC.okKs, VC.eqKs, VC.fillL, VC.putL, VC.stW, VC.stOK, VC.mixF, VC.setAll, Nat.reduceAdd, Nat.reduceSub, Nat.reduceMul, if_true, if_false, ↓reduceIte, forall_const, implies_true, reduceCtorEq, ne_eq, Nat.reduceBNe, Nat.reduceBEq, IntKind.signed, Nat.reduceEqDiff, Nat.reduceLeDiff, Nat.reduceLT, eq_self, Int.reduceEq, Int.reduceLT, Int.reduceLE, Int.reduceAdd, Int.reduceSub, VC.regC_nil, VC.regC_cons, VC.regCK_eq, VC.callQ, VC.tailQ, VC.goCall, VC.chStep]
      refine OPW_appN (v := v) (G := wx.heap.size + 1) (by simp) rfl Fa.apI23 ev.symm rfl rfl (by simp [Value.oneCell']) hO3 (by have := hBx.size; simp; omega) (by omega) (by decide) fun v5 w5 ho5 hg5 hst5 => ?_
      have hnl : (whoL g k).map (Value.int .i64) ++ [.int .i64 (g k).who] = (whoL g (k + 1)).map (Value.int .i64) := by unfold whoL; rw [List.range_succ, List.map_append, List.map_append]; rfl
      rw [hnl] at ho5
      have hvlt : ∀ q, v.ownBlock = some q → w.heap.size ≤ q := fun q hq => (hO3.lt hq).1
      rw [VC.Now, VC.seqK_eq]
      simp -dsimp (maxSteps := 2000000) only [Fa.F34, VC.Now, VC.vc, VC.lib, VC.mapN_drewN, VC.mapB_drewN, VC.regQ, VC.loopK, VC.reg, VC.opP, VC.opS, VC.opZ, VC.nomulB, VC.pv, VC.thenF, VC.blkF, VC.retF, VC.resV, VC.oneV, VC.evo, VC.bin, VC.binI, VC.cmpI, VC.arithI, VC.ldv, VC.slv, VC.pickP, VC.holds, VC.chainOf, VC.look, VC.junk, VC.put, VC.eff, VC.callee, VC.pureB, VC.rdK, VC.rdKs, VC.okKs, VC.eqKs, VC.fillL, VC.putL, VC.stW, VC.stOK, VC.mixF, VC.setAll, Nat.reduceAdd, Nat.reduceSub, Nat.reduceMul, if_true, if_false, ↓reduceIte, forall_const, implies_true, reduceCtorEq, ne_eq, Nat.reduceBNe, Nat.reduceBEq, IntKind.signed, Nat.reduceEqDiff, Nat.reduceLeDiff, Nat.reduceLT, eq_self, Int.reduceEq, Int.reduceLT, Int.reduceLE, Int.reduceAdd, Int.reduceSub, VC.regC_nil, VC.regC_cons, VC.regCK_eq, VC.callQ, VC.tailQ, VC.goCall, VC.chStep]
      refine ⟨fits_i64_nat (by omega), SAME.intro (by kernel_rfl), m - 1, by omega, k + 1, v5, by omega, rfl, hBy.grown hg5 hBy.size hvlt, ho5, fun j hj => ?_⟩
      by_cases hjk : j = k
      · subst hjk; exact hb
      · exact hz j (by omega)
  · obtain rfl : k = len := by omega
    have e7 : ((k : Int) < k) = False := eq_false (by omega)
    simp -dsimp (maxSteps := 2000000) only [Fa.F34, e7, VC.Now, VC.vc, VC.lib, VC.mapN_drewN, VC.mapB_drewN, VC.regQ, VC.loopK, VC.reg, VC.opP, VC.opS, VC.opZ, VC.nomulB, VC.pv, VC.thenF, VC.blkF, VC.retF, VC.resV, VC.oneV, VC.evo, VC.bin, VC.binI, VC.cmpI, VC.arithI, VC.ldv, VC.slv, VC.pickP, VC.holds, VC.chainOf, VC.look, VC.junk, VC.put, VC.eff, VC.callee, VC.pureB, VC.rdK, VC.rdKs, VC.okKs, VC.eqKs, VC.fillL, VC.putL, VC.stW, VC.stOK, VC.mixF, VC.setAll, Nat.reduceAdd, Nat.reduceSub, Nat.reduceMul, if_true, if_false, ↓reduceIte, forall_const, implies_true, reduceCtorEq, ne_eq, Nat.reduceBNe, Nat.reduceBEq, IntKind.signed, Nat.reduceEqDiff, Nat.reduceLeDiff, Nat.reduceLT, eq_self, Int.reduceEq, Int.reduceLT, Int.reduceLE, Int.reduceAdd, Int.reduceSub, VC.regC_nil, VC.regC_cons, VC.regCK_eq, VC.callQ, VC.tailQ, VC.goCall, VC.chStep]
    exact ⟨ret_int (firstNZ_miss hz).symm, hBx⟩
end Go.Proofs.Ytelfmhiaafkimaa
