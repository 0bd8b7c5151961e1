/- What some who crash have said: the checks. -/
import Derived.Test.YtelfmhiaafkimaaFloodPlain
import Derived.Test.YtelfmhiaafkimaaFamHp2
import Derived.Test.YtelfmhiaafkimaaTbl
import Derived.Test.YtelfmhiaafkimaaRefHas
import Derived.Test.YtelfmhiaafkimaaRefBits
import Derived.Test.YtelfmhiaafkimaaBits2
import Derived.Test.YtelfmhiaafkimaaSerial1
namespace Go.Proofs.Ytelfmhiaafkimaa
open Go Go.RowKit Go.VC
set_option linter.unusedSimpArgs false
set_option linter.unusedVariables false
abbrev crL (c : CrashC) : List Value := [.int .i64 c.who, .int .i64 c.round, .int .u32 c.to]
theorem crash_of_arg {w : World} {A : Option Addr} {n : Nat} (h : ArgS w A n 3 [.i .i64, .i .i64, .i .u32]) : ∃ g : Nat → CrashC, (∀ i, (g i).to < 4294967296) ∧ RdT w A n 3 (fun i => crL (g i)) := by
  by_cases h0 : 0 < n
  · obtain ⟨b, o, rfl, hb, hc⟩ := h h0
    have key : ∀ i, i < n → ∃ t : Nat, t < 4294967296 ∧ w.cell? ⟨b, o + i * 3 + 2, none⟩ = some (.int .u32 t) := fun i hi => by
      obtain ⟨h1, n1, h2, h3⟩ := hc i hi 2 _ rfl
      rw [h2] at h1
      obtain ⟨t, rfl, ht⟩ := u32_of h3
      exact ⟨t, ht, h1⟩
    refine ⟨fun i => ⟨rdI w ⟨b, o + i * 3, none⟩, rdI w ⟨b, o + i * 3 + 1, none⟩, if hi : i < n then (key i hi).choose else 0⟩, fun i => ?_, fun _ => ⟨b, o, rfl, hb, fun i hi j v hv => ?_⟩⟩
    · show (if hi : i < n then (key i hi).choose else 0) < 4294967296
      split
      · rename_i hi; exact (key i hi).choose_spec.1
      · omega
    · have hv : [Value.int .i64 (rdI w ⟨b, o + i * 3, none⟩), .int .i64 (rdI w ⟨b, o + i * 3 + 1, none⟩), .int .u32 ((if hi : i < n then (key i hi).choose else 0 : Nat) : Int)][j]? = some v := hv
      rw [dif_pos hi] at hv
      rcases j with _ | _ | _ | j
      · cases hv; exact (hc i hi 0 _ rfl).1
      · cases hv; exact (hc i hi 1 _ rfl).1
      · cases hv; exact (key i hi).choose_spec.2
      · cases hv
  · exact ⟨fun _ => ⟨0, 0, 0⟩, fun _ => by show (0 : Nat) < _; omega, fun h => absurd h h0⟩
/-- What is wrong with one crash. -/
def flBad (n : Nat) (g : Nat → CrashC) (i : Nat) : Int :=
  if ((g i).who < 0 ∨ n ≤ (g i).who ∨ (g i).round < 0 ∨ ¬ (g i).to < 2 ^ n) then 2 else if ((List.range i).any fun j => decide ((g j).who = (g i).who)) = true then 3 else 0
def hereB (g : Nat → CrashC) (k : Nat) (x : Int) : Bool := (List.range k).any fun j => decide ((g j).who = x)
theorem hereB_succ {g : Nat → CrashC} {k : Nat} {x : Int} : hereB g (k + 1) x = (hereB g k x || decide ((g k).who = x)) := by
  unfold hereB; rw [List.range_succ, List.any_append]; simp
noncomputable abbrev EJ : KE Try.prog 3 Int := KE.int (by kernel_rfl)
noncomputable def seenM (g : Nat → CrashC) (k : Nat) : Int → Option Value := fun x => if hereB g k x = true then some (.int .i64 1) else none
open Classical in
noncomputable def flCode (n : Nat) (g : Nat → CrashC) (len : Nat) : Int := firstNZ (flBad n g) len

set_option maxRecDepth 8000 in
set_option maxHeartbeats 2000000 in
theorem wrong_any (A : Option Addr) (n len c : Nat) (g : Nat → CrashC) (w : World) (hr : RdT w A len 3 (fun i => crL (g i))) (ht : ∀ i, (g i).to < 4294967296) (hn : n ≤ 6) (hl : len ≤ 6) (hfit : ∀ i, i < len → fits .i64 (g i).who) :
    Calls Try.prog 64 #[.int .i64 n, .slice A len c] w fun e w' => e = .returned (.int .i64 (flCode n g len)) ∧ Below w.heap.size w w' := by
  unfold flCode
  refine calls_vc (rs := [.tmp 4]) Fa.mix Try.func64 rfl Try.ntmps64 rfl (by kernel_rfl) (Nat.le_of_ble_eq_true rfl) ?_
  simp -dsimp (maxSteps := 2000000) only [Fa.F64, VC.Now, VC.vc, VC.lib, VC.mapN_drewN, VC.mapB_drewN, VC.regQ, VC.loopK, VC.reg, VC.opP, VC.opS, VC.opZ, VC.nomulB, VC.pv, VC.thenF, VC.blkF, VC.retF, VC.resV, VC.oneV, VC.evo, VC.bin, VC.binI, VC.cmpI, VC.arithI, VC.ldv, VC.slv, VC.pickP, VC.holds, VC.chainOf, VC.look, VC.junk, VC.put, VC.eff, VC.callee, VC.pureB, VC.rdK, VC.rdKs, VC.okKs, VC.eqKs, VC.fillL, VC.putL, VC.stW, VC.stOK, VC.mixF, VC.setAll, Nat.reduceAdd, Nat.reduceSub, Nat.reduceMul, if_true, if_false, ↓reduceIte, forall_const, implies_true, reduceCtorEq, ne_eq, Nat.reduceBNe, Nat.reduceBEq, IntKind.signed, Nat.reduceEqDiff, Nat.reduceLeDiff, Nat.reduceLT, eq_self, Int.reduceEq, Int.reduceLT, Int.reduceLE, Int.reduceAdd, Int.reduceSub, VC.regC_nil, VC.regC_cons, VC.regCK_eq, VC.callQ, VC.tailQ, VC.goCall, VC.chStep]
  refine OPW_makeMapV EJ rfl fun w5 hw5 hM5 => ?_
  have hB5 : Below w.heap.size w w5 := by rw [hw5]; exact (Below.refl _ w).alloc (Nat.le_refl _) _
  have hH0 := ((Hp.nil (B := w.heap.size) (Nat.le_refl _)).st_add (o := oMap EJ w.heap.size 0 (seenM g 0)) hB5 hM5 (fun g hg => by cases hg; exact Nat.le_refl _)).hp
  rw [VC.Now, VC.seqK_eq]
  simp -dsimp (maxSteps := 2000000) only [Fa.F64, VC.Now, VC.vc, VC.lib, VC.mapN_drewN, VC.mapB_drewN, VC.regQ, VC.loopK, VC.reg, VC.opP, VC.opS, VC.opZ, VC.nomulB, VC.pv, VC.thenF, VC.blkF, VC.retF, VC.resV, VC.oneV, VC.evo, VC.bin, VC.binI, VC.cmpI, VC.arithI, VC.ldv, VC.slv, VC.pickP, VC.holds, VC.chainOf, VC.look, VC.junk, VC.put, VC.eff, VC.callee, VC.pureB, VC.rdK, VC.rdKs, VC.okKs, VC.eqKs, VC.fillL, VC.putL, VC.stW, VC.stOK, VC.mixF, VC.setAll, Nat.reduceAdd, Nat.reduceSub, Nat.reduceMul, if_true, if_false, ↓reduceIte, forall_const, implies_true, reduceCtorEq, ne_eq, Nat.reduceBNe, Nat.reduceBEq, IntKind.signed, Nat.reduceEqDiff, Nat.reduceLeDiff, Nat.reduceLT, eq_self, Int.reduceEq, Int.reduceLT, Int.reduceLE, Int.reduceAdd, Int.reduceSub, VC.regC_nil, VC.regC_cons, VC.regCK_eq, VC.callQ, VC.tailQ, VC.goCall, VC.chStep]
  refine loop_slots Fa.mix [11] [4, 7, 12, 13, 14, 15, 16, 17, 18, 19, 20, 21, 22, 23, 24, 25, 26, 27, 28, 29, 30, 31, 32, 33, 34, 35, 36, 37, 38, 39, 40, 41, 42, 43, 44, 45, 46] (fun m vs wx => ∃ (k : Nat), k + m = len ∧ vs = [.int .i64 k] ∧ Below w.heap.size w wx ∧ Hp w.heap.size [oMap EJ w.heap.size k (seenM g k)] wx ∧ ∀ j, j < k → flBad n g j = 0) len (by kernel_rfl) rfl
    ⟨0, by omega, rfl, hB5, hH0, fun j hj => absurd hj (by omega)⟩ ?_
  clear hH0 hB5 hM5 hw5
  rintro m vs u2 wx ⟨k, hkm, rfl, hBx, hH, hz⟩
  by_cases hk : k < len
  · have e7 : ((k : Int) < len) = True := eq_true (by omega)
    obtain ⟨b, o, rfl, hb0, hc3⟩ := (hr.below hBx) (by omega)
    have z0 := hc3 k hk 0 _ rfl
    have z1 := hc3 k hk 1 _ rfl
    have z2 := hc3 k hk 2 _ rfl
    simp only [Nat.add_zero] at z0
    have hBs : Below wx.heap.size wx (wx.alloc (.cells #[.int .i64 (g k).who, .int .i64 (g k).round, .int .u32 (g k).to] 212)) := (Below.refl _ _).alloc (Nat.le_refl _) _
    have hBy := hBx.trans (hBs.mono hH.base)
    by_cases q1 : (g k).who < 0
    · have a1 := eq_true q1
      have hb : flBad n g k = 2 := by unfold flBad; rw [if_pos (by omega)]
      simp -dsimp (maxSteps := 2000000) only [Fa.F64, e7, rdI_of z0, z0, rdI_of z1, z1, rdI_of z2, z2, hb0, a1, Int.toNat_natCast, undef, tu, uf, ul, ur, VC.Now, VC.vc, VC.lib, VC.mapN_drewN, VC.mapB_drewN, VC.regQ, VC.loopK, VC.reg, VC.opP, VC.opS, VC.opZ, VC.nomulB, VC.pv, VC.thenF, VC.blkF, VC.retF, VC.resV, VC.oneV, VC.evo, VC.bin, VC.binI, VC.cmpI, VC.arithI, VC.ldv, VC.slv, VC.pickP, VC.holds, VC.chainOf, VC.look, VC.junk, VC.put, VC.eff, VC.callee, VC.pureB, VC.rdK, VC.rdKs, VC.okKs, VC.eqKs, VC.fillL, VC.putL, VC.stW, VC.stOK, VC.mixF, VC.setAll, Nat.reduceAdd, Nat.reduceSub, Nat.reduceMul, if_true, if_false, ↓reduceIte, forall_const, implies_true, reduceCtorEq, ne_eq, Nat.reduceBNe, Nat.reduceBEq, IntKind.signed, Nat.reduceEqDiff, Nat.reduceLeDiff, Nat.reduceLT, eq_self, Int.reduceEq, Int.reduceLT, Int.reduceLE, Int.reduceAdd, Int.reduceSub, VC.regC_nil, VC.regC_cons, VC.regCK_eq, VC.callQ, VC.tailQ, VC.goCall, VC.chStep]
      refine ⟨by omega, ?_⟩
      intros
      exact ⟨ret_int (by rw [firstNZ_hit hk hz (by omega), hb]), hBy⟩
    have a1 := eq_false q1
    by_cases q2 : (n : Int) ≤ (g k).who
    · have a2 := eq_true q2
      have hb : flBad n g k = 2 := by unfold flBad; rw [if_pos (by omega)]
      simp -dsimp (maxSteps := 2000000) only [Fa.F64, e7, rdI_of z0, z0, rdI_of z1, z1, rdI_of z2, z2, hb0, a1, a2, Int.toNat_natCast, undef, tu, uf, ul, ur, VC.Now, VC.vc, VC.lib, VC.mapN_drewN, VC.mapB_drewN, VC.regQ, VC.loopK, VC.reg, VC.opP, VC.opS, VC.opZ, VC.nomulB, VC.pv, VC.thenF, VC.blkF, VC.retF, VC.resV, VC.oneV, VC.evo, VC.bin, VC.binI, VC.cmpI, VC.arithI, VC.ldv, VC.slv, VC.pickP, VC.holds, VC.chainOf, VC.look, VC.junk, VC.put, VC.eff, VC.callee, VC.pureB, VC.rdK, VC.rdKs, VC.okKs, VC.eqKs, VC.fillL, VC.putL, VC.stW, VC.stOK, VC.mixF, VC.setAll, Nat.reduceAdd, Nat.reduceSub, Nat.reduceMul, if_true, if_false, ↓reduceIte, forall_const, implies_true, reduceCtorEq, ne_eq, Nat.reduceBNe, Nat.reduceBEq, IntKind.signed, Nat.reduceEqDiff, Nat.reduceLeDiff, Nat.reduceLT, eq_self, Int.reduceEq, Int.reduceLT, Int.reduceLE, Int.reduceAdd, Int.reduceSub, VC.regC_nil, VC.regC_cons, VC.regCK_eq, VC.callQ, VC.tailQ, VC.goCall, VC.chStep]
      refine ⟨by omega, ?_⟩
      intros
      exact ⟨ret_int (by rw [firstNZ_hit hk hz (by omega), hb]), hBy⟩
    have a2 := eq_false q2
    by_cases q3 : (g k).round < 0
    · have a3 := eq_true q3
      have hb : flBad n g k = 2 := by unfold flBad; rw [if_pos (by omega)]
      simp -dsimp (maxSteps := 2000000) only [Fa.F64, e7, rdI_of z0, z0, rdI_of z1, z1, rdI_of z2, z2, hb0, a1, a2, a3, Int.toNat_natCast, undef, tu, uf, ul, ur, VC.Now, VC.vc, VC.lib, VC.mapN_drewN, VC.mapB_drewN, VC.regQ, VC.loopK, VC.reg, VC.opP, VC.opS, VC.opZ, VC.nomulB, VC.pv, VC.thenF, VC.blkF, VC.retF, VC.resV, VC.oneV, VC.evo, VC.bin, VC.binI, VC.cmpI, VC.arithI, VC.ldv, VC.slv, VC.pickP, VC.holds, VC.chainOf, VC.look, VC.junk, VC.put, VC.eff, VC.callee, VC.pureB, VC.rdK, VC.rdKs, VC.okKs, VC.eqKs, VC.fillL, VC.putL, VC.stW, VC.stOK, VC.mixF, VC.setAll, Nat.reduceAdd, Nat.reduceSub, Nat.reduceMul, if_true, if_false, ↓reduceIte, forall_const, implies_true, reduceCtorEq, ne_eq, Nat.reduceBNe, Nat.reduceBEq, IntKind.signed, Nat.reduceEqDiff, Nat.reduceLeDiff, Nat.reduceLT, eq_self, Int.reduceEq, Int.reduceLT, Int.reduceLE, Int.reduceAdd, Int.reduceSub, VC.regC_nil, VC.regC_cons, VC.regCK_eq, VC.callQ, VC.tailQ, VC.goCall, VC.chStep]
      refine ⟨by omega, ?_⟩
      intros
      exact ⟨ret_int (by rw [firstNZ_hit hk hz (by omega), hb]), hBy⟩
    have a3 := eq_false q3
    have hsz : (((g k).to : Int).fdiv (2 ^ shN .u32 (n : Int)) = 0) = ((g k).to < 2 ^ n) := shr_zero (by omega)
    by_cases q4 : (g k).to < 2 ^ n
    case neg =>
      have a4 := eq_false q4
      have hb : flBad n g k = 2 := by unfold flBad; rw [if_pos (by omega)]
      simp -dsimp (maxSteps := 2000000) only [Fa.F64, e7, rdI_of z0, z0, rdI_of z1, z1, rdI_of z2, z2, hb0, a1, a2, a3, hsz, a4, Int.toNat_natCast, undef, tu, uf, ul, ur, VC.Now, VC.vc, VC.lib, VC.mapN_drewN, VC.mapB_drewN, VC.regQ, VC.loopK, VC.reg, VC.opP, VC.opS, VC.opZ, VC.nomulB, VC.pv, VC.thenF, VC.blkF, VC.retF, VC.resV, VC.oneV, VC.evo, VC.bin, VC.binI, VC.cmpI, VC.arithI, VC.ldv, VC.slv, VC.pickP, VC.holds, VC.chainOf, VC.look, VC.junk, VC.put, VC.eff, VC.callee, VC.pureB, VC.rdK, VC.rdKs, VC.okKs, VC.eqKs, VC.fillL, VC.putL, VC.stW, VC.stOK, VC.mixF, VC.setAll, Nat.reduceAdd, Nat.reduceSub, Nat.reduceMul, if_true, if_false, ↓reduceIte, forall_const, implies_true, reduceCtorEq, ne_eq, Nat.reduceBNe, Nat.reduceBEq, IntKind.signed, Nat.reduceEqDiff, Nat.reduceLeDiff, Nat.reduceLT, eq_self, Int.reduceEq, Int.reduceLT, Int.reduceLE, Int.reduceAdd, Int.reduceSub, VC.regC_nil, VC.regC_cons, VC.regCK_eq, VC.callQ, VC.tailQ, VC.goCall, VC.chStep]
      refine ⟨by omega, by omega, ?_⟩
      intros
      exact ⟨ret_int (by rw [firstNZ_hit hk hz (by omega), hb]), hBy⟩
    have a4 := eq_true q4
    simp -dsimp (maxSteps := 2000000) only [Fa.F64, e7, rdI_of z0, z0, rdI_of z1, z1, rdI_of z2, z2, hb0, a1, a2, a3, hsz, a4, Int.toNat_natCast, undef, tu, uf, ul, ur, VC.Now, VC.vc, VC.lib, VC.mapN_drewN, VC.mapB_drewN, VC.regQ, VC.loopK, VC.reg, VC.opP, VC.opS, VC.opZ, VC.nomulB, VC.pv, VC.thenF, VC.blkF, VC.retF, VC.resV, VC.oneV, VC.evo, VC.bin, VC.binI, VC.cmpI, VC.arithI, VC.ldv, VC.slv, VC.pickP, VC.holds, VC.chainOf, VC.look, VC.junk, VC.put, VC.eff, VC.callee, VC.pureB, VC.rdK, VC.rdKs, VC.okKs, VC.eqKs, VC.fillL, VC.putL, VC.stW, VC.stOK, VC.mixF, VC.setAll, Nat.reduceAdd, Nat.reduceSub, Nat.reduceMul, if_true, if_false, ↓reduceIte, forall_const, implies_true, reduceCtorEq, ne_eq, Nat.reduceBNe, Nat.reduceBEq, IntKind.signed, Nat.reduceEqDiff, Nat.reduceLeDiff, Nat.reduceLT, eq_self, Int.reduceEq, Int.reduceLT, Int.reduceLE, Int.reduceAdd, Int.reduceSub, VC.regC_nil, VC.regC_cons, VC.regCK_eq, VC.callQ, VC.tailQ, VC.goCall, VC.chStep]
    refine ⟨by omega, by omega, fun u3 => ?_⟩
    have bx := Box.new wx [.int .i64 (g k).who, .int .i64 (g k).round, .int .u32 (g k).to] 212
    change OPW _ _ _ (wx.alloc (.cells #[.int .i64 (g k).who, .int .i64 (g k).round, .int .u32 (g k).to] 212)) _
    have hHy := hH.below hBs
    have nsb : ¬ foot [oMap EJ w.heap.size k (seenM g k)] wx.heap.size := fun hf => absurd (hH.foot_lt hf).2 (Nat.lt_irrefl _)
    have hwb := hH.base
    generalize wx.alloc (.cells #[.int .i64 (g k).who, .int .i64 (g k).round, .int .u32 (g k).to] 212) = wy at bx hBs hBy hHy ⊢
    clear hBs hBx hH z0 z1 z2
    generalize wx.heap.size = sb at bx nsb hwb ⊢
    have hM : MapV Try.prog EJ wy w.heap.size k (seenM g k) := hHy.get 0 rfl
    have hok : EJ.ok (g k).who := hfit k hk
    have c0 := bx.at (i := 0) rfl
    have hsl := bx.1
    by_cases hh : hereB g k (g k).who = true
    · have hv : seenM g k (g k).who = some (.int .i64 1) := if_pos hh
      have hb : flBad n g k = 3 := by unfold flBad; rw [if_neg (by omega)]; exact if_pos hh
      refine OPW_lookV (x := (g k).who) (z := .int .i64 0) (v := .int .i64 1) hM rfl (by kernel_rfl) rfl rfl hok (by rw [hv]; rfl) ?_
      rw [VC.Now, VC.seqK_eq]
      simp -dsimp (maxSteps := 2000000) only [Fa.F64, VC.Now, VC.vc, VC.lib, VC.mapN_drewN, VC.mapB_drewN, VC.regQ, VC.loopK, VC.reg, VC.opP, VC.opS, VC.opZ, VC.nomulB, VC.pv, VC.thenF, VC.blkF, VC.retF, VC.resV, VC.oneV, VC.evo, VC.bin, VC.binI, VC.cmpI, VC.arithI, VC.ldv, VC.slv, VC.pickP, VC.holds, VC.chainOf, VC.look, VC.junk, VC.put, VC.eff, VC.callee, VC.pureB, VC.rdK, VC.rdKs, VC.okKs, VC.eqKs, VC.fillL, VC.putL, VC.stW, VC.stOK, VC.mixF, VC.setAll, Nat.reduceAdd, Nat.reduceSub, Nat.reduceMul, if_true, if_false, ↓reduceIte, forall_const, implies_true, reduceCtorEq, ne_eq, Nat.reduceBNe, Nat.reduceBEq, IntKind.signed, Nat.reduceEqDiff, Nat.reduceLeDiff, Nat.reduceLT, eq_self, Int.reduceEq, Int.reduceLT, Int.reduceLE, Int.reduceAdd, Int.reduceSub, VC.regC_nil, VC.regC_cons, VC.regCK_eq, VC.callQ, VC.tailQ, VC.goCall, VC.chStep]
      refine ⟨fits_i64 (by omega) (by omega), ?_⟩
      refine OPW_updV (x := (g k).who) (c := .int .i64 2) hM rfl (by kernel_rfl) rfl rfl rfl hok (by unfold maxLen; omega) fun w6 hM6 ht6 => ?_
      have bx6 := bx.agree (mapTurned_agree (X := fun j => j = w.heap.size) ht6 rfl) (fun e => nsb (foot_at (i := 0) rfl (by rw [e]; rfl)))
      have c6 := bx6.at (i := 0) rfl
      have hs6 := bx6.1
      have st6 := hHy.turned 0 rfl hM6 ht6
      rw [VC.Now, VC.seqK_eq]
      simp -dsimp (maxSteps := 2000000) only [Fa.F64, rdI_of c6, c6, hs6, VC.Now, VC.vc, VC.lib, VC.mapN_drewN, VC.mapB_drewN, VC.regQ, VC.loopK, VC.reg, VC.opP, VC.opS, VC.opZ, VC.nomulB, VC.pv, VC.thenF, VC.blkF, VC.retF, VC.resV, VC.oneV, VC.evo, VC.bin, VC.binI, VC.cmpI, VC.arithI, VC.ldv, VC.slv, VC.pickP, VC.holds, VC.chainOf, VC.look, VC.junk, VC.put, VC.eff, VC.callee, VC.pureB, VC.rdK, VC.rdKs, VC.okKs, VC.eqKs, VC.fillL, VC.putL, VC.stW, VC.stOK, VC.mixF, VC.setAll, Nat.reduceAdd, Nat.reduceSub, Nat.reduceMul, if_true, if_false, ↓reduceIte, forall_const, implies_true, reduceCtorEq, ne_eq, Nat.reduceBNe, Nat.reduceBEq, IntKind.signed, Nat.reduceEqDiff, Nat.reduceLeDiff, Nat.reduceLT, eq_self, Int.reduceEq, Int.reduceLT, Int.reduceLE, Int.reduceAdd, Int.reduceSub, VC.regC_nil, VC.regC_cons, VC.regCK_eq, VC.callQ, VC.tailQ, VC.goCall, VC.chStep]
      refine OPW_lookV (x := (g k).who) (z := .int .i64 0) (v := .int .i64 2) hM6 rfl (by kernel_rfl) rfl rfl hok (by rw [updV_same]; rfl) ?_
      rw [VC.Now, VC.seqK_eq]
      simp -dsimp (maxSteps := 2000000) only [Fa.F64, VC.Now, VC.vc, VC.lib, VC.mapN_drewN, VC.mapB_drewN, VC.regQ, VC.loopK, VC.reg, VC.opP, VC.opS, VC.opZ, VC.nomulB, VC.pv, VC.thenF, VC.blkF, VC.retF, VC.resV, VC.oneV, VC.evo, VC.bin, VC.binI, VC.cmpI, VC.arithI, VC.ldv, VC.slv, VC.pickP, VC.holds, VC.chainOf, VC.look, VC.junk, VC.put, VC.eff, VC.callee, VC.pureB, VC.rdK, VC.rdKs, VC.okKs, VC.eqKs, VC.fillL, VC.putL, VC.stW, VC.stOK, VC.mixF, VC.setAll, Nat.reduceAdd, Nat.reduceSub, Nat.reduceMul, if_true, if_false, ↓reduceIte, forall_const, implies_true, reduceCtorEq, ne_eq, Nat.reduceBNe, Nat.reduceBEq, IntKind.signed, Nat.reduceEqDiff, Nat.reduceLeDiff, Nat.reduceLT, eq_self, Int.reduceEq, Int.reduceLT, Int.reduceLE, Int.reduceAdd, Int.reduceSub, VC.regC_nil, VC.regC_cons, VC.regCK_eq, VC.callQ, VC.tailQ, VC.goCall, VC.chStep]
      exact ⟨ret_int (by rw [firstNZ_hit hk hz (by omega), hb]), hBy.trans (st6.below hHy)⟩
    · have hv : seenM g k (g k).who = none := if_neg hh
      have hb : flBad n g k = 0 := by unfold flBad; rw [if_neg (by omega)]; exact if_neg hh
      refine OPW_lookV (x := (g k).who) (z := .int .i64 0) (v := .int .i64 0) hM rfl (by kernel_rfl) rfl rfl hok (by rw [hv]; rfl) ?_
      rw [VC.Now, VC.seqK_eq]
      simp -dsimp (maxSteps := 2000000) only [Fa.F64, VC.Now, VC.vc, VC.lib, VC.mapN_drewN, VC.mapB_drewN, VC.regQ, VC.loopK, VC.reg, VC.opP, VC.opS, VC.opZ, VC.nomulB, VC.pv, VC.thenF, VC.blkF, VC.retF, VC.resV, VC.oneV, VC.evo, VC.bin, VC.binI, VC.cmpI, VC.arithI, VC.ldv, VC.slv, VC.pickP, VC.holds, VC.chainOf, VC.look, VC.junk, VC.put, VC.eff, VC.callee, VC.pureB, VC.rdK, VC.rdKs, VC.okKs, VC.eqKs, VC.fillL, VC.putL, VC.stW, VC.stOK, VC.mixF, VC.setAll, Nat.reduceAdd, Nat.reduceSub, Nat.reduceMul, if_true, if_false, ↓reduceIte, forall_const, implies_true, reduceCtorEq, ne_eq, Nat.reduceBNe, Nat.reduceBEq, IntKind.signed, Nat.reduceEqDiff, Nat.reduceLeDiff, Nat.reduceLT, eq_self, Int.reduceEq, Int.reduceLT, Int.reduceLE, Int.reduceAdd, Int.reduceSub, VC.regC_nil, VC.regC_cons, VC.regCK_eq, VC.callQ, VC.tailQ, VC.goCall, VC.chStep]
      refine ⟨fits_i64 (by omega) (by omega), ?_⟩
      refine OPW_updV (x := (g k).who) (c := .int .i64 1) hM rfl (by kernel_rfl) rfl rfl rfl hok (by unfold maxLen; omega) fun w6 hM6 ht6 => ?_
      have bx6 := bx.agree (mapTurned_agree (X := fun j => j = w.heap.size) ht6 rfl) (fun e => nsb (foot_at (i := 0) rfl (by rw [e]; rfl)))
      have c6 := bx6.at (i := 0) rfl
      have hs6 := bx6.1
      rw [hv] at hM6
      have hse : updV (seenM g k) (g k).who (.int .i64 1) = seenM g (k + 1) := by
        funext x
        unfold seenM
        rw [hereB_succ]
        by_cases e : x = (g k).who
        · subst e; rw [updV_same, decide_eq_true rfl, Bool.or_true]; rfl
        · rw [updV_other e, decide_eq_false (fun h => e h.symm), Bool.or_false]
      rw [hse] at hM6
      have hM6 : MapV Try.prog EJ w6 w.heap.size (k + 1) (seenM g (k + 1)) := hM6
      have st6 := hHy.turned 0 rfl hM6 ht6
      rw [VC.Now, VC.seqK_eq]
      simp -dsimp (maxSteps := 2000000) only [Fa.F64, rdI_of c6, c6, hs6, VC.Now, VC.vc, VC.lib, VC.mapN_drewN, VC.mapB_drewN, VC.regQ, VC.loopK, VC.reg, VC.opP, VC.opS, VC.opZ, VC.nomulB, VC.pv, VC.thenF, VC.blkF, VC.retF, VC.resV, VC.oneV, VC.evo, VC.bin, VC.binI, VC.cmpI, VC.arithI, VC.ldv, VC.slv, VC.pickP, VC.holds, VC.chainOf, VC.look, VC.junk, VC.put, VC.eff, VC.callee, VC.pureB, VC.rdK, VC.rdKs, VC.okKs, VC.eqKs, VC.fillL, VC.putL, VC.stW, VC.stOK, VC.mixF, VC.setAll, Nat.reduceAdd, Nat.reduceSub, Nat.reduceMul, if_true, if_false, ↓reduceIte, forall_const, implies_true, reduceCtorEq, ne_eq, Nat.reduceBNe, Nat.reduceBEq, IntKind.signed, Nat.reduceEqDiff, Nat.reduceLeDiff, Nat.reduceLT, eq_self, Int.reduceEq, Int.reduceLT, Int.reduceLE, Int.reduceAdd, Int.reduceSub, VC.regC_nil, VC.regC_cons, VC.regCK_eq, VC.callQ, VC.tailQ, VC.goCall, VC.chStep]
      refine OPW_lookV (x := (g k).who) (z := .int .i64 0) (v := .int .i64 1) hM6 rfl (by kernel_rfl) rfl rfl hok (by rw [← hse, updV_same]; rfl) ?_
      rw [VC.Now, VC.seqK_eq]
      simp -dsimp (maxSteps := 2000000) only [Fa.F64, VC.Now, VC.vc, VC.lib, VC.mapN_drewN, VC.mapB_drewN, VC.regQ, VC.loopK, VC.reg, VC.opP, VC.opS, VC.opZ, VC.nomulB, VC.pv, VC.thenF, VC.blkF, VC.retF, VC.resV, VC.oneV, VC.evo, VC.bin, VC.binI, VC.cmpI, VC.arithI, VC.ldv, VC.slv, VC.pickP, VC.holds, VC.chainOf, VC.look, VC.junk, VC.put, VC.eff, VC.callee, VC.pureB, VC.rdK, VC.rdKs, VC.okKs, VC.eqKs, VC.fillL, VC.putL, VC.stW, VC.stOK, VC.mixF, VC.setAll, Nat.reduceAdd, Nat.reduceSub, Nat.reduceMul, if_true, if_false, ↓reduceIte, forall_const, implies_true, reduceCtorEq, ne_eq, Nat.reduceBNe, Nat.reduceBEq, IntKind.signed, Nat.reduceEqDiff, Nat.reduceLeDiff, Nat.reduceLT, eq_self, Int.reduceEq, Int.reduceLT, Int.reduceLE, Int.reduceAdd, Int.reduceSub, VC.regC_nil, VC.regC_cons, VC.regCK_eq, VC.callQ, VC.tailQ, VC.goCall, VC.chStep]
      refine ⟨fits_i64_nat (by omega), SAME.intro (by kernel_rfl), m - 1, by omega, k + 1, by omega, rfl, hBy.trans (st6.below hHy), st6.hp, fun j hj => ?_⟩
      by_cases hjk : j = k
      · subst hjk; exact hb
      · exact hz j (by omega)
  · obtain rfl : k = len := by omega
    have e7 : ((k : Int) < k) = False := eq_false (by omega)
    simp -dsimp (maxSteps := 2000000) only [Fa.F64, e7, VC.Now, VC.vc, VC.lib, VC.mapN_drewN, VC.mapB_drewN, VC.regQ, VC.loopK, VC.reg, VC.opP, VC.opS, VC.opZ, VC.nomulB, VC.pv, VC.thenF, VC.blkF, VC.retF, VC.resV, VC.oneV, VC.evo, VC.bin, VC.binI, VC.cmpI, VC.arithI, VC.ldv, VC.slv, VC.pickP, VC.holds, VC.chainOf, VC.look, VC.junk, VC.put, VC.eff, VC.callee, VC.pureB, VC.rdK, VC.rdKs, VC.okKs, VC.eqKs, VC.fillL, VC.putL, VC.stW, VC.stOK, VC.mixF, VC.setAll, Nat.reduceAdd, Nat.reduceSub, Nat.reduceMul, if_true, if_false, ↓reduceIte, forall_const, implies_true, reduceCtorEq, ne_eq, Nat.reduceBNe, Nat.reduceBEq, IntKind.signed, Nat.reduceEqDiff, Nat.reduceLeDiff, Nat.reduceLT, eq_self, Int.reduceEq, Int.reduceLT, Int.reduceLE, Int.reduceAdd, Int.reduceSub, VC.regC_nil, VC.regC_cons, VC.regCK_eq, VC.callQ, VC.tailQ, VC.goCall, VC.chStep]
    exact ⟨ret_int (firstNZ_miss hz).symm, hBx⟩
end Go.Proofs.Ytelfmhiaafkimaa
