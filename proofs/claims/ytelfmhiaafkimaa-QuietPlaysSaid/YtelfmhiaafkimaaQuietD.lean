/- When all rests, the document's: the whole run. -/
import Derived.Test.YtelfmhiaafkimaaQTab
import Derived.Test.YtelfmhiaafkimaaCut
import Derived.Test.YtelfmhiaafkimaaQuiet6
namespace Go.Proofs.Ytelfmhiaafkimaa
open Go Go.RowKit Go.VC
set_option linter.unusedSimpArgs false
set_option linter.unusedVariables false

set_option maxRecDepth 8000 in
set_option maxHeartbeats 8000000 in
noncomputable def calmBut : { P : Prop × Prop × Prop // P.1 ∧ P.2.1 ∧ P.2.2 → ∀ (A : Option Addr) (n len cap : Nat) (g : Nat → CalmC) (w : World), RdT w A len 3 (fun i => calmL (g i)) → 1 ≤ n → n ≤ 6 → len ≤ 120 →
    Calls Try.prog 22 #[.int .i64 n, .slice A len cap] w fun e w' => ∃ v, e = .returned v ∧ QuietQ n len ((List.range len).map (qcode n g)) (qst n g len) v w' ∧ NewS w.heap.size v ∧ Below w.heap.size w w' } := by
  refine ⟨(?P3, ?P4, ?P5), fun HH A n len cap g w hr h1 hn hlen => ?body⟩
  case body =>
    have hB0 : Below w.heap.size w (w.alloc (.cells #[nilS, nilS, nilS, .int .i64 0, .bool false] 47)) := (Below.refl _ _).alloc (Nat.le_refl _) _
    have hH0 := (Hp.nil (B := w.heap.size) (Nat.le_refl _)).st_add (o := oBox w.heap.size [nilS, nilS, nilS, .int .i64 0, .bool false]) hB0 (Box.new w _ _) (fun g hg => by cases hg; exact Nat.le_refl _)
    replace hH0 := hH0.hp
    have hz0 : (w.alloc (.cells #[nilS, nilS, nilS, .int .i64 0, .bool false] 47)).heap.size = w.heap.size + 1 := by simp
    refine calls_vc (rs := [.cell 4 47]) Fa.mix Try.func22 rfl Try.ntmps22 rfl (by kernel_rfl) (Nat.le_of_ble_eq_true rfl) ?_
    (repeat rw [vc_seq]); refine vc_plain _ fun Q hQ => ?_; simp -dsimp (maxSteps := 2000000) only [Fa.F22, VC.Now, VC.vc_skip, VC.vc_ret, VC.vc_exit, VC.vc_block, VC.vc_cond, VC.vc_region, VC.lib, VC.mapN_drewN, VC.mapB_drewN, VC.regQ, VC.loopK, VC.reg, VC.opP, VC.opS, VC.opZ, VC.nomulB, VC.pv, VC.thenF, VC.blkF, VC.retF, VC.resV, VC.oneV, VC.evo, VC.bin, VC.binI, VC.cmpI, VC.arithI, VC.ldv, VC.slv, VC.pickP, VC.holds, VC.chainOf, VC.look, VC.junk, VC.put, VC.eff, VC.callee, VC.pureB, VC.rdK, VC.rdKs, VC.okKs, VC.eqKs, VC.fillL, VC.putL, VC.stW, VC.stOK, VC.mixF, VC.setAll, Nat.reduceAdd, Nat.reduceSub, Nat.reduceMul, if_true, if_false, ↓reduceIte, forall_const, implies_true, reduceCtorEq, ne_eq, Nat.reduceBNe, Nat.reduceBEq, IntKind.signed, Nat.reduceEqDiff, Nat.reduceLeDiff, Nat.reduceLT, eq_self, Int.reduceEq, Int.reduceLT, Int.reduceLE, Int.reduceAdd, Int.reduceSub, VC.regC_nil, VC.regC_cons, VC.regCK_eq, VC.callQ, VC.tailQ, VC.goCall, VC.chStep]
    change Q _ _ (w.alloc (.cells #[nilS, nilS, nilS, .int .i64 0, .bool false] 47))
    generalize w.alloc (.cells #[nilS, nilS, nilS, .int .i64 0, .bool false] 47) = wa at hH0 hB0 hz0 ⊢
    generalize hrb : w.heap.size = rb at hH0 hB0 hz0 ⊢
    subst hQ
    simp -dsimp (maxSteps := 2000000) only [Fa.F22, VC.Now, VC.vc_skip, VC.vc_ret, VC.vc_exit, VC.vc_block, VC.vc_cond, VC.vc_region, VC.lib, VC.mapN_drewN, VC.mapB_drewN, VC.regQ, VC.loopK, VC.reg, VC.opP, VC.opS, VC.opZ, VC.nomulB, VC.pv, VC.thenF, VC.blkF, VC.retF, VC.resV, VC.oneV, VC.evo, VC.bin, VC.binI, VC.cmpI, VC.arithI, VC.ldv, VC.slv, VC.pickP, VC.holds, VC.chainOf, VC.look, VC.junk, VC.put, VC.eff, VC.callee, VC.pureB, VC.rdK, VC.rdKs, VC.okKs, VC.eqKs, VC.fillL, VC.putL, VC.mixF, VC.setAll, Nat.reduceAdd, Nat.reduceSub, Nat.reduceMul, if_true, if_false, ↓reduceIte, forall_const, implies_true, reduceCtorEq, ne_eq, Nat.reduceBNe, Nat.reduceBEq, IntKind.signed, Nat.reduceEqDiff, Nat.reduceLeDiff, Nat.reduceLT, eq_self, Int.reduceEq, Int.reduceLT, Int.reduceLE, Int.reduceAdd, Int.reduceSub, VC.regC_nil, VC.regC_cons, VC.regCK_eq, VC.callQ, VC.tailQ, VC.goCall, VC.chStep]
    (repeat rw [vc_seq]); refine vc_plain _ fun Q hQ => ?_; simp -dsimp (maxSteps := 2000000) only [Fa.F22, VC.Now, VC.vc_skip, VC.vc_ret, VC.vc_exit, VC.vc_block, VC.vc_cond, VC.vc_region, VC.lib, VC.mapN_drewN, VC.mapB_drewN, VC.regQ, VC.loopK, VC.reg, VC.opP, VC.opS, VC.opZ, VC.nomulB, VC.pv, VC.thenF, VC.blkF, VC.retF, VC.resV, VC.oneV, VC.evo, VC.bin, VC.binI, VC.cmpI, VC.arithI, VC.ldv, VC.slv, VC.pickP, VC.holds, VC.chainOf, VC.look, VC.junk, VC.put, VC.eff, VC.callee, VC.pureB, VC.rdK, VC.rdKs, VC.okKs, VC.eqKs, VC.fillL, VC.putL, VC.mixF, VC.setAll, Nat.reduceAdd, Nat.reduceSub, Nat.reduceMul, if_true, if_false, ↓reduceIte, forall_const, implies_true, reduceCtorEq, ne_eq, Nat.reduceBNe, Nat.reduceBEq, IntKind.signed, Nat.reduceEqDiff, Nat.reduceLeDiff, Nat.reduceLT, eq_self, Int.reduceEq, Int.reduceLT, Int.reduceLE, Int.reduceAdd, Int.reduceSub, VC.regC_nil, VC.regC_cons, VC.regCK_eq, VC.callQ, VC.tailQ, VC.goCall, VC.chStep]
    obtain ⟨f1, f2, f3⟩ := box5 wa [nilS, nilS, nilS, .int .i64 0, .bool false] (fun v hv => zero5 hv) rfl
    refine ⟨f1, ?_⟩
    clear f1
    have hH1 := (hH0.st_add (o := oBox wa.heap.size [nilS, nilS, nilS, .int .i64 0, .bool false]) f3 f2 (fun g hg => by cases hg; exact Nat.le_refl _)).hp
    have hB1 := hB0.trans (f3.mono (by omega))
    generalize stW (wa.alloc (.cells #[nilS, nilS, nilS, .int .i64 0, .bool false] 47)) ⟨wa.heap.size, 0, none⟩ 0 [nilS, nilS, nilS, .int .i64 0, .bool false] = wb at *
    clear f2 f3
    generalize wa.heap.size = ob at *
    subst hQ
    simp -dsimp (maxSteps := 2000000) only [Fa.F22, VC.Now, VC.vc, VC.lib, VC.mapN_drewN, VC.mapB_drewN, VC.regQ, VC.loopK, VC.reg, VC.opP, VC.opS, VC.opZ, VC.nomulB, VC.pv, VC.thenF, VC.blkF, VC.retF, VC.resV, VC.oneV, VC.evo, VC.bin, VC.binI, VC.cmpI, VC.arithI, VC.ldv, VC.slv, VC.pickP, VC.holds, VC.chainOf, VC.look, VC.junk, VC.put, VC.eff, VC.callee, VC.pureB, VC.rdK, VC.rdKs, VC.okKs, VC.eqKs, VC.fillL, VC.putL, VC.mixF, VC.setAll, Nat.reduceAdd, Nat.reduceSub, Nat.reduceMul, if_true, if_false, ↓reduceIte, forall_const, implies_true, reduceCtorEq, ne_eq, Nat.reduceBNe, Nat.reduceBEq, IntKind.signed, Nat.reduceEqDiff, Nat.reduceLeDiff, Nat.reduceLT, eq_self, Int.reduceEq, Int.reduceLT, Int.reduceLE, Int.reduceAdd, Int.reduceSub, VC.regC_nil, VC.regC_cons, VC.regCK_eq, VC.callQ, VC.tailQ, VC.goCall, VC.chStep]
    refine OPW_makeK (n := n) (base := 0) rfl Fa.apI136 rfl rfl rfl rfl (by omega) (by omega) (Nat.zero_le _) fun w4 ho4 hg4 => ?_
    have hB4 : Below wb.heap.size wb w4 := (Below.refl _ _).grown hg4 (Nat.le_refl _) fun k hk => by cases hk
    have hl4 : wb.heap.size < w4.heap.size := (ho4.lt (g := wb.heap.size) rfl).2
    have hH2 := (hH1.st_add (o := oRecs wb.heap.size n 4 (fun _ => prL ⟨false, false, 0, 0⟩)) hB4 (Recs.of_own (cs := fun _ => prL ⟨false, false, 0, 0⟩) ho4 hl4 (fun i hi j hj => made_at _ rfl hi hj)) (fun g hg => by cases hg; exact Nat.le_refl _)).hp
    have hB2 := hB1.trans (hB4.mono hH1.base)
    rw [VC.Now, VC.seqK_eq]
    generalize wb.heap.size = gl at hH2 ⊢
    clear ho4 hg4 hB4 hl4 hH1 hB1 hH0 hB0
    have hnn : (n : Int) * n = ((n * n : Nat) : Int) := by simp
    have hn36 : n * n ≤ 36 := Nat.mul_le_mul hn hn
    obtain ⟨ok, st3⟩ := hH2.recAll (i := 0) (a := 0) (vs := [.bool true, .bool true, .int .i64 (-1), .int .i64 0]) rfl (by omega) rfl rfl (by intro v hv; simp at hv; rcases hv with rfl | rfl | rfl <;> rfl)
    rw [Nat.zero_mul] at ok st3
    simp -dsimp (maxSteps := 2000000) only [Fa.F22, hnn, VC.Now, VC.vc, VC.lib, VC.mapN_drewN, VC.mapB_drewN, VC.regQ, VC.loopK, VC.reg, VC.opP, VC.opS, VC.opZ, VC.nomulB, VC.pv, VC.thenF, VC.blkF, VC.retF, VC.resV, VC.oneV, VC.evo, VC.bin, VC.binI, VC.cmpI, VC.arithI, VC.ldv, VC.slv, VC.pickP, VC.holds, VC.chainOf, VC.look, VC.junk, VC.put, VC.eff, VC.callee, VC.pureB, VC.rdK, VC.rdKs, VC.okKs, VC.eqKs, VC.fillL, VC.putL, VC.mixF, VC.setAll, Nat.reduceAdd, Nat.reduceSub, Nat.reduceMul, if_true, if_false, ↓reduceIte, forall_const, implies_true, reduceCtorEq, ne_eq, Nat.reduceBNe, Nat.reduceBEq, IntKind.signed, Nat.reduceEqDiff, Nat.reduceLeDiff, Nat.reduceLT, eq_self, Int.reduceEq, Int.reduceLT, Int.reduceLE, Int.reduceAdd, Int.reduceSub, VC.regC_nil, VC.regC_cons, VC.regCK_eq, VC.callQ, VC.tailQ, VC.goCall, VC.chStep]
    refine ⟨by omega, ok, fits_i64 (by omega) (by omega), ?_⟩
    have hB3 := hB2.trans (st3.below hH2)
    have hH3 := st3.hp
    clear hH2 hB2 st3 ok
    generalize stW w4 ⟨gl, 0, none⟩ 0 [.bool true, .bool true, .int .i64 (-1), .int .i64 0] = w5 at *
    refine OPW_makeK (n := n * n) (base := 0) rfl Fa.apI23 rfl rfl rfl rfl (by omega) (by omega) (Nat.zero_le _) fun w6 ho6 hg6 => ?_
    have hB4 : Below w5.heap.size w5 w6 := (Below.refl _ _).grown hg6 (Nat.le_refl _) fun k hk => by cases hk
    have hl6 : w5.heap.size < w6.heap.size := (ho6.lt (g := w5.heap.size) rfl).2
    have hH4 := (hH3.st_add (o := oRecs w5.heap.size n n (fun _ => rowL n (fun _ => 0))) hB4 (Recs.of_own1 (cs := fun _ => rowL n (fun _ => 0)) ho6 hl6 (fun i hi j hj => made_row hi hj)) (fun g hg => by cases hg; exact Nat.le_refl _)).hp
    have hBc := hB3.trans (hB4.mono hH3.base)
    rw [VC.Now, VC.seqK_eq]
    generalize w5.heap.size = gc at hH4 ⊢
    clear ho6 hg6 hB4 hl6 hH3 hB3
    simp -dsimp (maxSteps := 2000000) only [Fa.F22, hnn, VC.Now, VC.vc, VC.lib, VC.mapN_drewN, VC.mapB_drewN, VC.regQ, VC.loopK, VC.reg, VC.opP, VC.opS, VC.opZ, VC.nomulB, VC.pv, VC.thenF, VC.blkF, VC.retF, VC.resV, VC.oneV, VC.evo, VC.bin, VC.binI, VC.cmpI, VC.arithI, VC.ldv, VC.slv, VC.pickP, VC.holds, VC.chainOf, VC.look, VC.junk, VC.put, VC.eff, VC.callee, VC.pureB, VC.rdK, VC.rdKs, VC.okKs, VC.eqKs, VC.fillL, VC.putL, VC.mixF, VC.setAll, Nat.reduceAdd, Nat.reduceSub, Nat.reduceMul, if_true, if_false, ↓reduceIte, forall_const, implies_true, reduceCtorEq, ne_eq, Nat.reduceBNe, Nat.reduceBEq, IntKind.signed, Nat.reduceEqDiff, Nat.reduceLeDiff, Nat.reduceLT, eq_self, Int.reduceEq, Int.reduceLT, Int.reduceLE, Int.reduceAdd, Int.reduceSub, VC.regC_nil, VC.regC_cons, VC.regCK_eq, VC.callQ, VC.tailQ, VC.goCall, VC.chStep]
    refine ⟨fits_i64 (by omega) (by omega), ?_⟩
    refine OPW_makeK (n := n * n) (base := 0) rfl Fa.apI23 rfl rfl rfl rfl (by omega) (by omega) (Nat.zero_le _) fun w7 ho7 hg7 => ?_
    have hB5 : Below w6.heap.size w6 w7 := (Below.refl _ _).grown hg7 (Nat.le_refl _) fun k hk => by cases hk
    have hl7 : w6.heap.size < w7.heap.size := (ho7.lt (g := w6.heap.size) rfl).2
    have hH5 := (hH4.st_add (o := oRecs w6.heap.size n n (fun _ => rowL n (fun _ => 0))) hB5 (Recs.of_own1 (cs := fun _ => rowL n (fun _ => 0)) ho7 hl7 (fun i hi j hj => made_row hi hj)) (fun g hg => by cases hg; exact Nat.le_refl _)).hp
    have hBd := hBc.trans (hB5.mono hH4.base)
    rw [VC.Now, VC.seqK_eq]
    generalize w6.heap.size = ga at hH5 ⊢
    clear ho7 hg7 hB5 hl7 hH4 hBc
    have hHs : Hp rb ([oBox ob [nilS, nilS, nilS, .int .i64 0, .bool false], oOwn 24 1 0 nilS [], oBox rb [nilS, nilS, nilS, .int .i64 0, .bool false]] ++ DQObs n gl gc ga qs0) w7 := by
      have hH6 := (hH5.st_add (o := oOwn 24 1 0 nilS []) (Below.refl _ _) (OwnK.nil _ _ _ _) (fun g hg => by cases hg)).hp
      have hH7 := hH6.pick [4, 0, 5, 3, 2, 1] (by decide) ([oBox ob [nilS, nilS, nilS, .int .i64 0, .bool false], oOwn 24 1 0 nilS [], oBox rb [nilS, nilS, nilS, .int .i64 0, .bool false], oRecs gl n 4 (upd (fun _ => prL ⟨false, false, 0, 0⟩) 0 (prL ⟨true, true, -1, 0⟩)), oRecs gc n n (fun _ => rowL n (fun _ => 0)), oRecs ga n n (fun _ => rowL n (fun _ => 0))]) rfl
      have e : (upd (fun _ => prL ⟨false, false, 0, 0⟩) 0 (prL ⟨true, true, -1, 0⟩)) = fun i => prL (qs0.pr i) := by
        funext i
        show _ = prL (if i = 0 then ⟨true, true, -1, 0⟩ else ⟨false, false, 0, 0⟩)
        by_cases hi : i = 0
        · subst hi; rw [upd_same, if_pos rfl]
        · rw [upd_other hi, if_neg hi]
      rw [e] at hH7
      exact hH7
    clear hH5
    simp -dsimp (maxSteps := 2000000) only [Fa.F22, hnn, VC.Now, VC.vc, VC.lib, VC.mapN_drewN, VC.mapB_drewN, VC.regQ, VC.loopK, VC.reg, VC.opP, VC.opS, VC.opZ, VC.nomulB, VC.pv, VC.thenF, VC.blkF, VC.retF, VC.resV, VC.oneV, VC.evo, VC.bin, VC.binI, VC.cmpI, VC.arithI, VC.ldv, VC.slv, VC.pickP, VC.holds, VC.chainOf, VC.look, VC.junk, VC.put, VC.eff, VC.callee, VC.pureB, VC.rdK, VC.rdKs, VC.okKs, VC.eqKs, VC.fillL, VC.putL, VC.mixF, VC.setAll, Nat.reduceAdd, Nat.reduceSub, Nat.reduceMul, if_true, if_false, ↓reduceIte, forall_const, implies_true, reduceCtorEq, ne_eq, Nat.reduceBNe, Nat.reduceBEq, IntKind.signed, Nat.reduceEqDiff, Nat.reduceLeDiff, Nat.reduceLT, eq_self, Int.reduceEq, Int.reduceLT, Int.reduceLE, Int.reduceAdd, Int.reduceSub, VC.regC_nil, VC.regC_cons, VC.regCK_eq, VC.callQ, VC.tailQ, VC.goCall, VC.chStep]
    refine loop_slots Fa.mix [34] [10, 11, 12, 13, 14, 35, 36, 37, 38, 39, 40, 41, 42, 43, 44, 45, 46, 47, 48, 49, 50, 51, 52, 53, 54, 55, 56, 57, 58, 59, 60, 61, 62, 63, 64, 65, 66, 67, 68, 69, 70, 71, 72, 73, 74, 75, 76, 77, 78, 79, 80, 81, 82, 83, 84, 85, 86, 87, 88, 89, 90, 91, 92, 93, 94, 95, 96, 97, 98, 99, 100, 101, 102, 103, 104, 105, 106, 107, 108, 109, 110, 111, 112, 113, 114, 115, 116, 117, 118, 119, 120, 121, 122, 123, 124, 125, 126, 127, 128, 129, 130, 131, 132, 133, 134, 135, 136, 137, 138, 139, 140, 141, 142, 143, 144, 145, 146, 147, 148, 149, 150, 151, 152, 153, 154, 155, 156, 157, 158, 159, 160, 161, 162, 163, 164, 165, 166, 167, 168, 169, 170, 171, 172, 173, 174, 175, 176, 177, 178, 179, 180, 181, 182, 183, 184, 185, 186, 187, 188, 189, 190, 191, 192, 193, 194, 195, 196, 197, 198, 199, 200, 201, 202, 203, 204, 205, 206, 207, 208, 209, 210, 211, 212, 213, 214, 215, 216, 217, 218, 219, 220, 221, 222, 223, 224, 225, 226, 227, 228, 229, 230, 231, 232, 233, 234, 235, 236, 237, 238, 239, 240, 241, 242, 243, 244, 245, 246, 247, 248, 249, 250, 251, 252, 253, 254, 255, 256, 257, 258, 259, 260, 261, 262, 263, 264, 265] (fun m vs wx => ∃ (k : Nat) (vc : Value), k + m = len ∧ vs = [.int .i64 k] ∧ Below rb w wx ∧
        Hp rb ([oBox ob [vc, nilS, nilS, .int .i64 0, .bool (qst n g k).done], oOwn 24 1 k vc (qcodes n g k), oBox rb [nilS, nilS, nilS, .int .i64 0, .bool false]] ++ DQObs n gl gc ga (qst n g k)) wx) len (by kernel_rfl) rfl
      ⟨0, nilS, by omega, rfl, hBd, hHs⟩ ?_
    clear hHs hBd
    rintro m vs u2 wx ⟨k, vc, hkm, rfl, hBx, hH⟩
    have hok := qok (n := n) (by omega) g k
    have hqb := qb hn g k
    by_cases hk : k < len
    · obtain ⟨b, o, rfl, hb, hc⟩ := (hr.below (by rw [hrb]; exact hBx)) (by omega)
      have s0 := hc k hk 0 _ rfl
      have s1 := hc k hk 1 _ rfl
      have s2 := hc k hk 2 _ rfl
      simp only [Nat.add_zero] at s0
      have e7 : ((k : Int) < len) = True := eq_true (by omega)
      have hms : qst n g (k + 1) = (qstep n (g k) (qst n g k)).2 := rfl
      have hmc := qcodes_succ n g k
      generalize qst n g k = s at *
      generalize hgk : g k = c at *
      rw [mixF_walk]
      rotate_left
      · kernel_rfl
      (repeat rw [vc_seq]); refine vc_plain _ fun Q hQ => ?_; simp -dsimp (maxSteps := 2000000) only [Fa.F22, e7, walkJ, VC.Now, VC.vc_skip, VC.vc_ret, VC.vc_exit, VC.vc_block, VC.vc_cond, VC.vc_region, VC.lib, VC.mapN_drewN, VC.mapB_drewN, VC.regQ, VC.loopK, VC.reg, VC.opP, VC.opS, VC.opZ, VC.nomulB, VC.pv, VC.thenF, VC.blkF, VC.retF, VC.resV, VC.oneV, VC.evo, VC.bin, VC.binI, VC.cmpI, VC.arithI, VC.ldv, VC.slv, VC.pickP, VC.holds, VC.chainOf, VC.look, VC.junk, VC.put, VC.eff, VC.callee, VC.pureB, VC.rdK, VC.rdKs, VC.okKs, VC.eqKs, VC.fillL, VC.putL, VC.stW, VC.stOK, VC.mixF, VC.setAll, Nat.reduceAdd, Nat.reduceSub, Nat.reduceMul, if_true, if_false, ↓reduceIte, forall_const, implies_true, reduceCtorEq, ne_eq, Nat.reduceBNe, Nat.reduceBEq, IntKind.signed, Nat.reduceEqDiff, Nat.reduceLeDiff, Nat.reduceLT, eq_self, Int.reduceEq, Int.reduceLT, Int.reduceLE, Int.reduceAdd, Int.reduceSub, VC.regC_nil, VC.regC_cons, VC.regCK_eq, VC.callQ, VC.tailQ, VC.goCall, VC.chStep]
      subst hQ; simp -dsimp (maxSteps := 2000000) only [VC.Now, VC.vc_skip, VC.vc_ret, VC.vc_exit, VC.vc_block, VC.vc_cond, VC.vc_region, VC.lib, VC.mapN_drewN, VC.mapB_drewN, VC.regQ, VC.loopK, VC.reg, VC.opP, VC.opS, VC.opZ, VC.nomulB, VC.pv, VC.thenF, VC.blkF, VC.retF, VC.resV, VC.oneV, VC.evo, VC.bin, VC.binI, VC.cmpI, VC.arithI, VC.ldv, VC.slv, VC.pickP, VC.holds, VC.chainOf, VC.look, VC.junk, VC.put, VC.eff, VC.callee, VC.pureB, VC.rdK, VC.rdKs, VC.okKs, VC.eqKs, VC.fillL, VC.putL, VC.stW, VC.stOK, VC.mixF, VC.setAll, Nat.reduceAdd, Nat.reduceSub, Nat.reduceMul, if_true, if_false, ↓reduceIte, forall_const, implies_true, reduceCtorEq, ne_eq, Nat.reduceBNe, Nat.reduceBEq, IntKind.signed, Nat.reduceEqDiff, Nat.reduceLeDiff, Nat.reduceLT, eq_self, Int.reduceEq, Int.reduceLT, Int.reduceLE, Int.reduceAdd, Int.reduceSub, VC.regC_nil, VC.regC_cons, VC.regCK_eq, VC.callQ, VC.tailQ, VC.goCall, VC.chStep]; (repeat rw [vc_seq]); refine vc_plain _ fun Q hQ => ?_; simp -dsimp (maxSteps := 2000000) only [Fa.F22, e7, VC.Now, VC.vc_skip, VC.vc_ret, VC.vc_exit, VC.vc_block, VC.vc_cond, VC.vc_region, VC.lib, VC.mapN_drewN, VC.mapB_drewN, VC.regQ, VC.loopK, VC.reg, VC.opP, VC.opS, VC.opZ, VC.nomulB, VC.pv, VC.thenF, VC.blkF, VC.retF, VC.resV, VC.oneV, VC.evo, VC.bin, VC.binI, VC.cmpI, VC.arithI, VC.ldv, VC.slv, VC.pickP, VC.holds, VC.chainOf, VC.look, VC.junk, VC.put, VC.eff, VC.callee, VC.pureB, VC.rdK, VC.rdKs, VC.okKs, VC.eqKs, VC.fillL, VC.putL, VC.stW, VC.stOK, VC.mixF, VC.setAll, Nat.reduceAdd, Nat.reduceSub, Nat.reduceMul, if_true, if_false, ↓reduceIte, forall_const, implies_true, reduceCtorEq, ne_eq, Nat.reduceBNe, Nat.reduceBEq, IntKind.signed, Nat.reduceEqDiff, Nat.reduceLeDiff, Nat.reduceLT, eq_self, Int.reduceEq, Int.reduceLT, Int.reduceLE, Int.reduceAdd, Int.reduceSub, VC.regC_nil, VC.regC_cons, VC.regCK_eq, VC.callQ, VC.tailQ, VC.goCall, VC.chStep]
      subst hQ
      simp -dsimp (maxSteps := 2000000) only [Fa.F22, VC.Now, VC.vc_skip, VC.vc_ret, VC.vc_exit, VC.vc_block, VC.vc_cond, VC.vc_region, VC.lib, VC.mapN_drewN, VC.mapB_drewN, VC.regQ, VC.loopK, VC.reg, VC.opP, VC.opS, VC.opZ, VC.nomulB, VC.pv, VC.thenF, VC.blkF, VC.retF, VC.resV, VC.oneV, VC.evo, VC.bin, VC.binI, VC.cmpI, VC.arithI, VC.ldv, VC.slv, VC.pickP, VC.holds, VC.chainOf, VC.look, VC.junk, VC.put, VC.eff, VC.callee, VC.pureB, VC.rdK, VC.rdKs, VC.okKs, VC.eqKs, VC.fillL, VC.putL, VC.stW, VC.stOK, VC.mixF, VC.setAll, Nat.reduceAdd, Nat.reduceSub, Nat.reduceMul, if_true, if_false, ↓reduceIte, forall_const, implies_true, reduceCtorEq, ne_eq, Nat.reduceBNe, Nat.reduceBEq, IntKind.signed, Nat.reduceEqDiff, Nat.reduceLeDiff, Nat.reduceLT, eq_self, Int.reduceEq, Int.reduceLT, Int.reduceLE, Int.reduceAdd, Int.reduceSub, VC.regC_nil, VC.regC_cons, VC.regCK_eq, VC.callQ, VC.tailQ, VC.goCall, VC.chStep]
      (repeat rw [vc_seq]); refine vc_plain _ fun Q hQ => ?_; simp -dsimp (maxSteps := 2000000) only [Fa.F22, e7, VC.Now, VC.vc_skip, VC.vc_ret, VC.vc_exit, VC.vc_block, VC.vc_cond, VC.vc_region, VC.lib, VC.mapN_drewN, VC.mapB_drewN, VC.regQ, VC.loopK, VC.reg, VC.opP, VC.opS, VC.opZ, VC.nomulB, VC.pv, VC.thenF, VC.blkF, VC.retF, VC.resV, VC.oneV, VC.evo, VC.bin, VC.binI, VC.cmpI, VC.arithI, VC.ldv, VC.slv, VC.pickP, VC.holds, VC.chainOf, VC.look, VC.junk, VC.put, VC.eff, VC.callee, VC.pureB, VC.rdK, VC.rdKs, VC.okKs, VC.eqKs, VC.fillL, VC.putL, VC.stW, VC.stOK, VC.mixF, VC.setAll, Nat.reduceAdd, Nat.reduceSub, Nat.reduceMul, if_true, if_false, ↓reduceIte, forall_const, implies_true, reduceCtorEq, ne_eq, Nat.reduceBNe, Nat.reduceBEq, IntKind.signed, Nat.reduceEqDiff, Nat.reduceLeDiff, Nat.reduceLT, eq_self, Int.reduceEq, Int.reduceLT, Int.reduceLE, Int.reduceAdd, Int.reduceSub, VC.regC_nil, VC.regC_cons, VC.regCK_eq, VC.callQ, VC.tailQ, VC.goCall, VC.chStep]
      (repeat rw [vc_seq]); refine vc_plain _ fun Q2 hQ2 => ?_; simp -dsimp (maxSteps := 2000000) only [Fa.F22, e7, rdI_of s0, s0, rdI_of s1, s1, rdI_of s2, s2, hb, Int.toNat_natCast, VC.Now, VC.vc_skip, VC.vc_ret, VC.vc_exit, VC.vc_block, VC.vc_cond, VC.vc_region, VC.lib, VC.mapN_drewN, VC.mapB_drewN, VC.regQ, VC.loopK, VC.reg, VC.opP, VC.opS, VC.opZ, VC.nomulB, VC.pv, VC.thenF, VC.blkF, VC.retF, VC.resV, VC.oneV, VC.evo, VC.bin, VC.binI, VC.cmpI, VC.arithI, VC.ldv, VC.slv, VC.pickP, VC.holds, VC.chainOf, VC.look, VC.junk, VC.put, VC.eff, VC.callee, VC.pureB, VC.rdK, VC.rdKs, VC.okKs, VC.eqKs, VC.fillL, VC.putL, VC.mixF, VC.setAll, Nat.reduceAdd, Nat.reduceSub, Nat.reduceMul, if_true, if_false, ↓reduceIte, forall_const, implies_true, reduceCtorEq, ne_eq, Nat.reduceBNe, Nat.reduceBEq, IntKind.signed, Nat.reduceEqDiff, Nat.reduceLeDiff, Nat.reduceLT, eq_self, Int.reduceEq, Int.reduceLT, Int.reduceLE, Int.reduceAdd, Int.reduceSub, VC.regC_nil, VC.regC_cons, VC.regCK_eq, VC.callQ, VC.tailQ, VC.goCall, VC.chStep]
      refine ⟨by omega, ?_⟩
      obtain ⟨f1, f2, f3⟩ := boxSt wx [.int .i64 0, .int .i64 0, .int .i64 0] [.int .i64 c.kind, .int .i64 c.who, .int .i64 c.other] 131 rfl (by intro v hv; simp at hv; rcases hv with rfl | rfl | rfl <;> rfl)
      refine ⟨f1, ?_⟩
      clear f1
      have hBy := hBx.trans (f3.mono hH.base)
      have hH2 := hH.below f3
      have nsb : ∀ x : Nat, foot ([oBox ob [vc, nilS, nilS, .int .i64 0, .bool s.done], oOwn 24 1 k vc (qcodes n g k), oBox rb [nilS, nilS, nilS, .int .i64 0, .bool false]] ++ DQObs n gl gc ga s) x → x < wx.heap.size := fun x hx => (hH.foot_lt hx).2
      generalize stW (wx.alloc (.cells #[.int .i64 0, .int .i64 0, .int .i64 0] 131)) ⟨wx.heap.size, 0, none⟩ 0 [.int .i64 c.kind, .int .i64 c.who, .int .i64 c.other] = wy at f2 hBy hH2 ⊢
      clear f3 hBx hH
      generalize wx.heap.size = sb at f2 nsb ⊢
      have z0 := f2.at (i := 0) rfl
      have z1 := f2.at (i := 1) rfl
      have z2 := f2.at (i := 2) rfl
      have hsl := f2.1
      subst hQ2; simp -dsimp (maxSteps := 2000000) only [VC.Now, VC.vc_skip, VC.vc_ret, VC.vc_exit, VC.vc_block, VC.vc_cond, VC.vc_region, VC.lib, VC.mapN_drewN, VC.mapB_drewN, VC.regQ, VC.loopK, VC.reg, VC.opP, VC.opS, VC.opZ, VC.nomulB, VC.pv, VC.thenF, VC.blkF, VC.retF, VC.resV, VC.oneV, VC.evo, VC.bin, VC.binI, VC.cmpI, VC.arithI, VC.ldv, VC.slv, VC.pickP, VC.holds, VC.chainOf, VC.look, VC.junk, VC.put, VC.eff, VC.callee, VC.pureB, VC.rdK, VC.rdKs, VC.okKs, VC.eqKs, VC.fillL, VC.putL, VC.stW, VC.stOK, VC.mixF, VC.setAll, Nat.reduceAdd, Nat.reduceSub, Nat.reduceMul, if_true, if_false, ↓reduceIte, forall_const, implies_true, reduceCtorEq, ne_eq, Nat.reduceBNe, Nat.reduceBEq, IntKind.signed, Nat.reduceEqDiff, Nat.reduceLeDiff, Nat.reduceLT, eq_self, Int.reduceEq, Int.reduceLT, Int.reduceLE, Int.reduceAdd, Int.reduceSub, VC.regC_nil, VC.regC_cons, VC.regCK_eq, VC.callQ, VC.tailQ, VC.goCall, VC.chStep]; (repeat rw [vc_seq]); refine vc_plain _ fun Q2 hQ2 => ?_; simp -dsimp (maxSteps := 2000000) only [Fa.F22, e7, VC.Now, VC.vc_skip, VC.vc_ret, VC.vc_exit, VC.vc_block, VC.vc_cond, VC.vc_region, VC.lib, VC.mapN_drewN, VC.mapB_drewN, VC.regQ, VC.loopK, VC.reg, VC.opP, VC.opS, VC.opZ, VC.nomulB, VC.pv, VC.thenF, VC.blkF, VC.retF, VC.resV, VC.oneV, VC.evo, VC.bin, VC.binI, VC.cmpI, VC.arithI, VC.ldv, VC.slv, VC.pickP, VC.holds, VC.chainOf, VC.look, VC.junk, VC.put, VC.eff, VC.callee, VC.pureB, VC.rdK, VC.rdKs, VC.okKs, VC.eqKs, VC.fillL, VC.putL, VC.stW, VC.stOK, VC.mixF, VC.setAll, Nat.reduceAdd, Nat.reduceSub, Nat.reduceMul, if_true, if_false, ↓reduceIte, forall_const, implies_true, reduceCtorEq, ne_eq, Nat.reduceBNe, Nat.reduceBEq, IntKind.signed, Nat.reduceEqDiff, Nat.reduceLeDiff, Nat.reduceLT, eq_self, Int.reduceEq, Int.reduceLT, Int.reduceLE, Int.reduceAdd, Int.reduceSub, VC.regC_nil, VC.regC_cons, VC.regCK_eq, VC.callQ, VC.tailQ, VC.goCall, VC.chStep]
      subst hQ2
      simp -dsimp (maxSteps := 2000000) only [Fa.F22, VC.Now, VC.vc_skip, VC.vc_ret, VC.vc_exit, VC.vc_block, VC.vc_cond, VC.vc_region, VC.lib, VC.mapN_drewN, VC.mapB_drewN, VC.regQ, VC.loopK, VC.reg, VC.opP, VC.opS, VC.opZ, VC.nomulB, VC.pv, VC.thenF, VC.blkF, VC.retF, VC.resV, VC.oneV, VC.evo, VC.bin, VC.binI, VC.cmpI, VC.arithI, VC.ldv, VC.slv, VC.pickP, VC.holds, VC.chainOf, VC.look, VC.junk, VC.put, VC.eff, VC.callee, VC.pureB, VC.rdK, VC.rdKs, VC.okKs, VC.eqKs, VC.fillL, VC.putL, VC.stW, VC.stOK, VC.mixF, VC.setAll, Nat.reduceAdd, Nat.reduceSub, Nat.reduceMul, if_true, if_false, ↓reduceIte, forall_const, implies_true, reduceCtorEq, ne_eq, Nat.reduceBNe, Nat.reduceBEq, IntKind.signed, Nat.reduceEqDiff, Nat.reduceLeDiff, Nat.reduceLT, eq_self, Int.reduceEq, Int.reduceLT, Int.reduceLE, Int.reduceAdd, Int.reduceSub, VC.regC_nil, VC.regC_cons, VC.regCK_eq, VC.callQ, VC.tailQ, VC.goCall, VC.chStep]
      rw [vc_seq]
      refine vc_plain _ fun Q3 hQ3 => ?_
      have hJ : okJ ([11, 12, 13, 14] ++ List.range' 38 221) [11] [12, 13, 14, 38, 39, 40, 41, 42, 43, 44, 45, 46, 47, 48, 49, 50, 51, 52, 53, 54, 55, 56, 57, 58, 59, 60, 61, 62, 63, 64, 65, 66, 67, 68, 69, 70, 71, 72, 73, 74, 75, 76, 77, 78, 79, 80, 81, 82, 83, 84, 85, 86, 87, 88, 89, 90, 91, 92, 93, 94, 95, 96, 97, 98, 99, 100, 101, 102, 103, 104, 105, 106, 107, 108, 109, 110, 111, 112, 113, 114, 115, 116, 117, 118, 119, 120, 121, 122, 123, 124, 125, 126, 127, 128, 129, 130, 131, 132, 133, 134, 135, 136, 137, 138, 139, 140, 141, 142, 143, 144, 145, 146, 147, 148, 149, 150, 151, 152, 153, 154, 155, 156, 157, 158, 159, 160, 161, 162, 163, 164, 165, 166, 167, 168, 169, 170, 171, 172, 173, 174, 175, 176, 177, 178, 179, 180, 181, 182, 183, 184, 185, 186, 187, 188, 189, 190, 191, 192, 193, 194, 195, 196, 197, 198, 199, 200, 201, 202, 203, 204, 205, 206, 207, 208, 209, 210, 211, 212, 213, 214, 215, 216, 217, 218, 219, 220, 221, 222, 223, 224, 225, 226, 227, 228, 229, 230, 231, 232, 233, 234, 235, 236, 237, 238, 239, 240, 241, 242, 243, 244, 245, 246, 247, 248, 249, 250, 251, 252, 253, 254, 255, 256, 257, 258] = true := by kernel_rfl
      refine vc_cut [11] [12, 13, 14, 38, 39, 40, 41, 42, 43, 44, 45, 46, 47, 48, 49, 50, 51, 52, 53, 54, 55, 56, 57, 58, 59, 60, 61, 62, 63, 64, 65, 66, 67, 68, 69, 70, 71, 72, 73, 74, 75, 76, 77, 78, 79, 80, 81, 82, 83, 84, 85, 86, 87, 88, 89, 90, 91, 92, 93, 94, 95, 96, 97, 98, 99, 100, 101, 102, 103, 104, 105, 106, 107, 108, 109, 110, 111, 112, 113, 114, 115, 116, 117, 118, 119, 120, 121, 122, 123, 124, 125, 126, 127, 128, 129, 130, 131, 132, 133, 134, 135, 136, 137, 138, 139, 140, 141, 142, 143, 144, 145, 146, 147, 148, 149, 150, 151, 152, 153, 154, 155, 156, 157, 158, 159, 160, 161, 162, 163, 164, 165, 166, 167, 168, 169, 170, 171, 172, 173, 174, 175, 176, 177, 178, 179, 180, 181, 182, 183, 184, 185, 186, 187, 188, 189, 190, 191, 192, 193, 194, 195, 196, 197, 198, 199, 200, 201, 202, 203, 204, 205, 206, 207, 208, 209, 210, 211, 212, 213, 214, 215, 216, 217, 218, 219, 220, 221, 222, 223, 224, 225, 226, 227, 228, 229, 230, 231, 232, 233, 234, 235, 236, 237, 238, 239, 240, 241, 242, 243, 244, 245, 246, 247, 248, 249, 250, 251, 252, 253, 254, 255, 256, 257, 258] (fun vs w' => vs = [.int .i64 (qstep n c s).1] ∧ Below rb w w' ∧
        Hp rb ([oBox ob [vc, nilS, nilS, .int .i64 0, .bool (qstep n c s).2.done], oOwn 24 1 k vc (qcodes n g k), oBox rb [nilS, nilS, nilS, .int .i64 0, .bool false]] ++ DQObs n gl gc ga (qstep n c s).2) w') (fun vs u3 w4 hJ => ?rest) (fun hcut => ?main)
      case rest =>
        obtain ⟨rfl, hB4, hH4⟩ := hJ
        clear hok hqb nsb z0 z1 z2 hsl hBy hH2 f2
        obtain ⟨Ac, cc, ec, _⟩ := id (hH4.get 1 rfl : OwnK w4 0 24 1 k vc _)
        have bo : Box w4 ob _ := hH4.get 0 rfl
        have y0 := bo.at (i := 0) rfl
        have hol := bo.1
        rw [ec] at y0
        subst hQ3
        rw [mixF_walk]
        rotate_left
        · kernel_rfl
        simp -dsimp (maxSteps := 2000000) only [Fa.F22, rdSA_of y0, rdSN_of y0, rdSC_of y0, y0, hol, walkJ, VC.Now, VC.vc, VC.lib, VC.mapN_drewN, VC.mapB_drewN, VC.regQ, VC.loopK, VC.reg, VC.opP, VC.opS, VC.opZ, VC.nomulB, VC.pv, VC.thenF, VC.blkF, VC.retF, VC.resV, VC.oneV, VC.evo, VC.bin, VC.binI, VC.cmpI, VC.arithI, VC.ldv, VC.slv, VC.pickP, VC.holds, VC.chainOf, VC.look, VC.junk, VC.put, VC.eff, VC.callee, VC.pureB, VC.rdK, VC.rdKs, VC.okKs, VC.eqKs, VC.fillL, VC.putL, VC.stW, VC.stOK, VC.mixF, VC.setAll, Nat.reduceAdd, Nat.reduceSub, Nat.reduceMul, if_true, if_false, ↓reduceIte, forall_const, implies_true, reduceCtorEq, ne_eq, Nat.reduceBNe, Nat.reduceBEq, IntKind.signed, Nat.reduceEqDiff, Nat.reduceLeDiff, Nat.reduceLT, eq_self, Int.reduceEq, Int.reduceLT, Int.reduceLE, Int.reduceAdd, Int.reduceSub, VC.regC_nil, VC.regC_cons, VC.regCK_eq, VC.callQ, VC.tailQ, VC.goCall, VC.chStep]
        refine OPW_appK (v := vc) rfl Fa.apI33 (by rw [ec]; rfl) rfl rfl (by simp [Value.oneCell']) (hH4.get 1 rfl) (Nat.zero_le _) (by omega) (by decide) fun v5 w5 ho5 hg5 hst5 => ?_
        rw [← hmc] at ho5
        obtain ⟨⟨r1, r2⟩, st6⟩ := hH4.growField 0 1 rfl rfl (by decide) ho5 hg5 hst5 0 (by show 0 < 5; omega)
        obtain ⟨A5, c5, rfl, _⟩ := id ho5
        have hw6 : ob < w5.heap.size := by simpa using (st6.hp.get 0 rfl : Box _ ob _).1
        rw [VC.Now, VC.seqK_eq]
        simp -dsimp (maxSteps := 2000000) only [Fa.F22, hw6, VC.Now, VC.vc, VC.lib, VC.mapN_drewN, VC.mapB_drewN, VC.regQ, VC.loopK, VC.reg, VC.opP, VC.opS, VC.opZ, VC.nomulB, VC.pv, VC.thenF, VC.blkF, VC.retF, VC.resV, VC.oneV, VC.evo, VC.bin, VC.binI, VC.cmpI, VC.arithI, VC.ldv, VC.slv, VC.pickP, VC.holds, VC.chainOf, VC.look, VC.junk, VC.put, VC.eff, VC.callee, VC.pureB, VC.rdK, VC.rdKs, VC.okKs, VC.eqKs, VC.fillL, VC.putL, VC.stW, VC.stOK, VC.mixF, VC.setAll, Nat.reduceAdd, Nat.reduceSub, Nat.reduceMul, if_true, if_false, ↓reduceIte, forall_const, implies_true, reduceCtorEq, ne_eq, Nat.reduceBNe, Nat.reduceBEq, IntKind.signed, Nat.reduceEqDiff, Nat.reduceLeDiff, Nat.reduceLT, eq_self, Int.reduceEq, Int.reduceLT, Int.reduceLE, Int.reduceAdd, Int.reduceSub, VC.regC_nil, VC.regC_cons, VC.regCK_eq, VC.callQ, VC.tailQ, VC.goCall, VC.chStep]
        refine ⟨⟨r1, r2⟩, ?_⟩
        subst hQ
        simp -dsimp (maxSteps := 2000000) only [Fa.F22, VC.Now, VC.vc, VC.lib, VC.mapN_drewN, VC.mapB_drewN, VC.regQ, VC.loopK, VC.reg, VC.opP, VC.opS, VC.opZ, VC.nomulB, VC.pv, VC.thenF, VC.blkF, VC.retF, VC.resV, VC.oneV, VC.evo, VC.bin, VC.binI, VC.cmpI, VC.arithI, VC.ldv, VC.slv, VC.pickP, VC.holds, VC.chainOf, VC.look, VC.junk, VC.put, VC.eff, VC.callee, VC.pureB, VC.rdK, VC.rdKs, VC.okKs, VC.eqKs, VC.fillL, VC.putL, VC.stW, VC.stOK, VC.mixF, VC.setAll, Nat.reduceAdd, Nat.reduceSub, Nat.reduceMul, if_true, if_false, ↓reduceIte, forall_const, implies_true, reduceCtorEq, ne_eq, Nat.reduceBNe, Nat.reduceBEq, IntKind.signed, Nat.reduceEqDiff, Nat.reduceLeDiff, Nat.reduceLT, eq_self, Int.reduceEq, Int.reduceLT, Int.reduceLE, Int.reduceAdd, Int.reduceSub, VC.regC_nil, VC.regC_cons, VC.regCK_eq, VC.callQ, VC.tailQ, VC.goCall, VC.chStep]
        refine ⟨fits_i64_nat (by omega), SAME.intro (by kernel_rfl), m - 1, by omega, k + 1, .slice A5 (k + 1) c5, by omega, rfl, hB4.trans (st6.below hH4), ?_⟩
        rw [hms]
        exact st6.hp
      rw [VC.Now]
      by_cases k1 : c.kind < 1
      · have e1 := eq_true k1
        have hqs : qstep n c s = (4, s) := by unfold qstep; rw [if_pos (Or.inl k1)]
        simp -dsimp (maxSteps := 2000000) only [Fa.F22, e1, rdI_of z0, z0, hsl, undef, tu, uf, ul, ur, VC.Now, VC.vc, VC.lib, VC.mapN_drewN, VC.mapB_drewN, VC.regQ, VC.loopK, VC.reg, VC.opP, VC.opS, VC.opZ, VC.nomulB, VC.pv, VC.thenF, VC.blkF, VC.retF, VC.resV, VC.oneV, VC.evo, VC.bin, VC.binI, VC.cmpI, VC.arithI, VC.ldv, VC.slv, VC.pickP, VC.holds, VC.chainOf, VC.look, VC.junk, VC.put, VC.eff, VC.callee, VC.pureB, VC.rdK, VC.rdKs, VC.okKs, VC.eqKs, VC.fillL, VC.putL, VC.stW, VC.stOK, VC.mixF, VC.setAll, Nat.reduceAdd, Nat.reduceSub, Nat.reduceMul, if_true, if_false, ↓reduceIte, forall_const, implies_true, reduceCtorEq, ne_eq, Nat.reduceBNe, Nat.reduceBEq, IntKind.signed, Nat.reduceEqDiff, Nat.reduceLeDiff, Nat.reduceLT, eq_self, Int.reduceEq, Int.reduceLT, Int.reduceLE, Int.reduceAdd, Int.reduceSub, VC.regC_nil, VC.regC_cons, VC.regCK_eq, VC.callQ, VC.tailQ, VC.goCall, VC.chStep]
        intros
        exact hcut _ _ (SAME.walk hJ (by kernel_rfl)) ⟨by rw [hqs]; rfl, hBy, by rw [hqs]; exact hH2⟩
      have e1 := eq_false k1
      by_cases k2 : 4 < c.kind
      · have e2 := eq_true k2
        have hqs : qstep n c s = (4, s) := by unfold qstep; rw [if_pos (Or.inr k2)]
        simp -dsimp (maxSteps := 2000000) only [Fa.F22, e1, e2, rdI_of z0, z0, hsl, undef, tu, uf, ul, ur, VC.Now, VC.vc, VC.lib, VC.mapN_drewN, VC.mapB_drewN, VC.regQ, VC.loopK, VC.reg, VC.opP, VC.opS, VC.opZ, VC.nomulB, VC.pv, VC.thenF, VC.blkF, VC.retF, VC.resV, VC.oneV, VC.evo, VC.bin, VC.binI, VC.cmpI, VC.arithI, VC.ldv, VC.slv, VC.pickP, VC.holds, VC.chainOf, VC.look, VC.junk, VC.put, VC.eff, VC.callee, VC.pureB, VC.rdK, VC.rdKs, VC.okKs, VC.eqKs, VC.fillL, VC.putL, VC.stW, VC.stOK, VC.mixF, VC.setAll, Nat.reduceAdd, Nat.reduceSub, Nat.reduceMul, if_true, if_false, ↓reduceIte, forall_const, implies_true, reduceCtorEq, ne_eq, Nat.reduceBNe, Nat.reduceBEq, IntKind.signed, Nat.reduceEqDiff, Nat.reduceLeDiff, Nat.reduceLT, eq_self, Int.reduceEq, Int.reduceLT, Int.reduceLE, Int.reduceAdd, Int.reduceSub, VC.regC_nil, VC.regC_cons, VC.regCK_eq, VC.callQ, VC.tailQ, VC.goCall, VC.chStep]
        intros
        exact hcut _ _ (SAME.walk hJ (by kernel_rfl)) ⟨by rw [hqs]; rfl, hBy, by rw [hqs]; exact hH2⟩
      have e2 := eq_false k2
      by_cases q1 : c.who < 0
      · have a1 := eq_true q1
        have hqs : qstep n c s = (2, s) := by unfold qstep; rw [if_neg (by omega), if_pos (by omega)]
        simp -dsimp (maxSteps := 2000000) only [Fa.F22, e1, e2, rdI_of z0, z0, rdI_of z1, z1, rdI_of z2, z2, hsl, a1, undef, tu, uf, ul, ur, VC.Now, VC.vc, VC.lib, VC.mapN_drewN, VC.mapB_drewN, VC.regQ, VC.loopK, VC.reg, VC.opP, VC.opS, VC.opZ, VC.nomulB, VC.pv, VC.thenF, VC.blkF, VC.retF, VC.resV, VC.oneV, VC.evo, VC.bin, VC.binI, VC.cmpI, VC.arithI, VC.ldv, VC.slv, VC.pickP, VC.holds, VC.chainOf, VC.look, VC.junk, VC.put, VC.eff, VC.callee, VC.pureB, VC.rdK, VC.rdKs, VC.okKs, VC.eqKs, VC.fillL, VC.putL, VC.stW, VC.stOK, VC.mixF, VC.setAll, Nat.reduceAdd, Nat.reduceSub, Nat.reduceMul, if_true, if_false, ↓reduceIte, forall_const, implies_true, reduceCtorEq, ne_eq, Nat.reduceBNe, Nat.reduceBEq, IntKind.signed, Nat.reduceEqDiff, Nat.reduceLeDiff, Nat.reduceLT, eq_self, Int.reduceEq, Int.reduceLT, Int.reduceLE, Int.reduceAdd, Int.reduceSub, VC.regC_nil, VC.regC_cons, VC.regCK_eq, VC.callQ, VC.tailQ, VC.goCall, VC.chStep]
        intros
        exact hcut _ _ (SAME.walk hJ (by kernel_rfl)) ⟨by rw [hqs]; rfl, hBy, by rw [hqs]; exact hH2⟩
      have a1 := eq_false q1
      by_cases q2 : (n : Int) ≤ c.who
      · have a2 := eq_true q2
        have hqs : qstep n c s = (2, s) := by unfold qstep; rw [if_neg (by omega), if_pos (by omega)]
        simp -dsimp (maxSteps := 2000000) only [Fa.F22, e1, e2, rdI_of z0, z0, rdI_of z1, z1, rdI_of z2, z2, hsl, a1, a2, undef, tu, uf, ul, ur, VC.Now, VC.vc, VC.lib, VC.mapN_drewN, VC.mapB_drewN, VC.regQ, VC.loopK, VC.reg, VC.opP, VC.opS, VC.opZ, VC.nomulB, VC.pv, VC.thenF, VC.blkF, VC.retF, VC.resV, VC.oneV, VC.evo, VC.bin, VC.binI, VC.cmpI, VC.arithI, VC.ldv, VC.slv, VC.pickP, VC.holds, VC.chainOf, VC.look, VC.junk, VC.put, VC.eff, VC.callee, VC.pureB, VC.rdK, VC.rdKs, VC.okKs, VC.eqKs, VC.fillL, VC.putL, VC.stW, VC.stOK, VC.mixF, VC.setAll, Nat.reduceAdd, Nat.reduceSub, Nat.reduceMul, if_true, if_false, ↓reduceIte, forall_const, implies_true, reduceCtorEq, ne_eq, Nat.reduceBNe, Nat.reduceBEq, IntKind.signed, Nat.reduceEqDiff, Nat.reduceLeDiff, Nat.reduceLT, eq_self, Int.reduceEq, Int.reduceLT, Int.reduceLE, Int.reduceAdd, Int.reduceSub, VC.regC_nil, VC.regC_cons, VC.regCK_eq, VC.callQ, VC.tailQ, VC.goCall, VC.chStep]
        intros
        exact hcut _ _ (SAME.walk hJ (by kernel_rfl)) ⟨by rw [hqs]; rfl, hBy, by rw [hqs]; exact hH2⟩
      have a2 := eq_false q2
      by_cases k3 : c.kind = 3
      · have e3 := eq_true k3
        clear s0 s1 s2 e7 hc hrb hz0 hkm hr hb hgk hms hmc hQ3 hQ
        generalize qcodes n g k = cl at hH2 nsb hcut
        revert n len cap w rb ob gl gc ga u2 k vc b o s c wy sb Q3 cl
        exact HH.1
      have e3 := eq_false k3
      by_cases q3 : c.other < 0
      · have a3 := eq_true q3
        have hqs : qstep n c s = (2, s) := by unfold qstep; rw [if_neg (by omega), if_pos (by omega)]
        simp -dsimp (maxSteps := 2000000) only [Fa.F22, e1, e2, rdI_of z0, z0, rdI_of z1, z1, rdI_of z2, z2, hsl, a1, a2, e3, a3, undef, tu, uf, ul, ur, VC.Now, VC.vc, VC.lib, VC.mapN_drewN, VC.mapB_drewN, VC.regQ, VC.loopK, VC.reg, VC.opP, VC.opS, VC.opZ, VC.nomulB, VC.pv, VC.thenF, VC.blkF, VC.retF, VC.resV, VC.oneV, VC.evo, VC.bin, VC.binI, VC.cmpI, VC.arithI, VC.ldv, VC.slv, VC.pickP, VC.holds, VC.chainOf, VC.look, VC.junk, VC.put, VC.eff, VC.callee, VC.pureB, VC.rdK, VC.rdKs, VC.okKs, VC.eqKs, VC.fillL, VC.putL, VC.stW, VC.stOK, VC.mixF, VC.setAll, Nat.reduceAdd, Nat.reduceSub, Nat.reduceMul, if_true, if_false, ↓reduceIte, forall_const, implies_true, reduceCtorEq, ne_eq, Nat.reduceBNe, Nat.reduceBEq, IntKind.signed, Nat.reduceEqDiff, Nat.reduceLeDiff, Nat.reduceLT, eq_self, Int.reduceEq, Int.reduceLT, Int.reduceLE, Int.reduceAdd, Int.reduceSub, VC.regC_nil, VC.regC_cons, VC.regCK_eq, VC.callQ, VC.tailQ, VC.goCall, VC.chStep]
        intros
        exact hcut _ _ (SAME.walk hJ (by kernel_rfl)) ⟨by rw [hqs]; rfl, hBy, by rw [hqs]; exact hH2⟩
      have a3 := eq_false q3
      by_cases q4 : (n : Int) ≤ c.other
      · have a4 := eq_true q4
        have hqs : qstep n c s = (2, s) := by unfold qstep; rw [if_neg (by omega), if_pos (by omega)]
        simp -dsimp (maxSteps := 2000000) only [Fa.F22, e1, e2, rdI_of z0, z0, rdI_of z1, z1, rdI_of z2, z2, hsl, a1, a2, e3, a3, a4, undef, tu, uf, ul, ur, VC.Now, VC.vc, VC.lib, VC.mapN_drewN, VC.mapB_drewN, VC.regQ, VC.loopK, VC.reg, VC.opP, VC.opS, VC.opZ, VC.nomulB, VC.pv, VC.thenF, VC.blkF, VC.retF, VC.resV, VC.oneV, VC.evo, VC.bin, VC.binI, VC.cmpI, VC.arithI, VC.ldv, VC.slv, VC.pickP, VC.holds, VC.chainOf, VC.look, VC.junk, VC.put, VC.eff, VC.callee, VC.pureB, VC.rdK, VC.rdKs, VC.okKs, VC.eqKs, VC.fillL, VC.putL, VC.stW, VC.stOK, VC.mixF, VC.setAll, Nat.reduceAdd, Nat.reduceSub, Nat.reduceMul, if_true, if_false, ↓reduceIte, forall_const, implies_true, reduceCtorEq, ne_eq, Nat.reduceBNe, Nat.reduceBEq, IntKind.signed, Nat.reduceEqDiff, Nat.reduceLeDiff, Nat.reduceLT, eq_self, Int.reduceEq, Int.reduceLT, Int.reduceLE, Int.reduceAdd, Int.reduceSub, VC.regC_nil, VC.regC_cons, VC.regCK_eq, VC.callQ, VC.tailQ, VC.goCall, VC.chStep]
        intros
        exact hcut _ _ (SAME.walk hJ (by kernel_rfl)) ⟨by rw [hqs]; rfl, hBy, by rw [hqs]; exact hH2⟩
      have a4 := eq_false q4
      by_cases q5 : c.other = c.who
      · have a5 := eq_true q5
        have hqs : qstep n c s = (2, s) := by unfold qstep; rw [if_neg (by omega), if_pos (by omega)]
        simp -dsimp (maxSteps := 2000000) only [Fa.F22, e1, e2, rdI_of z0, z0, rdI_of z1, z1, rdI_of z2, z2, hsl, a1, a2, e3, a3, a4, a5, undef, tu, uf, ul, ur, VC.Now, VC.vc, VC.lib, VC.mapN_drewN, VC.mapB_drewN, VC.regQ, VC.loopK, VC.reg, VC.opP, VC.opS, VC.opZ, VC.nomulB, VC.pv, VC.thenF, VC.blkF, VC.retF, VC.resV, VC.oneV, VC.evo, VC.bin, VC.binI, VC.cmpI, VC.arithI, VC.ldv, VC.slv, VC.pickP, VC.holds, VC.chainOf, VC.look, VC.junk, VC.put, VC.eff, VC.callee, VC.pureB, VC.rdK, VC.rdKs, VC.okKs, VC.eqKs, VC.fillL, VC.putL, VC.stW, VC.stOK, VC.mixF, VC.setAll, Nat.reduceAdd, Nat.reduceSub, Nat.reduceMul, if_true, if_false, ↓reduceIte, forall_const, implies_true, reduceCtorEq, ne_eq, Nat.reduceBNe, Nat.reduceBEq, IntKind.signed, Nat.reduceEqDiff, Nat.reduceLeDiff, Nat.reduceLT, eq_self, Int.reduceEq, Int.reduceLT, Int.reduceLE, Int.reduceAdd, Int.reduceSub, VC.regC_nil, VC.regC_cons, VC.regCK_eq, VC.callQ, VC.tailQ, VC.goCall, VC.chStep]
        intros
        exact hcut _ _ (SAME.walk hJ (by kernel_rfl)) ⟨by rw [hqs]; rfl, hBy, by rw [hqs]; exact hH2⟩
      have a5 := eq_false q5
      clear s0 s1 s2 e7 hc hrb hz0 hkm hr hb hgk hms hmc hQ3 hQ
      generalize qcodes n g k = cl at hH2 nsb hcut
      revert n len cap w rb ob gl gc ga u2 k vc b o s c wy sb Q3 cl
      exact HH.2.1
    · clear hr
      revert A n len cap g w rb ob gl gc ga m u2 k vc wx
      exact HH.2.2
end Go.Proofs.Ytelfmhiaafkimaa
