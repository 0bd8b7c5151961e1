/- What is decided by certified blocks: the document's walk; the law. -/
import Derived.Test.YtnggjekppdlaoaaChainDec2
namespace Go.Proofs.Ytnggjekppdlaoaa
open Go Go.RowKit Go.VC
set_option linter.unusedSimpArgs false
set_option linter.unusedVariables false

set_option maxRecDepth 8000 in
set_option maxHeartbeats 2000000 in
theorem decidedRef_any (A C : Option Addr) (n c d : Nat) (p r : Nat → Int) (cl : List Bool) (w : World) (hr : RdBlk w A n p r) (hC : Rd w C (cl.map Value.bool)) (hcl : cl.length = n) (hok0 : blkCode n p r = 0) :
    Calls Try.prog 52 #[.slice A n c, .slice C n d] w fun e w' => ∃ v, e = .returned v ∧ OwnV w' w.heap.size 4 v ((onL n (decF cl p r n)).map Value.bool) ∧ Below w.heap.size w w' := by
  obtain ⟨hn, hn0, hok⟩ := blkCode_ok hok0
  have hu := up_of hok
  refine calls_vc (rs := [.tmp 4]) Fa.mix Try.func52 rfl Try.ntmps52 rfl (by kernel_rfl) (Nat.le_of_ble_eq_true rfl) ?_
  simp -dsimp only [Fa.F52, VC.Now, VC.vc, VC.lib, VC.regQ, VC.loopK, VC.reg, VC.opP, VC.pv, VC.thenF, VC.blkF, VC.retF, VC.resV, VC.oneV, VC.evo, VC.bin, VC.binI, VC.cmpI, VC.arithI, VC.ldv, VC.slv, VC.pickP, VC.holds, VC.chainOf, VC.look, VC.junk, VC.put, VC.eff, VC.callee, VC.pureB, VC.rdK, VC.rdKs, VC.okKs, VC.eqKs, VC.fillL, VC.putL, VC.stW, VC.stOK, VC.mixF, VC.setAll, Nat.reduceAdd, Nat.reduceSub, Nat.reduceMul, if_true, if_false, ↓reduceIte, forall_const, implies_true, reduceCtorEq, ne_eq, Nat.reduceBNe, Nat.reduceBEq, IntKind.signed, Nat.reduceEqDiff, Nat.reduceLeDiff, Nat.reduceLT, eq_self, Int.reduceEq, Int.reduceLT, Int.reduceLE, Int.reduceAdd, Int.reduceSub, VC.regC_nil, VC.regC_cons, VC.regCK_eq, VC.callQ, VC.tailQ, VC.goCall, VC.chStep]
  refine OPW_make rfl Fa.apI24 rfl rfl rfl rfl (by omega) (by omega) (Nat.le_refl _) fun w1 ho hg => ?_
  have hB1 : Below w.heap.size w w1 := (Below.refl _ w).grown hg (Nat.le_refl _) (fun k hk => by cases hk)
  have ho1 : OwnV w1 w.heap.size 4 (.slice (some ⟨w.heap.size, 0, none⟩) n n) ((onL n (decF cl p r 1)).map Value.bool) := by
    have e : (onL n (decF cl p r 1)).map Value.bool = List.replicate n (.bool false) := by
      rw [decF_skip (by simp [goodB]), show decF cl p r 0 = fun _ => false from rfl, onL_false, List.map_replicate]
    rw [e]; exact OwnV.of ho
  have hgl : w.heap.size < w1.heap.size := by
    obtain ⟨g, cc, hv, h1, h2⟩ := ho1.form (by rw [List.length_map, onL_length]; exact hn0)
    simp only [Value.slice.injEq, Option.some.injEq, Addr.mk.injEq] at hv
    omega
  simp -dsimp only [Fa.F52, VC.Now, VC.vc, VC.lib, VC.regQ, VC.loopK, VC.reg, VC.opP, VC.pv, VC.thenF, VC.blkF, VC.retF, VC.resV, VC.oneV, VC.evo, VC.bin, VC.binI, VC.cmpI, VC.arithI, VC.ldv, VC.slv, VC.pickP, VC.holds, VC.chainOf, VC.look, VC.junk, VC.put, VC.eff, VC.callee, VC.pureB, VC.rdK, VC.rdKs, VC.okKs, VC.eqKs, VC.fillL, VC.putL, VC.stW, VC.stOK, VC.mixF, VC.setAll, Nat.reduceAdd, Nat.reduceSub, Nat.reduceMul, if_true, if_false, ↓reduceIte, forall_const, implies_true, reduceCtorEq, ne_eq, Nat.reduceBNe, Nat.reduceBEq, IntKind.signed, Nat.reduceEqDiff, Nat.reduceLeDiff, Nat.reduceLT, eq_self, Int.reduceEq, Int.reduceLT, Int.reduceLE, Int.reduceAdd, Int.reduceSub, VC.regC_nil, VC.regC_cons, VC.regCK_eq, VC.callQ, VC.tailQ, VC.goCall, VC.chStep]
  refine loop_slots Fa.mix [6] [7, 9, 13, 14, 15, 16, 17, 18, 19, 20, 21, 22, 23, 24, 25, 26, 27, 28, 29, 30, 31, 32, 33, 34, 35, 36, 37, 38, 39, 40, 41, 42, 43, 44, 45, 46, 47, 48, 49, 50, 51, 52, 53, 54, 55, 56, 57, 58, 59] (fun m vs wr => ∃ k : Nat, k + m = n ∧ 1 ≤ k ∧ vs = [.int .i64 k] ∧ OwnV wr w.heap.size 4 (.slice (some ⟨w.heap.size, 0, none⟩) n n) ((onL n (decF cl p r k)).map Value.bool) ∧ Below w.heap.size w wr ∧ w.heap.size < wr.heap.size) (n - 1) (by kernel_rfl) rfl
    ⟨1, by omega, Nat.le_refl _, rfl, ho1, hB1, hgl⟩ ?_
  rintro m vs u wr ⟨k, hkm, hk1, rfl, hor, hB, hgr⟩
  by_cases hk : k < n
  · have hrr := hr.below hB
    have hCr := hC.below hB
    obtain ⟨ab, ao, hAe, hab, hcells⟩ := hrr hn0
    obtain ⟨cb, co, hCe, hcb, hcert⟩ := hCr.all (by omega) false
    obtain ⟨p1, p2⟩ := hu k (by omega) hk
    obtain ⟨b0, hb0⟩ : ∃ b0 : Nat, p k = b0 := ⟨(p k).toNat, by omega⟩
    obtain ⟨q1, q2, _, f2⟩ := hcells k hk
    obtain ⟨q4, q5, _, f5⟩ := hcells b0 (by omega)
    have q3 := hcert k (by omega)
    have q6 := hcert b0 (by omega)
    rw [hb0] at q1
    have hrise : r b0 < r k := by
      have := hok.2.2 k (by omega) hk
      unfold badB at this
      rw [hb0, Int.toNat_natCast] at this
      omega
    have hfit : fits .i64 (r b0 + 1) := by
      have h1 := of_fits_i64 f2; have h2 := of_fits_i64 f5
      exact fits_i64 (by omega) (by omega)
    have hgood : goodB cl p r k = (cl.getD k false && cl.getD b0 false && decide (r k = r b0 + 1)) := by
      unfold goodB; rw [hb0, Int.toNat_natCast, decide_eq_true (by omega)]; simp
    subst hAe; subst hCe
    simp -dsimp only [Fa.F52, rdI_of q1, q1, rdI_of q2, q2, rdB_of q3, q3, rdI_of q4, q4, rdI_of q5, q5, rdB_of q6, q6, VC.Now, VC.vc, VC.lib, VC.regQ, VC.loopK, VC.reg, VC.opP, VC.pv, VC.thenF, VC.blkF, VC.retF, VC.resV, VC.oneV, VC.evo, VC.bin, VC.binI, VC.cmpI, VC.arithI, VC.ldv, VC.slv, VC.pickP, VC.holds, VC.chainOf, VC.look, VC.junk, VC.put, VC.eff, VC.callee, VC.pureB, VC.rdK, VC.rdKs, VC.okKs, VC.eqKs, VC.fillL, VC.putL, VC.stW, VC.stOK, VC.mixF, VC.setAll, Nat.reduceAdd, Nat.reduceSub, Nat.reduceMul, if_true, if_false, ↓reduceIte, forall_const, implies_true, reduceCtorEq, ne_eq, Nat.reduceBNe, Nat.reduceBEq, IntKind.signed, Nat.reduceEqDiff, Nat.reduceLeDiff, Nat.reduceLT, eq_self, Int.reduceEq, Int.reduceLT, Int.reduceLE, Int.reduceAdd, Int.reduceSub, VC.regC_nil, VC.regC_cons, VC.regCK_eq, VC.callQ, VC.tailQ, VC.goCall, VC.chStep]
    refine ⟨fun _ => ?_, fun h => absurd h (by omega)⟩
    repeat first | refine ⟨by omega, ?_⟩ | refine ⟨fun _ => by omega, ?_⟩ | refine ⟨fun _ => hfit, ?_⟩
    intro u1 m1
    refine ⟨fun hgo => ?_, fun hbad => ⟨fits_i64_nat (by omega), SAME.intro (by kernel_rfl), m - 1, by omega, k + 1, by omega, by omega, rfl, ?_, below_drewN hB m1, hgr⟩⟩
    · have hg1 : goodB cl p r k = true := by rw [hgood, hgo.1.1, hgo.1.2, decide_eq_true hgo.2]; rfl
      have hrd : RdBlk (wr.drewN m1) (some ⟨ab, ao, none⟩) n p r := hrr
      refine CALL_ex (pathRef_any _ n c p r hn hu b0 (wr.drewN m1) (by omega) hrd) fun v w3 ⟨⟨A1, c1, hv, hop⟩, hB3⟩ => ?_
      subst hv
      have hB3' : Below wr.heap.size wr w3 := (below_drewN (Below.refl _ wr) m1).trans hB3
      have hpath : OwnV w3 wr.heap.size 3 (.slice A1 (path p b0).length c1) ((path p b0).map (Value.int .i64)) := OwnV.of hop
      have hne := List.length_pos_iff.2 (path_ne hu (show b0 < n by omega))
      obtain ⟨g2, cc2, hv2, hg2, hgl2⟩ := hpath.form (by rw [List.length_map]; exact hne)
      simp only [Value.slice.injEq] at hv2
      obtain ⟨rfl, _, rfl⟩ := hv2
      have hpl := path_length hu b0 (by omega)
      have hor3 := (hor.below hB3')
      simp -dsimp only [Fa.F52, VC.Now, VC.vc, VC.lib, VC.regQ, VC.loopK, VC.reg, VC.opP, VC.pv, VC.thenF, VC.blkF, VC.retF, VC.resV, VC.oneV, VC.evo, VC.bin, VC.binI, VC.cmpI, VC.arithI, VC.ldv, VC.slv, VC.pickP, VC.holds, VC.chainOf, VC.look, VC.junk, VC.put, VC.eff, VC.callee, VC.pureB, VC.rdK, VC.rdKs, VC.okKs, VC.eqKs, VC.fillL, VC.putL, VC.stW, VC.stOK, VC.mixF, VC.setAll, Nat.reduceAdd, Nat.reduceSub, Nat.reduceMul, if_true, if_false, ↓reduceIte, forall_const, implies_true, reduceCtorEq, ne_eq, Nat.reduceBNe, Nat.reduceBEq, IntKind.signed, Nat.reduceEqDiff, Nat.reduceLeDiff, Nat.reduceLT, eq_self, Int.reduceEq, Int.reduceLT, Int.reduceLE, Int.reduceAdd, Int.reduceSub, VC.regC_nil, VC.regC_cons, VC.regCK_eq, VC.callQ, VC.tailQ, VC.goCall, VC.chStep]
      refine loop_slots Fa.mix [52] [9, 53, 54, 55, 56, 57, 58, 59] (fun m2 vs wr2 => ∃ i : Nat, i + m2 = (path p b0).length ∧ vs = [.int .i64 i] ∧ OwnV wr2 w.heap.size 4 (.slice (some ⟨w.heap.size, 0, none⟩) n n) ((onL n (midF cl p r k ((path p b0).take i))).map Value.bool) ∧ Agree (fun j => j = w.heap.size) w3 wr2) (path p b0).length (by kernel_rfl) rfl
        ⟨0, by omega, rfl, by rw [List.take_zero, midF_nil]; exact hor3, Agree.refl _ _⟩ ?_
      rintro m2 vs2 u2 wr2 ⟨i, him, rfl, ho2, hA2⟩
      by_cases hi : i < (path p b0).length
      · have hx := path_mem hu b0 (by omega) (path p b0)[i] (List.getElem_mem hi)
        have y1 : wr2.cell? ⟨g2, i, none⟩ = some (.int .i64 (path p b0)[i]) := by
          rw [hA2.cell hgl2 (by omega), (hpath.at (by rw [List.length_map]; exact hi)).1]; simp [hi]
        obtain ⟨y2, y3⟩ := ho2.at (j := ((path p b0)[i]).toNat) (by rw [List.length_map, onL_length]; omega)
        rw [List.getElem?_map, onL_get (by omega)] at y2
        simp -dsimp only [Fa.F52, rdI_of y1, y1, y2, y3, VC.Now, VC.vc, VC.lib, VC.regQ, VC.loopK, VC.reg, VC.opP, VC.pv, VC.thenF, VC.blkF, VC.retF, VC.resV, VC.oneV, VC.evo, VC.bin, VC.binI, VC.cmpI, VC.arithI, VC.ldv, VC.slv, VC.pickP, VC.holds, VC.chainOf, VC.look, VC.junk, VC.put, VC.eff, VC.callee, VC.pureB, VC.rdK, VC.rdKs, VC.okKs, VC.eqKs, VC.fillL, VC.putL, VC.stW, VC.stOK, VC.mixF, VC.setAll, Nat.reduceAdd, Nat.reduceSub, Nat.reduceMul, if_true, if_false, ↓reduceIte, forall_const, implies_true, reduceCtorEq, ne_eq, Nat.reduceBNe, Nat.reduceBEq, IntKind.signed, Nat.reduceEqDiff, Nat.reduceLeDiff, Nat.reduceLT, eq_self, Int.reduceEq, Int.reduceLT, Int.reduceLE, Int.reduceAdd, Int.reduceSub, VC.regC_nil, VC.regC_cons, VC.regCK_eq, VC.callQ, VC.tailQ, VC.goCall, VC.chStep]
        have hst := ho2.stored ((path p b0)[i]).toNat (.bool true)
        have etk : (path p b0).take (i + 1) = (path p b0).take i ++ [(path p b0)[i]] := List.take_succ_eq_append_getElem hi
        rw [← List.map_set, midF_snoc hx.1, ← etk] at hst
        exact ⟨fun _ => ⟨by omega, by omega, fits_i64_nat (by omega), SAME.intro (by kernel_rfl), m2 - 1, by omega, i + 1, by omega, rfl, hst, hA2.trans (Agree.setCell wr2 (a := ⟨w.heap.size, _, none⟩) _ rfl)⟩, fun h => absurd h (by omega)⟩
      · obtain rfl : i = (path p b0).length := by omega
        rw [List.take_length, midF_end hg1 (by intro x; rw [hb0, Int.toNat_natCast])] at ho2
        have hs2 := hA2.size
        have hs3 := hB3'.size
        simp -dsimp only [Fa.F52, VC.Now, VC.vc, VC.lib, VC.regQ, VC.loopK, VC.reg, VC.opP, VC.pv, VC.thenF, VC.blkF, VC.retF, VC.resV, VC.oneV, VC.evo, VC.bin, VC.binI, VC.cmpI, VC.arithI, VC.ldv, VC.slv, VC.pickP, VC.holds, VC.chainOf, VC.look, VC.junk, VC.put, VC.eff, VC.callee, VC.pureB, VC.rdK, VC.rdKs, VC.okKs, VC.eqKs, VC.fillL, VC.putL, VC.stW, VC.stOK, VC.mixF, VC.setAll, Nat.reduceAdd, Nat.reduceSub, Nat.reduceMul, if_true, if_false, ↓reduceIte, forall_const, implies_true, reduceCtorEq, ne_eq, Nat.reduceBNe, Nat.reduceBEq, IntKind.signed, Nat.reduceEqDiff, Nat.reduceLeDiff, Nat.reduceLT, eq_self, Int.reduceEq, Int.reduceLT, Int.reduceLE, Int.reduceAdd, Int.reduceSub, VC.regC_nil, VC.regC_cons, VC.regCK_eq, VC.callQ, VC.tailQ, VC.goCall, VC.chStep]
        exact ⟨fits_i64_nat (by omega), SAME.intro (by kernel_rfl), m - 1, by omega, k + 1, by omega, by omega, rfl, ho2, hA2.to_below (hB.trans (hB3'.mono hB.size)) (by omega) (by rintro j rfl; exact Nat.le_refl _), by omega⟩
    · have hg0 : goodB cl p r k = false := by
        rw [hgood]
        cases h1 : cl.getD k false <;> cases h2 : cl.getD b0 false <;> simp_all
      rw [decF_skip hg0]
      exact hor.drewN m1
  · obtain rfl : k = n := by omega
    obtain ⟨g, cc, hv, _, _⟩ := hor.form (by rw [List.length_map, onL_length]; exact hn0)
    simp -dsimp only [Fa.F52, VC.Now, VC.vc, VC.lib, VC.regQ, VC.loopK, VC.reg, VC.opP, VC.pv, VC.thenF, VC.blkF, VC.retF, VC.resV, VC.oneV, VC.evo, VC.bin, VC.binI, VC.cmpI, VC.arithI, VC.ldv, VC.slv, VC.pickP, VC.holds, VC.chainOf, VC.look, VC.junk, VC.put, VC.eff, VC.callee, VC.pureB, VC.rdK, VC.rdKs, VC.okKs, VC.eqKs, VC.fillL, VC.putL, VC.stW, VC.stOK, VC.mixF, VC.setAll, Nat.reduceAdd, Nat.reduceSub, Nat.reduceMul, if_true, if_false, ↓reduceIte, forall_const, implies_true, reduceCtorEq, ne_eq, Nat.reduceBNe, Nat.reduceBEq, IntKind.signed, Nat.reduceEqDiff, Nat.reduceLeDiff, Nat.reduceLT, eq_self, Int.reduceEq, Int.reduceLT, Int.reduceLE, Int.reduceAdd, Int.reduceSub, VC.regC_nil, VC.regC_cons, VC.regCK_eq, VC.callQ, VC.tailQ, VC.goCall, VC.chStep]
    exact ⟨_, rfl, hor, hB⟩

open Classical in
noncomputable def deCode (n : Nat) (p r : Nat → Int) (m : Nat) : Int := if blkCode n p r = 0 then if m = n then 0 else 2 else blkCode n p r

set_option maxRecDepth 8000 in
set_option maxHeartbeats 1000000 in
theorem chainDecided_any (A C : Option Addr) (n c m d : Nat) (p r : Nat → Int) (cl : List Bool) (w : World) (hr : RdBlk w A n p r) (hC : Rd w C (cl.map Value.bool)) (hcl : cl.length = m) :
    Calls Try.prog 49 #[.slice A n c, .slice C m d] w fun e w' => ∃ v, e = .returned v ∧ (deCode n p r m ≠ 0 → v = .tuple #[.slice none 0 0, .int .i64 (deCode n p r m)]) ∧
      (deCode n p r m = 0 → ∃ B q, v = .tuple #[.slice B n q, .int .i64 0] ∧ OwnV w' w.heap.size 4 (.slice B n q) ((onL n (decF cl p r n)).map Value.bool)) ∧ Below w.heap.size w w' := by
  refine calls_vc (rs := [.tmp 4, .tmp 5]) Fa.mix Try.func49 rfl Try.ntmps49 rfl (by kernel_rfl) (Nat.le_of_ble_eq_true rfl) ?_
  simp -dsimp only [Fa.F49, VC.Now, VC.vc, VC.lib, VC.regQ, VC.loopK, VC.reg, VC.opP, VC.pv, VC.thenF, VC.blkF, VC.retF, VC.resV, VC.oneV, VC.evo, VC.bin, VC.binI, VC.cmpI, VC.arithI, VC.ldv, VC.slv, VC.pickP, VC.holds, VC.chainOf, VC.look, VC.junk, VC.put, VC.eff, VC.callee, VC.pureB, VC.rdK, VC.rdKs, VC.okKs, VC.eqKs, VC.fillL, VC.putL, VC.stW, VC.stOK, VC.mixF, VC.setAll, Nat.reduceAdd, Nat.reduceSub, Nat.reduceMul, if_true, if_false, ↓reduceIte, forall_const, implies_true, reduceCtorEq, ne_eq, Nat.reduceBNe, Nat.reduceBEq, IntKind.signed, Nat.reduceEqDiff, Nat.reduceLeDiff, Nat.reduceLT, eq_self, Int.reduceEq, Int.reduceLT, Int.reduceLE, Int.reduceAdd, Int.reduceSub, VC.regC_nil, VC.regC_cons, VC.regCK_eq, VC.callQ, VC.tailQ, VC.goCall, VC.chStep]
  refine CALL_of (chainCheck_any A n c p r w hr) fun w1 hB1 => ?_
  simp -dsimp only [Fa.F49, VC.Now, VC.vc, VC.lib, VC.regQ, VC.loopK, VC.reg, VC.opP, VC.pv, VC.thenF, VC.blkF, VC.retF, VC.resV, VC.oneV, VC.evo, VC.bin, VC.binI, VC.cmpI, VC.arithI, VC.ldv, VC.slv, VC.pickP, VC.holds, VC.chainOf, VC.look, VC.junk, VC.put, VC.eff, VC.callee, VC.pureB, VC.rdK, VC.rdKs, VC.okKs, VC.eqKs, VC.fillL, VC.putL, VC.stW, VC.stOK, VC.mixF, VC.setAll, Nat.reduceAdd, Nat.reduceSub, Nat.reduceMul, if_true, if_false, ↓reduceIte, forall_const, implies_true, reduceCtorEq, ne_eq, Nat.reduceBNe, Nat.reduceBEq, IntKind.signed, Nat.reduceEqDiff, Nat.reduceLeDiff, Nat.reduceLT, eq_self, Int.reduceEq, Int.reduceLT, Int.reduceLE, Int.reduceAdd, Int.reduceSub, VC.regC_nil, VC.regC_cons, VC.regCK_eq, VC.callQ, VC.tailQ, VC.goCall, VC.chStep]
  refine ⟨fun h => ?_, fun h => ⟨fun h1 => ?_, fun h1 => ?_⟩⟩
  · have hm : deCode n p r m = blkCode n p r := by unfold deCode; rw [if_neg h]
    rw [hm]
    exact ⟨_, rfl, fun _ => rfl, fun h' => absurd h' h, hB1⟩
  · have hm : deCode n p r m = 2 := by unfold deCode; rw [if_pos h, if_neg (by omega)]
    rw [hm]
    exact ⟨_, rfl, fun _ => rfl, fun h' => absurd h' (by omega), hB1⟩
  · obtain rfl : m = n := by omega
    have hm : deCode m p r m = 0 := by unfold deCode; rw [if_pos h, if_pos rfl]
    refine CALL_ex (decided_any A C m c d p r cl w1 (hr.below hB1) (hC.below hB1) hcl h) fun v w2 ⟨⟨B, q, hv, ho⟩, hB2⟩ => ?_
    rw [List.length_map, onL_length] at hv ho
    subst hv
    simp -dsimp only [Fa.F49, VC.Now, VC.vc, VC.lib, VC.regQ, VC.loopK, VC.reg, VC.opP, VC.pv, VC.thenF, VC.blkF, VC.retF, VC.resV, VC.oneV, VC.evo, VC.bin, VC.binI, VC.cmpI, VC.arithI, VC.ldv, VC.slv, VC.pickP, VC.holds, VC.chainOf, VC.look, VC.junk, VC.put, VC.eff, VC.callee, VC.pureB, VC.rdK, VC.rdKs, VC.okKs, VC.eqKs, VC.fillL, VC.putL, VC.stW, VC.stOK, VC.mixF, VC.setAll, Nat.reduceAdd, Nat.reduceSub, Nat.reduceMul, if_true, if_false, ↓reduceIte, forall_const, implies_true, reduceCtorEq, ne_eq, Nat.reduceBNe, Nat.reduceBEq, IntKind.signed, Nat.reduceEqDiff, Nat.reduceLeDiff, Nat.reduceLT, eq_self, Int.reduceEq, Int.reduceLT, Int.reduceLE, Int.reduceAdd, Int.reduceSub, VC.regC_nil, VC.regC_cons, VC.regCK_eq, VC.callQ, VC.tailQ, VC.goCall, VC.chStep]
    exact ⟨_, rfl, fun h' => absurd hm h', fun _ => ⟨B, q, rfl, (OwnV.of ho).mono hB1.size⟩, hB1.trans (hB2.mono hB1.size)⟩

end Go.Proofs.Ytnggjekppdlaoaa
