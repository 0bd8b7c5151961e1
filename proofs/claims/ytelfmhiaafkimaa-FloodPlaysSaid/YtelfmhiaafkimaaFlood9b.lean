/- What some who crash have said: the document's least values. -/
import Derived.Test.YtelfmhiaafkimaaFlood9
namespace Go.Proofs.Ytelfmhiaafkimaa
open Go Go.RowKit Go.VC
set_option linter.unusedSimpArgs false
set_option linter.unusedVariables false
set_option maxRecDepth 8000 in
set_option maxHeartbeats 8000000 in
theorem floodR_end : floodBut.1.2 := by
  unfold floodBut
  intro A0 c0 R A len c val g w hr ht hR hl w4 gk hgk q1 q2 q3 k q4 hv h1 hn hnn36 hnn ej ejx hkm hk e7 m u2 wx r gq tab hrm hBx hH hq hr2
  obtain rfl : r = R := by omega
  have e8 : ((r : Int) < r) = False := eq_false (by omega)
  simp -dsimp (maxSteps := 2000000) only [Fa.F35, e8, VC.Now, VC.vc, VC.lib, VC.mapN_drewN, VC.mapB_drewN, VC.regQ, VC.loopK, VC.reg, VC.opP, VC.opS, VC.opZ, VC.nomulB, VC.pv, VC.thenF, VC.blkF, VC.retF, VC.resV, VC.oneV, VC.evo, VC.bin, VC.binI, VC.cmpI, VC.arithI, VC.ldv, VC.slv, VC.pickP, VC.holds, VC.chainOf, VC.look, VC.junk, VC.put, VC.eff, VC.callee, VC.pureB, VC.rdK, VC.rdKs, VC.okKs, VC.eqKs, VC.fillL, VC.putL, VC.stW, VC.stOK, VC.mixF, VC.setAll, Nat.reduceAdd, Nat.reduceSub, Nat.reduceMul, if_true, if_false, ↓reduceIte, forall_const, implies_true, reduceCtorEq, ne_eq, Nat.reduceBNe, Nat.reduceBEq, IntKind.signed, Nat.reduceEqDiff, Nat.reduceLeDiff, Nat.reduceLT, eq_self, Int.reduceEq, Int.reduceLT, Int.reduceLE, Int.reduceAdd, Int.reduceSub, VC.regC_nil, VC.regC_cons, VC.regCK_eq, VC.callQ, VC.tailQ, VC.goCall, VC.chStep]
  have hHl := hH.free (M := [oOwn 3 1 0 (.slice none 0 0) []]) (fun o ho => by rw [List.mem_singleton.1 ho]; exact ⟨OwnK.nil _ _ _ _, rfl⟩)
  refine loop_slots Fa.mix [19, 18] [20, 21, 118, 119, 120, 121, 122, 123, 124, 125, 126, 127, 128, 129, 130, 131, 132, 133, 134, 135, 136, 137, 138, 139, 140, 141, 142, 143, 144, 145, 146, 147, 148, 149, 150, 151, 152, 153, 154, 155] (fun m vs wx => ∃ (j : Nat) (v : Value), j + m = k ∧ vs = [.int .i64 j, v] ∧ Below gk w wx ∧ Hp gk (TB k gq tab ++ [oOwn 3 1 j v ((List.range j).map fun t => .int .i64 (leastF val (knB k (crs g len) r t) (val t) k))]) wx) k (by kernel_rfl) rfl
    ⟨0, _, by omega, rfl, hBx, hHl⟩ ?_
  clear hHl hH hBx
  rintro m3 vs u3 wx ⟨j, v, hjm, rfl, hBx, hH⟩
  by_cases hj : j < k
  · have e9 : ((j : Int) < k) = True := eq_true (by omega)
    obtain ⟨b, o, rfl, hb0, hc3⟩ := (hv.below (by rw [hgk]; exact hBx)) (by omega)
    have z0 := hc3 j hj 0 _ rfl
    simp only [Nat.mul_one, Nat.add_zero] at z0
    simp -dsimp (maxSteps := 2000000) only [Fa.F35, e9, rdI_of z0, z0, hb0, Int.toNat_natCast, VC.Now, VC.vc, VC.lib, VC.mapN_drewN, VC.mapB_drewN, VC.regQ, VC.loopK, VC.reg, VC.opP, VC.opS, VC.opZ, VC.nomulB, VC.pv, VC.thenF, VC.blkF, VC.retF, VC.resV, VC.oneV, VC.evo, VC.bin, VC.binI, VC.cmpI, VC.arithI, VC.ldv, VC.slv, VC.pickP, VC.holds, VC.chainOf, VC.look, VC.junk, VC.put, VC.eff, VC.callee, VC.pureB, VC.rdK, VC.rdKs, VC.okKs, VC.eqKs, VC.fillL, VC.putL, VC.stW, VC.stOK, VC.mixF, VC.setAll, Nat.reduceAdd, Nat.reduceSub, Nat.reduceMul, if_true, if_false, ↓reduceIte, forall_const, implies_true, reduceCtorEq, ne_eq, Nat.reduceBNe, Nat.reduceBEq, IntKind.signed, Nat.reduceEqDiff, Nat.reduceLeDiff, Nat.reduceLT, eq_self, Int.reduceEq, Int.reduceLT, Int.reduceLE, Int.reduceAdd, Int.reduceSub, VC.regC_nil, VC.regC_cons, VC.regCK_eq, VC.callQ, VC.tailQ, VC.goCall, VC.chStep]
    refine ⟨by omega, ?_⟩
    refine loop_slots Fa.mix [21, 20] [127, 128, 129, 130, 131, 132, 133, 134, 135, 136, 137, 138, 139, 140, 141, 142, 143, 144, 145, 146, 147, 148, 149, 150, 151] (fun m vs wy => ∃ i : Nat, i + m = k ∧ vs = [.int .i64 i, .int .i64 (leastF val (knB k (crs g len) r j) (val j) i)] ∧ wy = wx) k (by kernel_rfl) rfl
      ⟨0, by omega, rfl, rfl⟩ ?_
    rintro m4 vs u4 wy ⟨i, him, rfl, rfl⟩
    by_cases hi : i < k
    · have e10 : ((i : Int) < k) = True := eq_true (by omega)
      have hR1 : Recs wy gq k k (fun x => rowBo k (tab x)) := hH.get 0 rfl
      have c1 := hR1.at hj hi (rowBo_at hi)
      rw [hq j i hj hi] at c1
      have c3 := hR1.1
      have zi := hc3 i hi 0 _ rfl
      simp only [Nat.mul_one, Nat.add_zero] at zi
      have w1 := ej j
      have w2 := ejx j i
      have hx0 := idx_ltB hj hi
      have wa : IntKind.i64.wrap ((j * k : Nat) : Int) = ((j * k : Nat) : Int) := wrapF rfl (by omega)
      have wb : IntKind.i64.wrap ((j * k + i : Nat) : Int) = ((j * k + i : Nat) : Int) := wrapF rfl (by omega)
      have hls : leastF val (knB k (crs g len) r j) (val j) (i + 1) = if knB k (crs g len) r j i = true ∧ val i < leastF val (knB k (crs g len) r j) (val j) i then val i else leastF val (knB k (crs g len) r j) (val j) i := rfl
      obtain ⟨lz, hlz⟩ : ∃ lz, lz = leastF val (knB k (crs g len) r j) (val j) i := ⟨_, rfl⟩
      rw [← hlz] at hls ⊢
      cases hkb : knB k (crs g len) r j i with
      | false =>
        rw [hkb] at c1
        rw [hkb, if_neg (fun h => by cases h.1)] at hls
        simp -dsimp (maxSteps := 2000000) only [Fa.F35, e10, w1, w2, wa, wb, rdB_of c1, c1, c3, Int.toNat_natCast, Nat.zero_add, undef, tu, uf, ul, ur, VC.Now, VC.vc, VC.lib, VC.mapN_drewN, VC.mapB_drewN, VC.regQ, VC.loopK, VC.reg, VC.opP, VC.opS, VC.opZ, VC.nomulB, VC.pv, VC.thenF, VC.blkF, VC.retF, VC.resV, VC.oneV, VC.evo, VC.bin, VC.binI, VC.cmpI, VC.arithI, VC.ldv, VC.slv, VC.pickP, VC.holds, VC.chainOf, VC.look, VC.junk, VC.put, VC.eff, VC.callee, VC.pureB, VC.rdK, VC.rdKs, VC.okKs, VC.eqKs, VC.fillL, VC.putL, VC.stW, VC.stOK, VC.mixF, VC.setAll, Nat.reduceAdd, Nat.reduceSub, Nat.reduceMul, if_true, if_false, ↓reduceIte, forall_const, implies_true, reduceCtorEq, ne_eq, Nat.reduceBNe, Nat.reduceBEq, IntKind.signed, Nat.reduceEqDiff, Nat.reduceLeDiff, Nat.reduceLT, eq_self, Int.reduceEq, Int.reduceLT, Int.reduceLE, Int.reduceAdd, Int.reduceSub, VC.regC_nil, VC.regC_cons, VC.regCK_eq, VC.callQ, VC.tailQ, VC.goCall, VC.chStep]
        refine ⟨⟨by omega, by omega⟩, ?_⟩
        intros
        refine ⟨fits_i64_nat (by omega), SAME.intro (by kernel_rfl), m4 - 1, by omega, i + 1, by omega, by rw [hls]; rfl⟩
      | true =>
        rw [hkb] at c1
        by_cases hlt : val i < lz
        · have e11 : (val i < lz) = True := eq_true hlt
          rw [hkb, if_pos ⟨rfl, hlt⟩] at hls
          simp -dsimp (maxSteps := 2000000) only [Fa.F35, e10, e11, w1, w2, wa, wb, rdB_of c1, c1, c3, rdI_of zi, zi, hb0, Int.toNat_natCast, Nat.zero_add, undef, tu, uf, ul, ur, VC.Now, VC.vc, VC.lib, VC.mapN_drewN, VC.mapB_drewN, VC.regQ, VC.loopK, VC.reg, VC.opP, VC.opS, VC.opZ, VC.nomulB, VC.pv, VC.thenF, VC.blkF, VC.retF, VC.resV, VC.oneV, VC.evo, VC.bin, VC.binI, VC.cmpI, VC.arithI, VC.ldv, VC.slv, VC.pickP, VC.holds, VC.chainOf, VC.look, VC.junk, VC.put, VC.eff, VC.callee, VC.pureB, VC.rdK, VC.rdKs, VC.okKs, VC.eqKs, VC.fillL, VC.putL, VC.stW, VC.stOK, VC.mixF, VC.setAll, Nat.reduceAdd, Nat.reduceSub, Nat.reduceMul, if_true, if_false, ↓reduceIte, forall_const, implies_true, reduceCtorEq, ne_eq, Nat.reduceBNe, Nat.reduceBEq, IntKind.signed, Nat.reduceEqDiff, Nat.reduceLeDiff, Nat.reduceLT, eq_self, Int.reduceEq, Int.reduceLT, Int.reduceLE, Int.reduceAdd, Int.reduceSub, VC.regC_nil, VC.regC_cons, VC.regCK_eq, VC.callQ, VC.tailQ, VC.goCall, VC.chStep]
          refine ⟨⟨by omega, by omega⟩, ?_⟩
          intros
          refine ⟨by omega, ?_⟩
          intros
          refine ⟨by omega, fits_i64_nat (by omega), SAME.intro (by kernel_rfl), m4 - 1, by omega, i + 1, by omega, by rw [hls]; rfl⟩
        · have e11 : (val i < lz) = False := eq_false hlt
          rw [hkb, if_neg (fun h => hlt h.2)] at hls
          simp -dsimp (maxSteps := 2000000) only [Fa.F35, e10, e11, w1, w2, wa, wb, rdB_of c1, c1, c3, rdI_of zi, zi, hb0, Int.toNat_natCast, Nat.zero_add, undef, tu, uf, ul, ur, VC.Now, VC.vc, VC.lib, VC.mapN_drewN, VC.mapB_drewN, VC.regQ, VC.loopK, VC.reg, VC.opP, VC.opS, VC.opZ, VC.nomulB, VC.pv, VC.thenF, VC.blkF, VC.retF, VC.resV, VC.oneV, VC.evo, VC.bin, VC.binI, VC.cmpI, VC.arithI, VC.ldv, VC.slv, VC.pickP, VC.holds, VC.chainOf, VC.look, VC.junk, VC.put, VC.eff, VC.callee, VC.pureB, VC.rdK, VC.rdKs, VC.okKs, VC.eqKs, VC.fillL, VC.putL, VC.stW, VC.stOK, VC.mixF, VC.setAll, Nat.reduceAdd, Nat.reduceSub, Nat.reduceMul, if_true, if_false, ↓reduceIte, forall_const, implies_true, reduceCtorEq, ne_eq, Nat.reduceBNe, Nat.reduceBEq, IntKind.signed, Nat.reduceEqDiff, Nat.reduceLeDiff, Nat.reduceLT, eq_self, Int.reduceEq, Int.reduceLT, Int.reduceLE, Int.reduceAdd, Int.reduceSub, VC.regC_nil, VC.regC_cons, VC.regCK_eq, VC.callQ, VC.tailQ, VC.goCall, VC.chStep]
          refine ⟨⟨by omega, by omega⟩, ?_⟩
          intros
          refine ⟨by omega, ?_⟩
          intros
          refine ⟨fits_i64_nat (by omega), SAME.intro (by kernel_rfl), m4 - 1, by omega, i + 1, by omega, by rw [hls]; rfl⟩
    · obtain rfl : i = k := by omega
      have e10 : ((i : Int) < i) = False := eq_false (by omega)
      simp -dsimp (maxSteps := 2000000) only [Fa.F35, e10, VC.Now, VC.vc, VC.lib, VC.mapN_drewN, VC.mapB_drewN, VC.regQ, VC.loopK, VC.reg, VC.opP, VC.opS, VC.opZ, VC.nomulB, VC.pv, VC.thenF, VC.blkF, VC.retF, VC.resV, VC.oneV, VC.evo, VC.bin, VC.binI, VC.cmpI, VC.arithI, VC.ldv, VC.slv, VC.pickP, VC.holds, VC.chainOf, VC.look, VC.junk, VC.put, VC.eff, VC.callee, VC.pureB, VC.rdK, VC.rdKs, VC.okKs, VC.eqKs, VC.fillL, VC.putL, VC.stW, VC.stOK, VC.mixF, VC.setAll, Nat.reduceAdd, Nat.reduceSub, Nat.reduceMul, if_true, if_false, ↓reduceIte, forall_const, implies_true, reduceCtorEq, ne_eq, Nat.reduceBNe, Nat.reduceBEq, IntKind.signed, Nat.reduceEqDiff, Nat.reduceLeDiff, Nat.reduceLT, eq_self, Int.reduceEq, Int.reduceLT, Int.reduceLE, Int.reduceAdd, Int.reduceSub, VC.regC_nil, VC.regC_cons, VC.regCK_eq, VC.callQ, VC.tailQ, VC.goCall, VC.chStep]
      have hO : OwnK wy 0 3 1 j v ((List.range j).map fun t => .int .i64 (leastF val (knB i (crs g len) r t) (val t) i)) := hH.get 1 rfl
      refine OPW_appK (v := v) rfl Fa.apI23 rfl rfl rfl (by simp [Value.oneCell']) hO (Nat.zero_le _) (by omega) (by decide) fun v8 w8 ho8 hg8 hst8 => ?_
      have hnl : ((List.range j).map fun t => Value.int .i64 (leastF val (knB i (crs g len) r t) (val t) i)) ++ [.int .i64 (leastF val (knB i (crs g len) r j) (val j) i)] = (List.range (j + 1)).map fun t => Value.int .i64 (leastF val (knB i (crs g len) r t) (val t) i) := by rw [List.range_succ, List.map_append]; rfl
      rw [hnl] at ho8
      have st8 := hH.grown 1 rfl ho8 hg8 hst8
      rw [VC.Now, VC.seqK_eq]
      simp -dsimp (maxSteps := 2000000) only [Fa.F35, VC.Now, VC.vc, VC.lib, VC.mapN_drewN, VC.mapB_drewN, VC.regQ, VC.loopK, VC.reg, VC.opP, VC.opS, VC.opZ, VC.nomulB, VC.pv, VC.thenF, VC.blkF, VC.retF, VC.resV, VC.oneV, VC.evo, VC.bin, VC.binI, VC.cmpI, VC.arithI, VC.ldv, VC.slv, VC.pickP, VC.holds, VC.chainOf, VC.look, VC.junk, VC.put, VC.eff, VC.callee, VC.pureB, VC.rdK, VC.rdKs, VC.okKs, VC.eqKs, VC.fillL, VC.putL, VC.stW, VC.stOK, VC.mixF, VC.setAll, Nat.reduceAdd, Nat.reduceSub, Nat.reduceMul, if_true, if_false, ↓reduceIte, forall_const, implies_true, reduceCtorEq, ne_eq, Nat.reduceBNe, Nat.reduceBEq, IntKind.signed, Nat.reduceEqDiff, Nat.reduceLeDiff, Nat.reduceLT, eq_self, Int.reduceEq, Int.reduceLT, Int.reduceLE, Int.reduceAdd, Int.reduceSub, VC.regC_nil, VC.regC_cons, VC.regCK_eq, VC.callQ, VC.tailQ, VC.goCall, VC.chStep]
      exact ⟨fits_i64_nat (by omega), SAME.intro (by kernel_rfl), m3 - 1, by omega, j + 1, v8, by omega, rfl, hBx.trans (st8.below hH), st8.hp⟩
  · obtain rfl : j = k := by omega
    have e9 : ((j : Int) < j) = False := eq_false (by omega)
    have hO : OwnK wx 0 3 1 j v ((List.range j).map fun t => .int .i64 (leastF val (knB j (crs g len) r t) (val t) j)) := hH.get 1 rfl
    obtain ⟨Av, cv, ev, hrv⟩ := sliceV hO
    simp -dsimp (maxSteps := 2000000) only [Fa.F35, e9, VC.Now, VC.vc, VC.lib, VC.mapN_drewN, VC.mapB_drewN, VC.regQ, VC.loopK, VC.reg, VC.opP, VC.opS, VC.opZ, VC.nomulB, VC.pv, VC.thenF, VC.blkF, VC.retF, VC.resV, VC.oneV, VC.evo, VC.bin, VC.binI, VC.cmpI, VC.arithI, VC.ldv, VC.slv, VC.pickP, VC.holds, VC.chainOf, VC.look, VC.junk, VC.put, VC.eff, VC.callee, VC.pureB, VC.rdK, VC.rdKs, VC.okKs, VC.eqKs, VC.fillL, VC.putL, VC.stW, VC.stOK, VC.mixF, VC.setAll, Nat.reduceAdd, Nat.reduceSub, Nat.reduceMul, if_true, if_false, ↓reduceIte, forall_const, implies_true, reduceCtorEq, ne_eq, Nat.reduceBNe, Nat.reduceBEq, IntKind.signed, Nat.reduceEqDiff, Nat.reduceLeDiff, Nat.reduceLT, eq_self, Int.reduceEq, Int.reduceLT, Int.reduceLE, Int.reduceAdd, Int.reduceSub, VC.regC_nil, VC.regC_cons, VC.regCK_eq, VC.callQ, VC.tailQ, VC.goCall, VC.chStep]
    have ev2 : v = .slice Av j cv := by rw [ev]; simp
    exact ⟨Av, cv, by rw [ev2], hrv, hBx⟩
end Go.Proofs.Ytelfmhiaafkimaa
